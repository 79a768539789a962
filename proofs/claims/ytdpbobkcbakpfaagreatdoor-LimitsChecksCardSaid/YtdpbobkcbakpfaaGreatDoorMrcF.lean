/- Texts of this proof, laid one behind the other (B1, De1, Ab191, Rg0, Sz0, Sz1, Sz2, Lk, Ac, Lb0, Lb1, Na, Nb, Cf). -/
import Derived.Shelf.Small.Strs
import Derived.Shelf.Strings.Prefix
import Derived.Shelf.Strings.Search3
import Derived.Shelf.Strings.SlTrimAscii
import Derived.Shelf.GgClosure.StringsIndexFuncTop
import Derived.Test.YtdpbobkcbakpfaaGreatDoorProg
import Derived.WalkKit
import Derived.Below
import Derived.Test.YtdpbobkcbakpfaaGreatDoorMrcE
namespace Go.Proofs.YtdpbobkcbakpfaaGreatDoor
open Go Go.Ab
set_option maxRecDepth 100000
theorem P19 (b : Bool) : PSp Tryz.prog 19 [.one (.t (.bool (b)))] (.one (.t (I (if b then 1 else 0)))) := by
  refine k19.pureK (by simp) rfl rfl ?_
  cases q0 : b
  · simp -implicitDefEqProofs [c19r0, c19r1, c19r2, c19r3, c19, pureEnd, *]
  · simp -implicitDefEqProofs [c19r0, c19r1, c19r2, c19r3, c19, pureEnd, *]
theorem P30 (k : Int) : PSp Tryz.prog 30 [.one (.t (I (k)))] (.one (.t (.bool (k == 11 || k == 12)))) := by
  refine k30.pureK (by simp) rfl rfl ?_
  simp -implicitDefEqProofs [c30r0, c30r1, c30, pureEnd, *]
theorem P60 (k : Int) : PSp Tryz.prog 60 [.one (.t (I (k)))] (.one (.t (.bool (k == 6 || k == 4 || k == 5)))) := by
  refine k60.pureK (by simp) rfl rfl ?_
  simp -implicitDefEqProofs [c60r0, c60r1, c60, pureEnd, *]
theorem P61 (k : Int) : PSp Tryz.prog 61 [.one (.t (I (k)))] (.one (.t (.bool (k == 11 || k == 12)))) := by
  refine k61.pureK (by simp) rfl rfl ?_
  simp -implicitDefEqProofs [c61r0, c61r1, c61, pureEnd, *]
theorem P133 (k : Int) : PSp Tryz.prog 133 [.one (.t (I (k)))] (.one (.t (I (if k == 11 || k == 12 then 40 else 200)))) := by
  refine k133.pureK (by simp) rfl rfl ?_
  rcases beqCases k 11 with rfl | q0
  · simp -implicitDefEqProofs [c133r0, c133r1, c133r2, c133r3, c133, *]
    all_goals (refine callK.tree (P30 _) (by first | rfl | simp [D.flatT]) ?_; simp -implicitDefEqProofs [pureEnd, *])
  · rcases beqCases k 12 with rfl | q1
    · simp -implicitDefEqProofs [c133r0, c133r1, c133r2, c133r3, c133, *]
      all_goals (refine callK.tree (P30 _) (by first | rfl | simp [D.flatT]) ?_; simp -implicitDefEqProofs [pureEnd, *])
    · simp -implicitDefEqProofs [c133r0, c133r1, c133r2, c133r3, c133, *]
      all_goals (refine callK.tree (P30 _) (by first | rfl | simp [D.flatT]) ?_; simp -implicitDefEqProofs [pureEnd, *])
theorem P170 (n lo hi : Int) : PSp Tryz.prog 170 [.one (.t (I (n))), .one (.t (I (lo))), .one (.t (I (hi)))] (.one (.t (.bool (decide (lo ≤ n) && decide (n ≤ hi))))) := by
  refine k170.pureK (by simp) rfl rfl ?_
  simp -implicitDefEqProofs [c170r0, c170r1, c170, pureEnd, *]
theorem P171 (b : Bool) (e : Int) : PSp Tryz.prog 171 [.one (.t (.bool (b))), .one (.t (I (e)))] (.one (.t (I (if b then 0 else e)))) := by
  refine k171.pureK (by simp) rfl rfl ?_
  cases q0 : b
  · simp -implicitDefEqProofs [c171r0, c171r1, c171r2, c171r3, c171, pureEnd, *]
  · simp -implicitDefEqProofs [c171r0, c171r1, c171r2, c171r3, c171, pureEnd, *]
theorem P177 (k : Int) : PSp Tryz.prog 177 [.one (.t (I (k)))] (.one (.t (.bool (k == 11 || k == 12)))) := by
  refine k177.pureK (by simp) rfl rfl ?_
  simp -implicitDefEqProofs [c177r0, c177r1, c177, pureEnd, *]
theorem P212 (k : Int) : PSp Tryz.prog 212 [.one (.t (I (k)))] (.one (.t (.bool (k == 9 || k == 10)))) := by
  refine k212.pureK (by simp) rfl rfl ?_
  simp -implicitDefEqProofs [c212r0, c212r1, c212, pureEnd, *]
theorem P172 (k : Int) : PSp Tryz.prog 172 [.one (.t (I (k)))] (.one (.t (.bool (k == 9 || k == 10 || k == 13)))) := by
  refine k172.pureK (by simp) rfl rfl ?_
  simp -implicitDefEqProofs [c172r0, c172r1, c172, pureEnd, *]
  all_goals (refine callK.tree (P212 _) (by first | rfl | simp [D.flatT]) ?_; simp -implicitDefEqProofs [*])
theorem P148 (k : Int) : PSp Tryz.prog 148 [.one (.t (I (k)))] (.one (.t (.bool (k == 9 || k == 10 || k == 13 || k == 15)))) := by
  refine k148.pureK (by simp) rfl rfl ?_
  rcases beqCases k 9 with rfl | q0
  · simp -implicitDefEqProofs [c148r0, c148r1, c148, pureEnd, *]
    all_goals (refine callK.tree (P172 _) (by first | rfl | simp [D.flatT]) ?_; simp -implicitDefEqProofs [*])
  · rcases beqCases k 10 with rfl | q1
    · simp -implicitDefEqProofs [c148r0, c148r1, c148, pureEnd, *]
      all_goals (refine callK.tree (P172 _) (by first | rfl | simp [D.flatT]) ?_; simp -implicitDefEqProofs [*])
    · rcases beqCases k 13 with rfl | q2
      · simp -implicitDefEqProofs [c148r0, c148r1, c148, pureEnd, *]
        all_goals (refine callK.tree (P172 _) (by first | rfl | simp [D.flatT]) ?_; simp -implicitDefEqProofs [*])
      · simp -implicitDefEqProofs [c148r0, c148r1, c148, pureEnd, *]
        all_goals (refine callK.tree (P172 _) (by first | rfl | simp [D.flatT]) ?_; simp -implicitDefEqProofs [*])
theorem P184 (n : Int) : PSp Tryz.prog 184 [.one (.t (I (n)))] (.one (.t (.bool (decide (-1152921504606846976 ≤ n) && decide (n ≤ 1152921504606846976))))) := by
  refine k184.pureK (by simp) rfl rfl ?_
  simp -implicitDefEqProofs [c184r0, c184r1, c184, pureEnd, *]
  all_goals (refine callK.tree (P170 _ _ _) (by first | rfl | simp [D.flatT]) ?_; simp -implicitDefEqProofs [*])
theorem P235 (k : Int) : PSp Tryz.prog 235 [.one (.t (I (k)))] (.one (.t (.bool (k == 9 || k == 10 || k == 13)))) := by
  refine k235.pureK (by simp) rfl rfl ?_
  simp -implicitDefEqProofs [c235r0, c235r1, c235, pureEnd, *]
theorem P240 (c : Int) : PSp Tryz.prog 240 [.one (.t (.int .u8 (c)))] (.one (.t (.bool (decide (97 ≤ c) && decide (c ≤ 122))))) := by
  refine k240.pureK (by simp) rfl rfl ?_
  simp -implicitDefEqProofs [c240r0, c240r1, c240, pureEnd, *]
theorem P241 (c : Int) : PSp Tryz.prog 241 [.one (.t (.int .u8 (c)))] (.one (.t (.bool (decide (65 ≤ c) && decide (c ≤ 90))))) := by
  refine k241.pureK (by simp) rfl rfl ?_
  simp -implicitDefEqProofs [c241r0, c241r1, c241, pureEnd, *]
theorem P242 (c : Int) : PSp Tryz.prog 242 [.one (.t (.int .u8 (c)))] (.one (.t (.bool (decide (48 ≤ c) && decide (c ≤ 57))))) := by
  refine k242.pureK (by simp) rfl rfl ?_
  simp -implicitDefEqProofs [c242r0, c242r1, c242, pureEnd, *]
theorem P260 (c : Int) : PSp Tryz.prog 260 [.one (.t (.int .u8 (c)))] (.one (.t (.bool (decide (48 ≤ c) && decide (c ≤ 57))))) := by
  refine k260.pureK (by simp) rfl rfl ?_
  simp -implicitDefEqProofs [c260r0, c260r1, c260, pureEnd, *]
theorem P257 (c : Int) : PSp Tryz.prog 257 [.one (.t (.int .u8 (c)))] (.one (.t (.bool ((decide (97 ≤ c) && decide (c ≤ 122)) || (decide (65 ≤ c) && decide (c ≤ 90)))))) := by
  refine k257.pureK (by simp) rfl rfl ?_
  rcases leCases (97) (c) with q0 | q0
  · rcases leCases (c) (122) with q1 | q1
    · rcases leCases (65) (c) with q2 | q2
      · simp -implicitDefEqProofs [c257r0, c257r1, c257, pureEnd, *]
      · simp -implicitDefEqProofs [c257r0, c257r1, c257, pureEnd, *]
    · rcases leCases (65) (c) with q2 | q2
      · simp -implicitDefEqProofs [c257r0, c257r1, c257, pureEnd, *]
      · simp -implicitDefEqProofs [c257r0, c257r1, c257, pureEnd, *]
  · rcases leCases (c) (122) with q1 | q1
    · rcases leCases (65) (c) with q2 | q2
      · simp -implicitDefEqProofs [c257r0, c257r1, c257, pureEnd, *]
      · simp -implicitDefEqProofs [c257r0, c257r1, c257, pureEnd, *]
    · rcases leCases (65) (c) with q2 | q2
      · simp -implicitDefEqProofs [c257r0, c257r1, c257, pureEnd, *]
      · simp -implicitDefEqProofs [c257r0, c257r1, c257, pureEnd, *]
theorem P284 (c : Int) : PSp Tryz.prog 284 [.one (.t (I (c)))] (.one (.t (.bool (false)))) := by
  refine k284.pureK (by simp) rfl rfl ?_
  simp -implicitDefEqProofs [c284r0, c284r1, c284, pureEnd, *]
theorem P201 (k : Int) : PSp Tryz.prog 201 [.one (.t (I (k)))] (.one (.t (.bool (k == 9 || k == 12)))) := by
  refine k201.pureK (by simp) rfl rfl ?_
  simp -implicitDefEqProofs [c201r0, c201r1, c201, pureEnd, *]
theorem P49 (k : Int) : PSp Tryz.prog 49 [.one (.t (I (k)))] (.one (.t (I (if k == 2 then 1 else if k == 6 then 2 else if k == 4 || k == 5 then 3 else if k == 11 || k == 12 then 4 else 0)))) := by
  refine k49.pureK (by simp) rfl rfl ?_
  rcases beqCases k 2 with rfl | q0
  · simp -implicitDefEqProofs [c49r0, c49r1, c49r2, c49r3, c49r4, c49r5, c49r6, c49r7, c49r8, c49r9, c49r10, c49r11, c49r12, c49, pureEnd, *]
  · rcases beqCases k 6 with rfl | q1
    · simp -implicitDefEqProofs [c49r0, c49r1, c49r2, c49r3, c49r4, c49r5, c49r6, c49r7, c49r8, c49r9, c49r10, c49r11, c49r12, c49, pureEnd, *]
    · rcases beqCases k 4 with rfl | q2
      · simp -implicitDefEqProofs [c49r0, c49r1, c49r2, c49r3, c49r4, c49r5, c49r6, c49r7, c49r8, c49r9, c49r10, c49r11, c49r12, c49, pureEnd, *]
      · rcases beqCases k 5 with rfl | q3
        · simp -implicitDefEqProofs [c49r0, c49r1, c49r2, c49r3, c49r4, c49r5, c49r6, c49r7, c49r8, c49r9, c49r10, c49r11, c49r12, c49, pureEnd, *]
        · rcases beqCases k 11 with rfl | q4
          · simp -implicitDefEqProofs [c49r0, c49r1, c49r2, c49r3, c49r4, c49r5, c49r6, c49r7, c49r8, c49r9, c49r10, c49r11, c49r12, c49, pureEnd, *]
          · rcases beqCases k 12 with rfl | q5
            · simp -implicitDefEqProofs [c49r0, c49r1, c49r2, c49r3, c49r4, c49r5, c49r6, c49r7, c49r8, c49r9, c49r10, c49r11, c49r12, c49, pureEnd, *]
            · simp -implicitDefEqProofs [c49r0, c49r1, c49r2, c49r3, c49r4, c49r5, c49r6, c49r7, c49r8, c49r9, c49r10, c49r11, c49r12, c49, pureEnd, *]
theorem P115 (k a : Int) : PSp Tryz.prog 115 [.one (.t (I (k))), .one (.t (I (a)))] (.one (.t (.bool (if k == 0 then (a == 1 || a == 5 || a == 6) else if k == 1 then (a == 2 || a == 3 || a == 6) else if k == 2 then (a == 2 || a == 3 || a == 4) else if k == 3 then a == 2 else true)))) := by
  refine k115.pureK (by simp) rfl rfl ?_
  rcases beqCases k 0 with rfl | q0
  · simp -implicitDefEqProofs [c115r0, c115r1, c115r2, c115r3, c115r4, c115r5, c115r6, c115r7, c115r8, c115r9, c115r10, c115, pureEnd, *]
  · rcases beqCases k 1 with rfl | q1
    · simp -implicitDefEqProofs [c115r0, c115r1, c115r2, c115r3, c115r4, c115r5, c115r6, c115r7, c115r8, c115r9, c115r10, c115, pureEnd, *]
    · rcases beqCases k 2 with rfl | q2
      · simp -implicitDefEqProofs [c115r0, c115r1, c115r2, c115r3, c115r4, c115r5, c115r6, c115r7, c115r8, c115r9, c115r10, c115, pureEnd, *]
      · rcases beqCases k 3 with rfl | q3
        · simp -implicitDefEqProofs [c115r0, c115r1, c115r2, c115r3, c115r4, c115r5, c115r6, c115r7, c115r8, c115r9, c115r10, c115, pureEnd, *]
        · simp -implicitDefEqProofs [c115r0, c115r1, c115r2, c115r3, c115r4, c115r5, c115r6, c115r7, c115r8, c115r9, c115r10, c115, pureEnd, *]
end Go.Proofs.YtdpbobkcbakpfaaGreatDoor

namespace Go.Proofs.YtdpbobkcbakpfaaGreatDoor
open Go Go.Ab
set_option maxRecDepth 100000
section
variable {P : Program} {n : Nat} {A : Exit → St → Prop} {ks : List KF} {st : St} {x : ACode}
theorem post_mono {J J' : St → Prop} (h : awpK P n A x (.post J :: ks) st) (hJ : ∀ st', J st' → J' st') : W P n x (kont P n A (.post J' :: ks)) st := by
  refine (W.of_awp x _ st h).mono fun e st' hq => ?_
  cases e with
  | normal => exact hJ st' hq
  | _ => exact hq
theorem loopN (len : Nat) (J : Nat → St → Prop) (h0 : J 0 st) (round : ∀ i st, i < len → J i st → awpK P n A x (.post (J (i + 1)) :: ks) st) (last : ∀ st, J len st → awpK P n A x (.post (fun _ => False) :: ks) st) :
    W P n (.loop x) (kont P n A ks) st := by
  refine W.loop (fun k st => ∃ i, k = len - i ∧ i ≤ len ∧ J i st) len ⟨0, by omega, by omega, h0⟩ ?_
  rintro k st ⟨i, rfl, hi, hJ⟩
  rcases Nat.lt_or_ge i len with h | h
  · exact post_mono (round i st h hJ) fun st' hs => ⟨len - (i + 1), by omega, i + 1, rfl, by omega, hs⟩
  · have : i = len := by omega
    subst this
    exact post_mono (last st hJ) fun st' h => h.elim
theorem loopAny {α : Type} (l : List α) (bad : α → Bool) (J : Nat → St → Prop) (h0 : J 0 st)
    (hit : ∀ i y st, l[i]? = some y → bad y = true → l.any bad = true → J i st → awpK P n A x (.post (fun _ => False) :: ks) st)
    (miss : ∀ i y st, l[i]? = some y → bad y = false → J i st → awpK P n A x (.post (J (i + 1)) :: ks) st)
    (last : ∀ st, l.any bad = false → J l.length st → awpK P n A x (.post (fun _ => False) :: ks) st) : W P n (.loop x) (kont P n A ks) st := by
  refine W.loop (fun k st => ∃ i, k = l.length - i ∧ i ≤ l.length ∧ (l.take i).any bad = false ∧ J i st) l.length ⟨0, by omega, by omega, by simp, h0⟩ ?_
  rintro k st ⟨i, rfl, hi, ha, hJ⟩
  rcases Nat.lt_or_ge i l.length with h | h
  · have hy : l[i]? = some l[i] := List.getElem?_eq_getElem h
    cases hb : bad l[i] with
    | true => exact post_mono (hit i _ st hy hb (List.any_eq_true.2 ⟨_, List.getElem_mem h, hb⟩) hJ) fun _ h => h.elim
    | false =>
      refine post_mono (miss i _ st hy hb hJ) fun st' hs => ⟨l.length - (i + 1), by omega, i + 1, rfl, by omega, ?_, hs⟩
      have e : List.take (i + 1) l = List.take i l ++ [l[i]] := by rw [List.take_add_one, hy]; rfl
      rw [e, List.any_append, ha]
      simp [hb]
  · have : i = l.length := by omega
    subst this
    rw [List.take_length] at ha
    exact post_mono (last st ha hJ) fun st' h => h.elim
theorem loopEach {α : Type} (l : List α) (bad : α → Bool) (J : Nat → St → Prop) (h0 : J 0 st)
    (round : ∀ i y st, i < l.length → l[i]? = some y → y ∈ l → (bad y = true → l.any bad = true) → J i st → awpK P n A x (.post (fun st' => bad y = false ∧ J (i + 1) st') :: ks) st)
    (last : ∀ st, l.any bad = false → J l.length st → awpK P n A x (.post (fun _ => False) :: ks) st) : W P n (.loop x) (kont P n A ks) st := by
  refine W.loop (fun k st => ∃ i, k = l.length - i ∧ i ≤ l.length ∧ (l.take i).any bad = false ∧ J i st) l.length ⟨0, by omega, by omega, by simp, h0⟩ ?_
  rintro k st ⟨i, rfl, hi, ha, hJ⟩
  rcases Nat.lt_or_ge i l.length with h | h
  · have hy : l[i]? = some l[i] := List.getElem?_eq_getElem h
    refine post_mono (round i _ st h hy (List.getElem_mem h) (fun hb => List.any_eq_true.2 ⟨_, List.getElem_mem h, hb⟩) hJ) fun st' hs => ⟨l.length - (i + 1), by omega, i + 1, rfl, by omega, ?_, hs.2⟩
    have e : List.take (i + 1) l = List.take i l ++ [l[i]] := by rw [List.take_add_one, hy]; rfl
    rw [e, List.any_append, ha]
    simp [hs.1]
  · have : i = l.length := by omega
    subst this
    rw [List.take_length] at ha
    exact post_mono (last st ha hJ) fun st' h => h.elim
theorem rowAtM {α : Type} {l : List α} {g : α → List T} {i : Nat} {y : α} (h : l[i]? = some y) : ∀ hh, (l.map g)[i]'hh = g y := fun hh => by
  rw [List.getElem_map]; congr 1; exact (List.getElem?_eq_some_iff.1 h).2
end
end Go.Proofs.YtdpbobkcbakpfaaGreatDoor

namespace Go.Ab
open Go
def gOk : D → Prop
  | .one (.t (.bool _)) => True
  | .one .undef => True
  | _ => False
def gV (d : D) (b : Bool) : Bool :=
  match d with
  | .one (.t (.bool c)) => c == b
  | _ => false
theorem guardOk_some {tm : Nat → D} {s : Nat} {b : Bool} : guardOk tm (some (s, b)) = gOk (tm s) := rfl
theorem guardOk_none {tm : Nat → D} : guardOk tm none = True := rfl
theorem gval_some {tm : Nat → D} {s : Nat} {b : Bool} : gval tm (some (s, b)) = gV (tm s) b := rfl
theorem gval_none {tm : Nat → D} : gval tm none = true := rfl
theorem gOk_bool {c : Bool} : gOk (.one (.t (.bool c))) = True := rfl
theorem gOk_undef : gOk (.one .undef) = True := rfl
theorem gOk_sel {g c : Bool} : gOk (sel g (.one (.t (.bool c))) (.one .undef)) = True := by cases g <;> rfl
theorem gV_true {c : Bool} : gV (.one (.t (.bool c))) true = c := by cases c <;> rfl
theorem gV_false {c : Bool} : gV (.one (.t (.bool c))) false = !c := by cases c <;> rfl
theorem gV_undef {b : Bool} : gV (.one .undef) b = false := rfl
theorem gV_sel_true {g c : Bool} : gV (sel g (.one (.t (.bool c))) (.one .undef)) true = (g && c) := by cases g <;> cases c <;> rfl
theorem gV_sel_false {g c : Bool} : gV (sel g (.one (.t (.bool c))) (.one .undef)) false = (g && !c) := by cases g <;> cases c <;> rfl
theorem sel_pick {g c : Bool} {u a b v : D} : sel g ((sel g (.one (.t (.bool c))) u).pick a b) v = sel g (sel c a b) v := by cases g <;> cases c <;> rfl
theorem sel_and_left {g x : Bool} {a u b v : D} : sel g (sel x (sel (g && x) a u) b) v = sel g (sel x a b) v := by cases g <;> cases x <;> rfl
theorem sel_and_right {g x : Bool} {a u b v : D} : sel g (sel x b (sel (g && !x) a u)) v = sel g (sel x b a) v := by cases g <;> cases x <;> rfl
theorem sel_or_bool {c x : Bool} : sel c (.one (.t (.bool true))) (sel (!c) (.one (.t (.bool x))) (.one .undef)) = .one (.t (.bool (c || x))) := by cases c <;> rfl
theorem sel_and_bool {c x : Bool} : sel c (sel c (.one (.t (.bool x))) (.one .undef)) (.one (.t (.bool false))) = .one (.t (.bool (c && x))) := by cases c <;> rfl
theorem not_sel {g x : Bool} : sel g ((sel g (.one (.t (.bool x))) (.one .undef)).un .not) (.one .undef) = sel g (.one (.t (.bool !x))) (.one .undef) := by cases g <;> rfl
theorem sel_not_right {c : Bool} {a b u : D} : sel (!c) a (sel c b u) = sel (!c) a b := by cases c <;> rfl
attribute [simp] sel_not_right guardOk_some guardOk_none gval_some gval_none gOk_bool gOk_undef gOk_sel gV_true gV_false gV_undef gV_sel_true gV_sel_false sel_pick sel_and_left sel_and_right sel_or_bool sel_and_bool
end Go.Ab

namespace Go.Proofs.YtdpbobkcbakpfaaGreatDoor
open Go Go.Ab
set_option maxRecDepth 100000
def tagBad (g : Tg) : Bool := !(decide (1 ≤ g.cls) && decide (g.cls ≤ 3)) || !(decide (0 ≤ g.num) && decide (g.num ≤ 100000)) || !(decide (0 ≤ g.way) && decide (g.way ≤ 2))
def Fd.rangeBad : Fd → Bool
  | .mk _ _ _ p _ g => !(decide (0 ≤ p) && decide (p ≤ 2)) || decide (g < 0)
def Ty.rangeErr : Ty → Int
  | .mk k _ tg fs _ r _ _ => if !(decide (0 ≤ k) && decide (k ≤ 15)) then 4 else if 3 < tg.length ∨ 16 < fs.length ∨ k = 15 ∧ 4 < fs.length then 2
    else if tg.any tagBad || fs.any Fd.rangeBad || !(decide (0 ≤ r) && decide (r ≤ fs.length)) then 3 else 0
theorem wrapS {i n : Nat} (h : i < n) (hn : n ≤ 9223372036854775807) : IntKind.i64.wrap ((i : Int) + 1) = ((i + 1 : Nat) : Int) := nat_wrap _ (by omega) (by omega)
theorem P146 (t : Ty) (ht : t.fine) : PSp Tryz.prog 146 [.agg (t.row.map .t)] (.one (.t (I t.rangeErr))) := by
  obtain ⟨k, nm, tg, fs, o, r, of, l⟩ := t
  obtain ⟨f1, f2, f3, f4, f5, f6, f7, f8⟩ := ht
  simp only [short] at f2 f3 f5 f7
  refine k146.pureK (by simp) (by simp [Ty.row, D.closed]; exact ⟨rfl, rfl, rfl, rfl, rfl, rfl, rfl, rfl⟩) rfl ?_
  simp -implicitDefEqProofs [c146, c146r0, c146r1, Ty.row, rowsF_map]
  refine callK.tree (P170 _ _ _) rfl ?_
  simp -implicitDefEqProofs +contextual [c146r2, c146r3, c146r4, c146r5, pureEnd, -guardOk, -gval, -Bool.not_or, -Bool.not_and, -Int.not_lt, -Int.not_le, -Nat.not_lt, -Nat.not_le]
  refine ⟨fun hk => ?_, fun h1 h2 => ⟨fun h3 => ?_, fun h4 h5 h6 => ?_⟩⟩
  · simp [Ty.rangeErr]; omega
  · simp [Ty.rangeErr]; omega
  · have base : ∀ b, (Ty.mk k nm tg fs o r of l).rangeErr = b ↔ (if tg.any tagBad || fs.any Fd.rangeBad || !(decide (0 ≤ r) && decide (r ≤ fs.length)) then 3 else 0) = b := fun b => by
      have e1 : (decide (0 ≤ k) && decide (k ≤ 15)) = true := by simp [h1, h2]
      have e2 : ¬ (3 < tg.length ∨ 16 < fs.length ∨ k = 15 ∧ 4 < fs.length) := by omega
      simp only [Ty.rangeErr, e1, Bool.not_true]
      rw [if_neg (by simp), if_neg e2]
    generalize (Ty.mk k nm tg fs o r of l).rangeErr = R at *
    refine loopEach tg tagBad (fun i st => st.tmps 1 = .one (.ptr ⟨0, 0, 8, 0, 0⟩) ∧ st.heap 0 = some (.arr 0 false 8 [[.t (I k), .t (.str nm), .t (.rows 3 (tg.map Tg.row)), .t (.rows 13 (fs.map Fd.row)), .t (.bool o), .t (I r), .t (.rows 8 (rowsY of)), .t (nodesT l)]]) ∧ 1 ≤ st.nx ∧
      st.tmps 33 = .one (.t (.rows 3 (tg.map Tg.row))) ∧ st.tmps 34 = .one (.t (I tg.length)) ∧ st.tmps 35 = .one (.t (I i))) ⟨by simp, by simp [Hp.set], by simp, by simp, by simp, by simp⟩ ?_ ?_
    · rintro i ⟨c, n, w⟩ st hi hg _ hany ⟨j1, j2, j3, j33, j34, j35⟩
      have hiI : (i : Int) < tg.length := by omega
      have hw := wrapS hi f2
      have hn0 : ∀ c, ¬ 0 = st.nx + 1 + c := fun c => by omega
      simp -implicitDefEqProofs [c146b11, c146r6, c146r7, c146r8, j33, j34, j35, hiI, hi, rowAtM hg, Tg.row]
      have hbad : tagBad ⟨c, n, w⟩ = (!(decide (1 ≤ c) && decide (c ≤ 3)) || !(decide (0 ≤ n) && decide (n ≤ 100000)) || !(decide (0 ≤ w) && decide (w ≤ 2))) := rfl
      rw [hbad] at hany ⊢
      have base3 : tg.any tagBad = true → 3 = R := fun e => by
        have := (base 3).2 (by rw [e]; rfl)
        exact this.symm
      refine callK.tree (P170 _ _ _) rfl ?_
      cases ha : (decide (1 ≤ c) && decide (c ≤ 3)) with
      | false =>
        simp -implicitDefEqProofs [c146r9, pureEnd]
        exact base3 (hany (by rw [ha]; rfl))
      | true =>
        simp
        refine callK.tree (P170 _ _ _) rfl ?_
        cases hb : (decide (0 ≤ n) && decide (n ≤ 100000)) with
        | false =>
          simp -implicitDefEqProofs [c146r9, pureEnd]
          exact base3 (hany (by rw [ha, hb]; rfl))
        | true =>
          simp
          refine callK.tree (P170 _ _ _) rfl ?_
          cases hc : (decide (0 ≤ w) && decide (w ≤ 2)) with
          | false =>
            simp -implicitDefEqProofs [c146r9, pureEnd]
            exact base3 (hany (by rw [ha, hb, hc]; rfl))
          | true =>
            simp -implicitDefEqProofs [c146r10, j35, hw]
            refine ⟨by simp at ha hb hc; omega, j1, ?_, j33, j34⟩
            simp only [Hp.set]; rw [if_neg (by omega), if_neg (by omega)]; exact j2
    · rintro st hany ⟨j1, j2, j3, j33, j34, j35⟩
      have hn0 : ∀ c, ¬ 0 = st.nx + c := fun c => by omega
      obtain ⟨o1, o2, o3, o4⟩ := objF j2
      simp -implicitDefEqProofs [c146b11, c146r6, c146r11, j34, j35, j1, o1, o2, o3]
      rw [hany, Bool.false_or] at base
      refine loopEach fs Fd.rangeBad (fun i st => st.tmps 1 = .one (.ptr ⟨0, 0, 8, 0, 0⟩) ∧ st.heap 0 = some (.arr 0 false 8 [[.t (I k), .t (.str nm), .t (.rows 3 (tg.map Tg.row)), .t (.rows 13 (fs.map Fd.row)), .t (.bool o), .t (I r), .t (.rows 8 (rowsY of)), .t (nodesT l)]]) ∧ 1 ≤ st.nx ∧
        st.tmps 57 = .one (.t (.rows 13 (fs.map Fd.row))) ∧ st.tmps 58 = .one (.t (I fs.length)) ∧ st.tmps 59 = .one (.t (I i))) ⟨by simp [j1], by simp [j2], by simp, by simp, by simp, by simp⟩ ?_ ?_
      · rintro i ⟨fn, fnum, ⟨q1, q2, q3, q4, q5, q6, q7, q8⟩, fp, fd, fg⟩ st hi hg _ hany ⟨j1, j2, j3, j33, j34, j35⟩
        have hiI : (i : Int) < fs.length := by omega
        have hw := wrapS hi f3
        have hn0 : ∀ c, ¬ 0 = st.nx + 1 + c := fun c => by omega
        have base3 : fs.any Fd.rangeBad = true → 3 = R := fun e => ((base 3).2 (by rw [e]; rfl)).symm
        simp -implicitDefEqProofs [c146b18, c146r12, c146r13, c146r14, j33, j34, j35, hiI, hi, rowAtM hg, Fd.row, Ty.row]
        refine callK.tree (P170 _ _ _) rfl ?_
        simp -implicitDefEqProofs +contextual [c146r15, c146r16, pureEnd, j35, hw, -guardOk, -gval, -Bool.not_or, -Bool.not_and, -Int.not_lt, -Int.not_le, -Nat.not_lt, -Nat.not_le]
        refine ⟨fun hh => base3 (hany (by simp [Fd.rangeBad]; omega)), fun c1 c2 c3 => ⟨by simp [Fd.rangeBad]; omega, j1, ?_, j33, j34⟩⟩
        simp only [Hp.set]; rw [if_neg (by omega), if_neg (by omega)]; exact j2
      · rintro st hany ⟨j1, j2, j3, j33, j34, j35⟩
        have hn0 : ∀ c, ¬ 0 = st.nx + c := fun c => by omega
        obtain ⟨o1, o2, o3, o4⟩ := objF j2
        simp -implicitDefEqProofs [c146b18, c146r12, c146r17, j34, j35, j1, o1, o2, o3]
        refine callK.tree (P170 _ _ _) rfl ?_
        simp
        refine callK.tree (P171 _ _) rfl ?_
        simp [pureEnd]
        rw [hany, Bool.false_or] at base
        refine ((base _).2 ?_).symm
        by_cases hr : 0 ≤ r ∧ r ≤ fs.length
        · rw [if_neg (by simp; omega), if_pos hr]
        · rw [if_pos (by simp; omega), if_neg hr]
end Go.Proofs.YtdpbobkcbakpfaaGreatDoor

namespace Go.Proofs.YtdpbobkcbakpfaaGreatDoor
open Go Go.Ab
set_option maxRecDepth 100000
abbrev Sz := Int × Bool
abbrev wr (n : Int) : Int := IntKind.i64.wrap n
def meetF (lv : Int) (s : Sz) : Sz := (wr (s.1 - 1), s.2 || decide (wr (s.1 - 1) < 0) || decide (lv < 1))
mutual
def Vl.sz (lv : Int) : Vl → Sz → Sz
  | .mk _ _ _ _ _ is, s => if (meetF lv s).2 then meetF lv s else szVs (wr (lv - 1)) is (meetF lv s)
def szVs (lv : Int) : List Vl → Sz → Sz
  | [], s => s
  | v :: r, s => if s.2 then s else szVs lv r (v.sz lv s)
end
mutual
def Ty.sz (lv : Int) : Ty → Sz → Sz
  | .mk _ _ _ fs _ _ of _, s => if (meetF lv s).2 then meetF lv s else szTs (wr (lv - 1)) of (szFs (wr (lv - 1)) fs (meetF lv s))
def Fd.sz (lv : Int) : Fd → Sz → Sz
  | .mk _ _ t _ d _, s => szVs lv d (t.sz lv s)
def szFs (lv : Int) : List Fd → Sz → Sz
  | [], s => s
  | f :: r, s => if s.2 then s else szFs lv r (f.sz lv s)
def szTs (lv : Int) : List Ty → Sz → Sz
  | [], s => s
  | t :: r, s => if s.2 then s else szTs lv r (t.sz lv s)
end
def putS (h : Hp) (id : Nat) (s : Sz) : Hp := h.set id (.arr 0 false 2 [[.t (I s.1), .t (.bool s.2)]])
theorem putS_at {h : Hp} {id : Nat} {s : Sz} : putS h id s id = some (.arr 0 false 2 [[.t (I s.1), .t (.bool s.2)]]) := by simp [putS, Hp.set]
theorem putS_put {h : Hp} {id : Nat} {s s' : Sz} : putS (putS h id s) id s' = putS h id s' := by funext j; simp only [putS, Hp.set]; split <;> rfl
theorem putS_same {h : Hp} {id : Nat} {s : Sz} (e : h id = some (.arr 0 false 2 [[.t (I s.1), .t (.bool s.2)]])) : putS h id s = h := by
  funext j; simp only [putS, Hp.set]; split
  · rename_i hj; subst hj; exact e.symm
  · rfl
theorem okS {h : Hp} {n id : Nat} {s : Sz} (ho : HeapOk h n) (hid : id < n) : HeapOk (putS h id s) n := HeapOk.set ho hid (by simp [O.below, A.below])
theorem impEnd_t {t n0 : Nat} {d : T} {e : Exit} {st : St} {h' : Hp} (he : e = .normal ∨ e = .ret) (hr : st.tmps t = .one (.t d)) (hh : ∀ id, id < n0 → st.heap id = h' id) (ho : HeapOk h' n0) : impEnd [.tmp t] (.one (.t d)) h' n0 e st :=
  ⟨he, ⟨by simp [], by simp⟩, by simp [hr], by simp [hr], by simp [hr], hh, ho.above, ho.below⟩
theorem impEnd_n {n0 : Nat} {e : Exit} {st : St} {h' : Hp} (he : e = .normal ∨ e = .ret) (hh : ∀ id, id < n0 → st.heap id = h' id) (ho : HeapOk h' n0) : impEnd [] (.tup []) h' n0 e st :=
  ⟨he, ⟨by simp, by simp⟩, by simp [resD, D.frzOk], by simp [resD, D.frz], by simp [resD, D.ids], hh, ho.above, ho.below⟩
theorem meet144 (h : Hp) (n0 id : Nat) (lv : Int) (s : Sz) (ho : HeapOk h n0) (hs : h id = some (.arr 0 false 2 [[.t (I s.1), .t (.bool s.2)]])) :
    ISp Tryz.prog 144 h n0 [.one (.ptr ⟨id, 0, 2, 0, 0⟩), .one (.t (I lv))] (.one (.t (.bool (!(meetF lv s).2)))) (putS h id (meetF lv s)) := by
  refine k144.ispK (by simp) ?_
  obtain ⟨o1, o2, o3, o4⟩ := objF hs
  have hid := ltOf ho hs
  obtain ⟨l, b⟩ := s
  simp only at o2
  simp -implicitDefEqProofs +contextual [c144, c144r0, c144r1, c144r2, c144r3, o1, o2, o3, o4, -guardOk, -gval, -Bool.not_or, -Bool.not_and, -Int.not_lt, -Int.not_le, -Nat.not_lt, -Nat.not_le]
  refine ⟨fun hb => ?_, fun hb => ?_⟩
  · subst hb
    refine impEnd_t (.inr rfl) (by simp [meetF, wr]) (fun j hj => ?_) (okS ho hid)
    simp only [putS, Hp.set, meetF, wr]; split <;> simp
  · subst hb
    refine impEnd_t (.inr rfl) (by simp [meetF, wr]) (fun j hj => ?_) (okS ho hid)
    simp only [putS, Hp.set, meetF, wr]; split <;> simp
theorem meet104 (h : Hp) (n0 id : Nat) (lv : Int) (s : Sz) (ho : HeapOk h n0) (hs : h id = some (.arr 0 false 2 [[.t (I s.1), .t (.bool s.2)]])) :
    ISp Tryz.prog 104 h n0 [.one (.ptr ⟨id, 0, 2, 0, 0⟩), .one (.t (I lv))] (.one (.t (.bool (!(meetF lv s).2)))) (putS h id (meetF lv s)) := by
  refine k104.ispK (by simp) ?_
  obtain ⟨o1, o2, o3, o4⟩ := objF hs
  have hid := ltOf ho hs
  obtain ⟨l, b⟩ := s
  simp only at o2
  simp -implicitDefEqProofs +contextual [c104, c104r0, c104r1, c104r2, c104r3, o1, o2, o3, o4, -guardOk, -gval, -Bool.not_or, -Bool.not_and, -Int.not_lt, -Int.not_le, -Nat.not_lt, -Nat.not_le]
  refine ⟨fun hb => ?_, fun hb => ?_⟩
  · subst hb
    refine impEnd_t (.inr rfl) (by simp [meetF, wr]) (fun j hj => ?_) (okS ho hid)
    simp only [putS, Hp.set, meetF, wr]; split <;> simp
  · subst hb
    refine impEnd_t (.inr rfl) (by simp [meetF, wr]) (fun j hj => ?_) (okS ho hid)
    simp only [putS, Hp.set, meetF, wr]; split <;> simp
end Go.Proofs.YtdpbobkcbakpfaaGreatDoor

namespace Go.Proofs.YtdpbobkcbakpfaaGreatDoor
open Go Go.Ab
set_option maxRecDepth 100000
def objS (s : Sz) : O := .arr 0 false 2 [[.t (I s.1), .t (.bool s.2)]]
def SzOk (f : FuncId) (arg : D) (F : Int → Sz → Sz) : Prop :=
  ∀ (h : Hp) (n0 id : Nat) (lv : Int) (s : Sz), HeapOk h n0 → h id = some (objS s) → ISp Tryz.prog f h n0 [.one (.ptr ⟨id, 0, 2, 0, 0⟩), arg, .one (.t (I lv))] (.tup []) (putS h id (F lv s))
structure SzH (h : Hp) (n0 id : Nat) (s : Sz) (h' : Hp) (nx : Nat) : Prop where
  ok : HeapOk h' nx
  obj : h' id = some (objS s)
  lt : id < n0
  le : n0 ≤ nx
  rest : ∀ j, j < n0 → j ≠ id → h' j = h j
theorem SzH.more {h h' : Hp} {n0 id nx nx' : Nat} {s : Sz} (k : SzH h n0 id s h' nx) (hx : nx ≤ nx') : SzH h n0 id s h' nx' := ⟨HeapOk.more k.ok hx, k.obj, k.lt, by have := k.le; omega, k.rest⟩
theorem SzH.own {h h' : Hp} {n0 id nx a : Nat} {s : Sz} {o : O} (k : SzH h n0 id s h' nx) (ha : n0 ≤ a) (hlt : a < nx) (hb : o.below nx = true) : SzH h n0 id s (h'.set a o) nx :=
  ⟨HeapOk.set k.ok hlt hb, by have := k.lt; simp only [Hp.set]; rw [if_neg (by omega)]; exact k.obj, k.lt, k.le, fun j hj hne => by simp only [Hp.set]; rw [if_neg (by omega)]; exact k.rest j hj hne⟩
theorem SzH.put {h h' : Hp} {n0 id nx : Nat} {s s' : Sz} (k : SzH h n0 id s h' nx) : SzH h n0 id s' (putS h' id s') nx :=
  ⟨okS k.ok (by have := k.lt; have := k.le; omega), putS_at, k.lt, k.le, fun j hj hne => by simp only [putS, Hp.set]; rw [if_neg hne]; exact k.rest j hj hne⟩
theorem SzH.fin {h h' : Hp} {n0 id nx : Nat} {s s' : Sz} (k : SzH h n0 id s h' nx) (e : s = s') : ∀ j, j < n0 → h' j = putS h id s' j := fun j hj => by
  subst e
  simp only [putS, Hp.set]
  split
  · rename_i hji; subst hji; exact k.obj
  · rename_i hji; exact k.rest j hj hji
theorem rows_closed (sz : Nat) (rs : List (List T)) : (A.t (T.rows sz rs)).closed = true := rfl
structure J145 (h : Hp) (n0 id : Nat) (lv : Int) (is : List Vl) (R : Sz) (i : Nat) (st : St) : Prop where
  out : ∃ si, szVs (wr (lv - 1)) (is.drop i) si = R ∧ SzH h n0 id si st.heap st.nx ∧ st.tmps 0 = .one (.ptr ⟨id, 0, 2, 0, 0⟩) ∧ st.tmps 2 = .one (.t (I lv)) ∧
    st.tmps 13 = .one (.t (.rows 6 (is.map Vl.row))) ∧ st.tmps 14 = .one (.t (I is.length)) ∧ st.tmps 15 = .one (.t (I i))
theorem value145_step (k n e : Int) (sx : ByteArray) (ns : List ByteArray) (is : List Vl) (hs : short is) (IH : ∀ x ∈ is, SzOk 145 (.agg (x.row.map .t)) fun lv s => x.sz lv s) : SzOk 145 (.agg ((Vl.mk k n e sx ns is).row.map .t)) fun lv s => (Vl.mk k n e sx ns is).sz lv s := by
  intro h n0 id lv s ho hid
  have hlt := ltOf ho hid
  simp only [short] at hs
  refine k145.ispK (by simp) ?_
  have k0 : SzH h n0 id s h n0 := ⟨ho, hid, hlt, Nat.le_refl _, fun _ _ _ => rfl⟩
  simp -implicitDefEqProofs [c145, c145r0, c145r1, Vl.row, rowsV_map]
  obtain ⟨h1, hh1⟩ : ∃ h1, h1 = h.set n0 (O.arr 0 false 6 [[.t (I k), .t (I n), .t (I e), .t (T.str sx), .t (textsT ns), .t (T.rows 6 (is.map Vl.row))]]) := ⟨_, rfl⟩
  rw [← hh1]
  have k1 : SzH h n0 id s h1 (n0 + 1) := by rw [hh1]; exact (k0.more (by omega)).own (Nat.le_refl _) (by omega) (by simp [O.below, A.below])
  refine callK.imp (meet144 h1 _ id lv s (HeapOk.more k1.ok (by omega)) k1.obj) ?_
  have k2 := (k1.put (s' := meetF lv s)).more (nx' := n0 + 1 + 4) (by omega)
  have hb1 : (putS h1 id (meetF lv s)) n0 = some (O.arr 0 false 6 [[.t (I k), .t (I n), .t (I e), .t (T.str sx), .t (textsT ns), .t (T.rows 6 (is.map Vl.row))]]) := by
    simp only [putS, Hp.set, hh1]; rw [if_neg (by omega)]; simp
  obtain ⟨o1, o2, o3, o4⟩ := objF hb1
  generalize putS h1 id (meetF lv s) = h2 at *
  have hend : (Vl.mk k n e sx ns is).sz lv s = if (meetF lv s).2 then meetF lv s else szVs (wr (lv - 1)) is (meetF lv s) := by rw [Vl.sz]
  generalize (Vl.mk k n e sx ns is).sz lv s = R at *
  simp -implicitDefEqProofs +contextual [c145r2, o1, o2, o3]
  refine ⟨fun hb => impEnd_n (.inr rfl) (k2.fin (by rw [hend, if_pos hb])) (okS ho hlt), fun hb => ?_⟩
  rw [if_neg (by simp [hb])] at hend
  refine loopN is.length (J145 h n0 id lv is R) ⟨_, hend.symm, k2.more (by simp), by simp, by simp, by simp, by simp, by simp⟩ ?_ ?_
  · rintro i st hi ⟨si, e1, k3, j0, j2, j13, j14, j15⟩
    have hiI : (i : Int) < is.length := by omega
    have hw := wrapS hi hs
    have hg : is[i]? = some is[i] := List.getElem?_eq_getElem hi
    have hmem : is[i] ∈ is := List.getElem_mem hi
    obtain ⟨o1, o2, o3, o4⟩ := objF k3.obj
    have hle := k3.le
    have hne : ¬ id = st.nx + 1 + 2 := by omega
    rw [List.drop_eq_getElem_cons hi, szVs] at e1
    have hIH := IH _ hmem
    generalize is[i] = y at *
    obtain ⟨yk, yn, ye, ys, yns, yis⟩ := y
    simp -implicitDefEqProofs +contextual [c145b8, c145r3, c145r4, c145r5, j0, j13, j14, j15, hiI, hi, rowAtM hg, o1, o2, o3, hne, Vl.row, rowsV_map]
    have kk := fun (o o' : O) (ho : o.below (st.nx + 13) = true) (ho' : o'.below (st.nx + 13) = true) => ((k3.more (nx' := st.nx + 13) (by omega)).own (a := st.nx + 1 + 2) (o := o) (by omega) (by omega) ho).own (a := st.nx + 1 + 2) (o := o') (by omega) (by omega) ho'
    refine ⟨fun hb => impEnd_n (.inr rfl) ((kk _ _ (by simp [O.below, A.below]) (by simp [O.below, A.below])).fin (by rw [if_pos hb] at e1; exact e1)) (okS ho hlt), fun hb => ?_⟩
    rw [if_neg (by simp [hb])] at e1
    simp -implicitDefEqProofs [c145r6, j0, j2]
    have k4 := kk (O.arr 0 false 6 [[A.t (T.int IntKind.i64 0), A.t (T.int IntKind.i64 0), A.t (T.int IntKind.i64 0), A.t (T.str (bs [])), A.tt 1 [], A.tt 6 []]]) (O.arr 0 false 6 [[A.t (I yk), A.t (I yn), A.t (I ye), A.t (T.str ys), A.t (textsT yns), A.t (T.rows 6 (List.map Vl.row yis))]]) (by simp [O.below, A.below]) (by simp [O.below, A.below])
    have hIH' : SzOk 145 (D.agg [A.t (I yk), A.t (I yn), A.t (I ye), A.t (T.str ys), A.t (textsT yns), A.t (T.rows 6 (List.map Vl.row yis))]) fun lv s => (Vl.mk yk yn ye ys yns yis).sz lv s := by simpa [Vl.row, rowsV_map] using hIH
    refine callK.imp (hIH' _ _ id _ si k4.ok k4.obj) ?_
    simp -implicitDefEqProofs [c145r7, j15, hw]
    exact ⟨_, e1, k4.put.more (by simp only; omega), by simp [j0], by simp [j2], by simp [j13], by simp [j14], by simp⟩
  · rintro st ⟨si, e1, k3, j0, j2, j13, j14, j15⟩
    rw [List.drop_length, szVs] at e1
    simp -implicitDefEqProofs [c145b8, c145r3, j14, j15]
    exact impEnd_n (.inl rfl) (k3.fin e1) (okS ho hlt)
mutual
theorem value145 : ∀ v : Vl, v.fine → SzOk 145 (.agg (v.row.map .t)) fun lv s => v.sz lv s
  | .mk k n e sx ns is, hf => value145_step k n e sx ns is hf.2.2.2.1 (values145 is hf.2.2.2.2)
theorem values145 : ∀ l : List Vl, fineV l → ∀ x ∈ l, SzOk 145 (.agg (x.row.map .t)) fun lv s => x.sz lv s
  | [], _, _, h => by simp at h
  | v :: r, hf, x, h => by
    rcases List.mem_cons.1 h with e | e
    · rw [e]; exact value145 v hf.1
    · exact values145 r hf.2 x e
end
structure J105 (h : Hp) (n0 id : Nat) (lv : Int) (is : List Vl) (o : O) (R : Sz) (i : Nat) (st : St) : Prop where
  out : ∃ si, szVs (wr (lv - 1)) (is.drop i) si = R ∧ SzH h n0 id si st.heap st.nx ∧ st.heap n0 = some o ∧ n0 < st.nx ∧ st.tmps 0 = .one (.ptr ⟨id, 0, 2, 0, 0⟩) ∧ st.tmps 2 = .one (.t (I lv)) ∧
    st.tmps 4 = .one (.ptr ⟨n0, 0, 6, 0, 0⟩) ∧ st.tmps 6 = .one (.t (I i))
theorem value105_step (k n e : Int) (sx : ByteArray) (ns : List ByteArray) (is : List Vl) (hs : short is) (IH : ∀ x ∈ is, SzOk 105 (.agg (x.row.map .t)) fun lv s => x.sz lv s) : SzOk 105 (.agg ((Vl.mk k n e sx ns is).row.map .t)) fun lv s => (Vl.mk k n e sx ns is).sz lv s := by
  intro h n0 id lv s ho hid
  have hlt := ltOf ho hid
  simp only [short] at hs
  refine k105.ispK (by simp) ?_
  have k0 : SzH h n0 id s h n0 := ⟨ho, hid, hlt, Nat.le_refl _, fun _ _ _ => rfl⟩
  simp -implicitDefEqProofs [c105, c105r0, c105r1, Vl.row, rowsV_map]
  obtain ⟨h1, hh1⟩ : ∃ h1, h1 = h.set n0 (O.arr 0 false 6 [[.t (I k), .t (I n), .t (I e), .t (T.str sx), .t (textsT ns), .t (T.rows 6 (is.map Vl.row))]]) := ⟨_, rfl⟩
  rw [← hh1]
  have k1 : SzH h n0 id s h1 (n0 + 1) := by rw [hh1]; exact (k0.more (by omega)).own (Nat.le_refl _) (by omega) (by simp [O.below, A.below])
  refine callK.imp (meet104 h1 _ id lv s (HeapOk.more k1.ok (by omega)) k1.obj) ?_
  have k2 := (k1.put (s' := meetF lv s)).more (nx' := n0 + 1 + 4) (by omega)
  have hb1 : (putS h1 id (meetF lv s)) n0 = some (O.arr 0 false 6 [[.t (I k), .t (I n), .t (I e), .t (T.str sx), .t (textsT ns), .t (T.rows 6 (is.map Vl.row))]]) := by
    simp only [putS, Hp.set, hh1]; rw [if_neg (by omega)]; simp
  generalize putS h1 id (meetF lv s) = h2 at *
  have hend : (Vl.mk k n e sx ns is).sz lv s = if (meetF lv s).2 then meetF lv s else szVs (wr (lv - 1)) is (meetF lv s) := by rw [Vl.sz]
  generalize (Vl.mk k n e sx ns is).sz lv s = R at *
  simp -implicitDefEqProofs +contextual [c105r2]
  refine ⟨fun hb => impEnd_n (.inr rfl) (k2.fin (by rw [hend, if_pos hb])) (okS ho hlt), fun hb => ?_⟩
  rw [if_neg (by simp [hb])] at hend
  refine loopN is.length (J105 h n0 id lv is (O.arr 0 false 6 [[.t (I k), .t (I n), .t (I e), .t (T.str sx), .t (textsT ns), .t (T.rows 6 (is.map Vl.row))]]) R) ⟨_, hend.symm, k2.more (by simp), by simpa using hb1, by simp; omega, by simp, by simp, by simp, by simp⟩ ?_ ?_
  · rintro i st hi ⟨si, e1, k3, hbx, hnx, j0, j2, j4, j6⟩
    have hiI : (i : Int) < is.length := by omega
    have hw := wrapS hi hs
    have hg : is[i]? = some is[i] := List.getElem?_eq_getElem hi
    have hmem : is[i] ∈ is := List.getElem_mem hi
    obtain ⟨o1, o2, o3, o4⟩ := objF k3.obj
    obtain ⟨p1, p2, p3, p4⟩ := objF hbx
    have hle := k3.le
    rw [List.drop_eq_getElem_cons hi, szVs] at e1
    have hIH := IH _ hmem
    generalize is[i] = y at *
    obtain ⟨yk, yn, ye, ys, yns, yis⟩ := y
    simp -implicitDefEqProofs +contextual [c105b6, c105r3, j0, j4, j6, hiI, o1, o2, o3, p1, p2, p3]
    refine ⟨fun hb => ?_, fun hb => impEnd_n (.inl rfl) (k3.fin (by rw [if_pos hb] at e1; exact e1)) (okS ho hlt)⟩
    rw [if_neg (by simp [hb])] at e1
    simp -implicitDefEqProofs [c105r5, j0, j2, j4, j6, hiI, hi, rowAtM hg, p1, p2, p3, Vl.row, rowsV_map]
    have hIH' : SzOk 105 (D.agg [A.t (I yk), A.t (I yn), A.t (I ye), A.t (T.str ys), A.t (textsT yns), A.t (T.rows 6 (List.map Vl.row yis))]) fun lv s => (Vl.mk yk yn ye ys yns yis).sz lv s := by simpa [Vl.row, rowsV_map] using hIH
    have k4 := k3.more (nx' := st.nx + 12 + 8) (by omega)
    refine callK.imp (hIH' _ _ id _ si k4.ok k4.obj) ?_
    simp -implicitDefEqProofs [c105r4, j6, hw]
    refine ⟨_, e1, k4.put.more (by simp only; omega), ?_, by simp only; omega, by simp [j0], by simp [j2], by simp [j4], by simp⟩
    simp only [putS, Hp.set]; rw [if_neg (by omega)]; exact hbx
  · rintro st ⟨si, e1, k3, hbx, hnx, j0, j2, j4, j6⟩
    obtain ⟨p1, p2, p3, p4⟩ := objF hbx
    rw [List.drop_length, szVs] at e1
    simp -implicitDefEqProofs [c105b6, c105r3, j0, j4, j6, p1, p2, p3]
    exact impEnd_n (.inl rfl) (k3.fin e1) (okS ho hlt)
mutual
theorem value105 : ∀ v : Vl, v.fine → SzOk 105 (.agg (v.row.map .t)) fun lv s => v.sz lv s
  | .mk k n e sx ns is, hf => value105_step k n e sx ns is hf.2.2.2.1 (values105 is hf.2.2.2.2)
theorem values105 : ∀ l : List Vl, fineV l → ∀ x ∈ l, SzOk 105 (.agg (x.row.map .t)) fun lv s => x.sz lv s
  | [], _, _, h => by simp at h
  | v :: r, hf, x, h => by
    rcases List.mem_cons.1 h with e | e
    · rw [e]; exact value105 v hf.1
    · exact values105 r hf.2 x e
end
end Go.Proofs.YtdpbobkcbakpfaaGreatDoor

namespace Go.Proofs.YtdpbobkcbakpfaaGreatDoor
open Go Go.Ab
set_option maxRecDepth 100000
theorem szVs_bad {lv : Int} {l : List Vl} {s : Sz} (h : s.2 = true) : szVs lv l s = s := by cases l <;> simp [szVs, h]
theorem szFs_bad {lv : Int} {l : List Fd} {s : Sz} (h : s.2 = true) : szFs lv l s = s := by cases l <;> simp [szFs, h]
theorem szTs_bad {lv : Int} {l : List Ty} {s : Sz} (h : s.2 = true) : szTs lv l s = s := by cases l <;> simp [szTs, h]
theorem fineV_mem : ∀ {l : List Vl}, fineV l → ∀ x ∈ l, x.fine
  | [], _, _, h => by simp at h
  | v :: r, hf, x, h => by
    rcases List.mem_cons.1 h with e | e
    · rw [e]; exact hf.1
    · exact fineV_mem hf.2 x e
def tyO (k : Int) (nm : ByteArray) (tg : List Tg) (fs : List Fd) (o : Bool) (r : Int) (of : List Ty) (l : List Nd) : O :=
  .arr 0 false 8 [[.t (I k), .t (.str nm), .t (.rows 3 (tg.map Tg.row)), .t (.rows 13 (fs.map Fd.row)), .t (.bool o), .t (I r), .t (.rows 8 (of.map Ty.row)), .t (nodesT l)]]
structure J106F (h : Hp) (n0 id : Nat) (lv : Int) (fs : List Fd) (of : List Ty) (b : O) (R : Sz) (i : Nat) (st : St) : Prop where
  out : ∃ si, szTs (wr (lv - 1)) of (szFs (wr (lv - 1)) (fs.drop i) si) = R ∧ SzH h n0 id si st.heap st.nx ∧ st.heap n0 = some b ∧ n0 < st.nx ∧ st.tmps 0 = .one (.ptr ⟨id, 0, 2, 0, 0⟩) ∧ st.tmps 2 = .one (.t (I lv)) ∧
    st.tmps 4 = .one (.ptr ⟨n0, 0, 8, 0, 0⟩) ∧ st.tmps 17 = .one (.t (.rows 13 (fs.map Fd.row))) ∧ st.tmps 18 = .one (.t (I fs.length)) ∧ st.tmps 19 = .one (.t (I i))
structure J106V (h : Hp) (n0 id : Nat) (lv : Int) (fs : List Fd) (of : List Ty) (b : O) (R : Sz) (i : Nat) (d : List Vl) (j : Nat) (st : St) : Prop where
  out : ∃ si, szTs (wr (lv - 1)) of (szFs (wr (lv - 1)) (fs.drop (i + 1)) (szVs (wr (lv - 1)) (d.drop j) si)) = R ∧ SzH h n0 id si st.heap st.nx ∧ st.heap n0 = some b ∧ n0 < st.nx ∧ st.tmps 0 = .one (.ptr ⟨id, 0, 2, 0, 0⟩) ∧ st.tmps 2 = .one (.t (I lv)) ∧
    st.tmps 4 = .one (.ptr ⟨n0, 0, 8, 0, 0⟩) ∧ st.tmps 17 = .one (.t (.rows 13 (fs.map Fd.row))) ∧ st.tmps 18 = .one (.t (I fs.length)) ∧ st.tmps 19 = .one (.t (I i)) ∧
    st.tmps 34 = .one (.t (.rows 6 (d.map Vl.row))) ∧ st.tmps 35 = .one (.t (I d.length)) ∧ st.tmps 36 = .one (.t (I j))
structure J106T (h : Hp) (n0 id : Nat) (lv : Int) (of : List Ty) (R : Sz) (i : Nat) (st : St) : Prop where
  out : ∃ si, szTs (wr (lv - 1)) (of.drop i) si = R ∧ SzH h n0 id si st.heap st.nx ∧ st.tmps 0 = .one (.ptr ⟨id, 0, 2, 0, 0⟩) ∧ st.tmps 2 = .one (.t (I lv)) ∧
    st.tmps 52 = .one (.t (.rows 8 (of.map Ty.row))) ∧ st.tmps 53 = .one (.t (I of.length)) ∧ st.tmps 54 = .one (.t (I i))
theorem kind106_step (k : Int) (nm : ByteArray) (tg : List Tg) (fs : List Fd) (o : Bool) (r : Int) (of : List Ty) (l : List Nd) (hs : short fs) (hso : short of)
    (hd : ∀ x ∈ fs, x.fine) (IHf : ∀ nm n t p d g, Fd.mk nm n t p d g ∈ fs → SzOk 106 (.agg (t.row.map .t)) fun lv s => t.sz lv s) (IHo : ∀ x ∈ of, SzOk 106 (.agg (x.row.map .t)) fun lv s => x.sz lv s) :
    SzOk 106 (.agg ((Ty.mk k nm tg fs o r of l).row.map .t)) fun lv s => (Ty.mk k nm tg fs o r of l).sz lv s := by
  intro h n0 id lv s ho hid
  have hlt := ltOf ho hid
  simp only [short] at hs hso
  refine k106.ispK (by simp) ?_
  have k0 : SzH h n0 id s h n0 := ⟨ho, hid, hlt, Nat.le_refl _, fun _ _ _ => rfl⟩
  simp -implicitDefEqProofs [c106, c106r0, c106r1, Ty.row, rowsF_map, rowsY_map]
  obtain ⟨h1, hh1⟩ : ∃ h1, h1 = h.set n0 (tyO k nm tg fs o r of l) := ⟨_, rfl⟩
  rw [show h.set n0 (O.arr 0 false 8 [[.t (I k), .t (.str nm), .t (.rows 3 (tg.map Tg.row)), .t (.rows 13 (fs.map Fd.row)), .t (.bool o), .t (I r), .t (.rows 8 (of.map Ty.row)), .t (nodesT l)]]) = h1 from hh1.symm]
  have k1 : SzH h n0 id s h1 (n0 + 1) := by rw [hh1]; exact (k0.more (by omega)).own (Nat.le_refl _) (by omega) (by simp [tyO, O.below, A.below])
  refine callK.imp (meet144 h1 _ id lv s (HeapOk.more k1.ok (by omega)) k1.obj) ?_
  have k2 := (k1.put (s' := meetF lv s)).more (nx' := n0 + 1 + 4) (by omega)
  have hb1 : (putS h1 id (meetF lv s)) n0 = some (tyO k nm tg fs o r of l) := by
    simp only [putS, Hp.set, hh1]; rw [if_neg (by omega)]; simp
  generalize putS h1 id (meetF lv s) = h2 at *
  have hend : (Ty.mk k nm tg fs o r of l).sz lv s = if (meetF lv s).2 then meetF lv s else szTs (wr (lv - 1)) of (szFs (wr (lv - 1)) fs (meetF lv s)) := by rw [Ty.sz]
  generalize (Ty.mk k nm tg fs o r of l).sz lv s = R at *
  obtain ⟨p1, p2, p3, p4⟩ := objF hb1
  simp -implicitDefEqProofs +contextual [c106r2, p1, p2, p3]
  refine ⟨fun hb => impEnd_n (.inr rfl) (k2.fin (by rw [hend, if_pos hb])) (okS ho hlt), fun hb => ?_⟩
  rw [if_neg (by simp [hb])] at hend
  refine loopN fs.length (J106F h n0 id lv fs of (tyO k nm tg fs o r of l) R) ⟨_, hend.symm, k2.more (by simp), by simpa using hb1, by simp; omega, by simp, by simp, by simp, by simp, by simp, by simp⟩ ?_ ?_
  · rintro i st hi ⟨si, e1, k3, hbx, hnx, j0, j2, j4, j17, j18, j19⟩
    have hiI : (i : Int) < fs.length := by omega
    have hw := wrapS hi hs
    have hg : fs[i]? = some fs[i] := List.getElem?_eq_getElem hi
    have hmem : fs[i] ∈ fs := List.getElem_mem hi
    have hfine := hd _ hmem
    obtain ⟨o1, o2, o3, o4⟩ := objF k3.obj
    have hle := k3.le
    have hne : ¬ id = st.nx + 1 + 2 := by omega
    rw [List.drop_eq_getElem_cons hi, szFs] at e1
    have hIH := IHf
    generalize fs[i] = y at *
    obtain ⟨yn, ynum, yt, yp, yd, yg⟩ := y
    have hIHt := hIH _ _ _ _ _ _ hmem
    have ht8 : ∃ q0 q1 q2 q3 q4 q5 q6 q7, yt.row = [q0, q1, q2, q3, q4, q5, q6, q7] := by cases yt; exact ⟨_, _, _, _, _, _, _, _, by rw [Ty.row]⟩
    obtain ⟨q0, q1, q2, q3, q4, q5, q6, q7, hq⟩ := ht8
    simp -implicitDefEqProofs +contextual [c106b15, c106r3, c106r4, c106r5, j0, j17, j18, j19, hiI, hi, rowAtM hg, o1, o2, o3, hne, Fd.row, hq, rowsV_map]
    obtain ⟨fo, hfo⟩ : ∃ fo, fo = O.arr 0 false 13 [[A.t (T.str yn), A.t (I ynum), A.t q0, A.t q1, A.t q2, A.t q3, A.t q4, A.t q5, A.t q6, A.t q7, A.t (I yp), A.t (T.rows 6 (List.map Vl.row yd)), A.t (I yg)]] := ⟨_, rfl⟩
    rw [← hfo]
    have k4 : ∀ z, z.below (st.nx + 13) = true → SzH h n0 id si ((st.heap.set (st.nx + 1 + 2) z).set (st.nx + 1 + 2) fo) (st.nx + 13) := fun z hz => ((k3.more (nx' := st.nx + 13) (by omega)).own (a := st.nx + 1 + 2) (o := z) (by omega) (by omega) hz).own (a := st.nx + 1 + 2) (o := fo) (by omega) (by omega) (by rw [hfo]; simp [O.below, A.below])
    have hfa : ∀ z, ((st.heap.set (st.nx + 1 + 2) z).set (st.nx + 1 + 2) fo) (st.nx + 1 + 2) = some fo := fun z => by simp [Hp.set]
    have hfn : ∀ z, ((st.heap.set (st.nx + 1 + 2) z).set (st.nx + 1 + 2) fo) n0 = some (tyO k nm tg fs o r of l) := fun z => by simp only [Hp.set]; rw [if_neg (by omega), if_neg (by omega)]; exact hbx
    refine ⟨fun hb => impEnd_n (.inr rfl) ((k4 _ (by simp [O.below, A.below])).fin (by rw [if_pos hb, szTs_bad hb] at e1; exact e1)) (okS ho hlt), fun hb => ?_⟩
    rw [if_neg (by simp [hb]), Fd.sz] at e1
    have k5 := k4 (O.arr 0 false 13 [[A.t (T.str (bs [])), A.t (T.int IntKind.i64 0), A.t (T.int IntKind.i64 0), A.t (T.str (bs [])), A.tt 3 [], A.tt 13 [], A.t (T.bool false), A.t (T.int IntKind.i64 0), A.tt 8 [], A.tt 5 [], A.t (T.int IntKind.i64 0), A.tt 6 [], A.t (T.int IntKind.i64 0)]]) (by simp [O.below, A.below])
    have a5 := hfa (O.arr 0 false 13 [[A.t (T.str (bs [])), A.t (T.int IntKind.i64 0), A.t (T.int IntKind.i64 0), A.t (T.str (bs [])), A.tt 3 [], A.tt 13 [], A.t (T.bool false), A.t (T.int IntKind.i64 0), A.tt 8 [], A.tt 5 [], A.t (T.int IntKind.i64 0), A.tt 6 [], A.t (T.int IntKind.i64 0)]])
    have n5 := hfn (O.arr 0 false 13 [[A.t (T.str (bs [])), A.t (T.int IntKind.i64 0), A.t (T.int IntKind.i64 0), A.t (T.str (bs [])), A.tt 3 [], A.tt 13 [], A.t (T.bool false), A.t (T.int IntKind.i64 0), A.tt 8 [], A.tt 5 [], A.t (T.int IntKind.i64 0), A.tt 6 [], A.t (T.int IntKind.i64 0)]])
    generalize (st.heap.set (st.nx + 1 + 2) (O.arr 0 false 13 [[A.t (T.str (bs [])), A.t (T.int IntKind.i64 0), A.t (T.int IntKind.i64 0), A.t (T.str (bs [])), A.tt 3 [], A.tt 13 [], A.t (T.bool false), A.t (T.int IntKind.i64 0), A.tt 8 [], A.tt 5 [], A.t (T.int IntKind.i64 0), A.tt 6 [], A.t (T.int IntKind.i64 0)]])).set (st.nx + 1 + 2) fo = h3 at *
    rw [hfo] at a5
    obtain ⟨b1, b2, b3, b4⟩ := objF a5
    simp -implicitDefEqProofs [c106r6, j0, j2, b1, b2, b3]
    have hIH' : SzOk 106 (D.agg [A.t q0, A.t q1, A.t q2, A.t q3, A.t q4, A.t q5, A.t q6, A.t q7]) fun lv s => yt.sz lv s := by simpa [hq] using hIHt
    refine callK.imp (hIH' _ _ id _ si (k5.more (by omega)).ok k5.obj) ?_
    have k6 := k5.put (s' := yt.sz (wr (lv - 1)) si)
    have a6 : putS h3 id (yt.sz (wr (lv - 1)) si) (st.nx + 1 + 2) = some (O.arr 0 false 13 [[A.t (T.str yn), A.t (I ynum), A.t q0, A.t q1, A.t q2, A.t q3, A.t q4, A.t q5, A.t q6, A.t q7, A.t (I yp), A.t (T.rows 6 (List.map Vl.row yd)), A.t (I yg)]]) := by
      simp only [putS, Hp.set]; rw [if_neg (by omega)]; exact a5
    have n6 : putS h3 id (yt.sz (wr (lv - 1)) si) n0 = some (tyO k nm tg fs o r of l) := by simp only [putS, Hp.set]; rw [if_neg (by omega)]; exact n5
    show opsK _ _ _ _ _ (putS h3 id (yt.sz (wr (lv - 1)) si))
    generalize putS h3 id (yt.sz (wr (lv - 1)) si) = h4 at *
    obtain ⟨b1, b2, b3, b4⟩ := objF a6
    simp -implicitDefEqProofs [c106r7, b1, b2, b3]
    have hds : yd.length ≤ 9223372036854775807 := by have := hfine; simp only [Fd.fine, short] at this; exact this.2.2.1
    have hdf : fineV yd := by have := hfine; simp only [Fd.fine] at this; exact this.2.2.2
    refine loopN yd.length (J106V h n0 id lv fs of (tyO k nm tg fs o r of l) R i yd) ⟨_, e1, k6.more (by simp only; omega), n6, by simp only; omega, by simp [j0], by simp [j2], by simp [j4], by simp [j17], by simp [j18], by simp [j19], by simp, by simp, by simp⟩ ?_ ?_
    · rintro j st hj ⟨si, e1, k3, hbx, hnx, j0, j2, j4, j17, j18, j19, j34, j35, j36⟩
      have hjI : (j : Int) < yd.length := by omega
      have hwj := wrapS hj hds
      have hgj : yd[j]? = some yd[j] := List.getElem?_eq_getElem hj
      have hmj : yd[j] ∈ yd := List.getElem_mem hj
      have hvf := fineV_mem hdf _ hmj
      obtain ⟨o1, o2, o3, o4⟩ := objF k3.obj
      have hle := k3.le
      have hne : ¬ id = st.nx + 1 + 2 := by omega
      rw [List.drop_eq_getElem_cons hj, szVs] at e1
      have hV := value145 _ hvf
      generalize yd[j] = v at *
      obtain ⟨vk, vn, ve, vs, vns, vis⟩ := v
      simp -implicitDefEqProofs +contextual [c106b13, c106r8, c106r9, c106r10, j0, j34, j35, j36, hjI, hj, rowAtM hgj, o1, o2, o3, hne, Vl.row, rowsV_map]
      have kk := fun (o o' : O) (ho : o.below (st.nx + 13) = true) (ho' : o'.below (st.nx + 13) = true) => ((k3.more (nx' := st.nx + 13) (by omega)).own (a := st.nx + 1 + 2) (o := o) (by omega) (by omega) ho).own (a := st.nx + 1 + 2) (o := o') (by omega) (by omega) ho'
      refine ⟨fun hb => impEnd_n (.inr rfl) ((kk _ _ (by simp [O.below, A.below]) (by simp [O.below, A.below])).fin (by rw [if_pos hb, szFs_bad hb, szTs_bad hb] at e1; exact e1)) (okS ho hlt), fun hb => ?_⟩
      rw [if_neg (by simp [hb])] at e1
      simp -implicitDefEqProofs [c106r11, j0, j2]
      have k4 := kk (O.arr 0 false 6 [[A.t (T.int IntKind.i64 0), A.t (T.int IntKind.i64 0), A.t (T.int IntKind.i64 0), A.t (T.str (bs [])), A.tt 1 [], A.tt 6 []]]) (O.arr 0 false 6 [[A.t (I vk), A.t (I vn), A.t (I ve), A.t (T.str vs), A.t (textsT vns), A.t (T.rows 6 (List.map Vl.row vis))]]) (by simp [O.below, A.below]) (by simp [O.below, A.below])
      have hV' : SzOk 145 (D.agg [A.t (I vk), A.t (I vn), A.t (I ve), A.t (T.str vs), A.t (textsT vns), A.t (T.rows 6 (List.map Vl.row vis))]) fun lv s => (Vl.mk vk vn ve vs vns vis).sz lv s := by simpa [Vl.row, rowsV_map] using hV
      refine callK.imp (hV' _ _ id _ si k4.ok k4.obj) ?_
      simp -implicitDefEqProofs [c106r12, j36, hwj]
      refine ⟨_, e1, k4.put.more (by simp only; omega), ?_, by simp only; omega, by simp [j0], by simp [j2], by simp [j4], by simp [j17], by simp [j18], by simp [j19], by simp [j34], by simp [j35], by simp⟩
      simp only [putS, Hp.set]; rw [if_neg (by omega), if_neg (by omega), if_neg (by omega)]; exact hbx
    · rintro st ⟨si, e1, k3, hbx, hnx, j0, j2, j4, j17, j18, j19, j34, j35, j36⟩
      rw [List.drop_length, szVs] at e1
      simp -implicitDefEqProofs [c106b13, c106r8, c106r13, j35, j36, j19, hw]
      exact ⟨si, e1, k3.more (by simp only; omega), hbx, by simp only; omega, by simp [j0], by simp [j2], by simp [j4], by simp [j17], by simp [j18], by simp⟩
  · rintro st ⟨si, e1, k3, hbx, hnx, j0, j2, j4, j17, j18, j19⟩
    rw [List.drop_length, szFs] at e1
    obtain ⟨p1, p2, p3, p4⟩ := objF hbx
    simp -implicitDefEqProofs [c106b15, c106r3, c106r14, j18, j19, j4, p1, p2, p3]
    refine loopN of.length (J106T h n0 id lv of R) ⟨si, e1, k3.more (by simp only; omega), by simp [j0], by simp [j2], by simp, by simp, by simp⟩ ?_ ?_
    · rintro j st hj ⟨si, e1, k3, j0, j2, j52, j53, j54⟩
      have hjI : (j : Int) < of.length := by omega
      have hwj := wrapS hj hso
      have hgj : of[j]? = some of[j] := List.getElem?_eq_getElem hj
      have hmj : of[j] ∈ of := List.getElem_mem hj
      obtain ⟨o1, o2, o3, o4⟩ := objF k3.obj
      have hle := k3.le
      have hne : ¬ id = st.nx + 1 + 2 := by omega
      rw [List.drop_eq_getElem_cons hj, szTs] at e1
      have hV := IHo _ hmj
      generalize of[j] = v at *
      obtain ⟨vk, vn, vt, vf, vo, vr, vof, vl⟩ := v
      simp -implicitDefEqProofs +contextual [c106b22, c106r15, c106r16, c106r17, j0, j52, j53, j54, hjI, hj, rowAtM hgj, o1, o2, o3, hne, Ty.row, rowsF_map, rowsY_map]
      have kk := fun (o o' : O) (ho : o.below (st.nx + 13) = true) (ho' : o'.below (st.nx + 13) = true) => ((k3.more (nx' := st.nx + 13) (by omega)).own (a := st.nx + 1 + 2) (o := o) (by omega) (by omega) ho).own (a := st.nx + 1 + 2) (o := o') (by omega) (by omega) ho'
      refine ⟨fun hb => impEnd_n (.inr rfl) ((kk _ _ (by simp [O.below, A.below]) (by simp [O.below, A.below])).fin (by rw [if_pos hb] at e1; exact e1)) (okS ho hlt), fun hb => ?_⟩
      rw [if_neg (by simp [hb])] at e1
      simp -implicitDefEqProofs [c106r18, j0, j2]
      have k4 := kk (O.arr 0 false 8 [[A.t (T.int IntKind.i64 0), A.t (T.str (bs [])), A.tt 3 [], A.tt 13 [], A.t (T.bool false), A.t (T.int IntKind.i64 0), A.tt 8 [], A.tt 5 []]]) (O.arr 0 false 8 [[A.t (I vk), A.t (T.str vn), A.t (T.rows 3 (List.map Tg.row vt)), A.t (T.rows 13 (List.map Fd.row vf)), A.t (T.bool vo), A.t (I vr), A.t (T.rows 8 (List.map Ty.row vof)), A.t (nodesT vl)]]) (by simp [O.below, A.below]) (by simp [O.below, A.below])
      have hV' : SzOk 106 (D.agg [A.t (I vk), A.t (T.str vn), A.t (T.rows 3 (List.map Tg.row vt)), A.t (T.rows 13 (List.map Fd.row vf)), A.t (T.bool vo), A.t (I vr), A.t (T.rows 8 (List.map Ty.row vof)), A.t (nodesT vl)]) fun lv s => (Ty.mk vk vn vt vf vo vr vof vl).sz lv s := by simpa [Ty.row, rowsF_map, rowsY_map] using hV
      refine callK.imp (hV' _ _ id _ si k4.ok k4.obj) ?_
      simp -implicitDefEqProofs [c106r19, j54, hwj]
      exact ⟨_, e1, k4.put.more (by simp only; omega), by simp [j0], by simp [j2], by simp [j52], by simp [j53], by simp⟩
    · rintro st ⟨si, e1, k3, j0, j2, j52, j53, j54⟩
      rw [List.drop_length, szTs] at e1
      simp -implicitDefEqProofs [c106b22, c106r15, j53, j54]
      exact impEnd_n (.inl rfl) (k3.fin e1) (okS ho hlt)
theorem fineF_mem : ∀ {l : List Fd}, fineF l → ∀ x ∈ l, x.fine
  | [], _, _, h => by simp at h
  | v :: r, hf, x, h => by
    rcases List.mem_cons.1 h with e | e
    · rw [e]; exact hf.1
    · exact fineF_mem hf.2 x e
theorem fineY_mem : ∀ {l : List Ty}, fineY l → ∀ x ∈ l, x.fine
  | [], _, _, h => by simp at h
  | v :: r, hf, x, h => by
    rcases List.mem_cons.1 h with e | e
    · rw [e]; exact hf.1
    · exact fineY_mem hf.2 x e
mutual
theorem kind106 : ∀ t : Ty, t.fine → SzOk 106 (.agg (t.row.map .t)) fun lv s => t.sz lv s
  | .mk k nm tg fs o r of l, hf => kind106_step k nm tg fs o r of l hf.2.2.1 hf.2.2.2.2.1 (fineF_mem hf.2.2.2.1) (kinds106F fs hf.2.2.2.1) (kinds106T of hf.2.2.2.2.2.1)
theorem kinds106F : ∀ l : List Fd, fineF l → ∀ nm n t p d g, Fd.mk nm n t p d g ∈ l → SzOk 106 (.agg (t.row.map .t)) fun lv s => t.sz lv s
  | [], _, _, _, _, _, _, _, h => by simp at h
  | .mk nm' n' t' p' d' g' :: r, hf, nm, n, t, p, d, g, h => by
    rcases List.mem_cons.1 h with e | e
    · injection e with e1 e2 e3; rw [e3]; exact kind106 t' hf.1.2.1
    · exact kinds106F r hf.2 nm n t p d g e
theorem kinds106T : ∀ l : List Ty, fineY l → ∀ x ∈ l, SzOk 106 (.agg (x.row.map .t)) fun lv s => x.sz lv s
  | [], _, _, h => by simp at h
  | v :: r, hf, x, h => by
    rcases List.mem_cons.1 h with e | e
    · rw [e]; exact kind106 v hf.1
    · exact kinds106T r hf.2 x e
end
end Go.Proofs.YtdpbobkcbakpfaaGreatDoor

namespace Go.Proofs.YtdpbobkcbakpfaaGreatDoor
open Go Go.Ab
set_option maxRecDepth 100000
@[simp high] theorem _root_.Go.Ab.condK_true (p q : St → Prop) (st : St) : condK (.one (.t (.bool true))) p q st = p st := by simp [condK]
@[simp high] theorem _root_.Go.Ab.condK_false (p q : St → Prop) (st : St) : condK (.one (.t (.bool false))) p q st = q st := by simp [condK]
def KeepT : List Nat → (Nat → D) → (Nat → D) → Prop
  | [], _, _ => True
  | k :: r, tm, tm' => tm' k = tm k ∧ KeepT r tm tm'
def KeepH : List Nat → Hp → Hp → Nat → Prop
  | [], _, _, _ => True
  | k :: r, h, h', nx => (h' k = h k ∧ k < nx) ∧ KeepH r h h' nx
@[simp] theorem keepT_nil {tm tm' : Nat → D} : KeepT [] tm tm' = True := rfl
@[simp] theorem keepT_cons {k : Nat} {r : List Nat} {tm tm' : Nat → D} : KeepT (k :: r) tm tm' = (tm' k = tm k ∧ KeepT r tm tm') := rfl
@[simp] theorem keepH_nil {h h' : Hp} {nx : Nat} : KeepH [] h h' nx = True := rfl
@[simp] theorem keepH_cons {k nx : Nat} {r : List Nat} {h h' : Hp} : KeepH (k :: r) h h' nx = ((h' k = h k ∧ k < nx) ∧ KeepH r h h' nx) := rfl
section
variable {P : Program} {n : Nat} {A : Exit → St → Prop} {ks : List KF} {st : St} {x : ACode}
theorem loopFind {α β : Type} (l : List α) (g : α → Option β) (kt kh : List Nat) (X : Nat → St → Prop) (hs : short l) (h0 : X 0 st ∧ KeepT kt st.tmps st.tmps ∧ KeepH kh st.heap st.heap st.nx)
    (round : ∀ i y st', i < l.length → (i : Int) < (l.length : Int) → IntKind.i64.wrap ((i : Int) + 1) = ((i + 1 : Nat) : Int) → l[i]? = some y → y ∈ l → (∀ r, g y = some r → l.findSome? g = some r) →
      X i st' → KeepT kt st.tmps st'.tmps → KeepH kh st.heap st'.heap st'.nx → awpK P n A x (.post (fun st'' => g y = none ∧ X (i + 1) st'' ∧ KeepT kt st.tmps st''.tmps ∧ KeepH kh st.heap st''.heap st''.nx) :: ks) st')
    (last : ∀ st', l.findSome? g = none → X l.length st' → KeepT kt st.tmps st'.tmps → KeepH kh st.heap st'.heap st'.nx → awpK P n A x (.post (fun _ => False) :: ks) st') : W P n (.loop x) (kont P n A ks) st := by
  refine W.loop (fun k st' => ∃ i, k = l.length - i ∧ i ≤ l.length ∧ (l.take i).findSome? g = none ∧ X i st' ∧ KeepT kt st.tmps st'.tmps ∧ KeepH kh st.heap st'.heap st'.nx) l.length ⟨0, by omega, by omega, by simp, h0⟩ ?_
  rintro k st' ⟨i, rfl, hi, ha, hJ, hT, hH⟩
  rcases Nat.lt_or_ge i l.length with h | h
  · have hy : l[i]? = some l[i] := List.getElem?_eq_getElem h
    have e : List.take (i + 1) l = List.take i l ++ [l[i]] := by rw [List.take_add_one, hy]; rfl
    refine post_mono (round i _ st' h (by omega) (wrapS h hs) hy (List.getElem_mem h) (fun r hr => ?_) hJ hT hH) fun st'' hq => ⟨l.length - (i + 1), by omega, i + 1, rfl, by omega, ?_, hq.2⟩
    · have e2 : l = List.take i l ++ (l[i] :: List.drop (i + 1) l) := by rw [List.getElem_cons_drop]; exact (List.take_append_drop i l).symm
      refine (congrArg (List.findSome? g) e2).trans ?_
      rw [List.findSome?_append, ha, List.findSome?_cons, hr]
      rfl
    · rw [e, List.findSome?_append, ha]
      simp [hq.1]
  · have : i = l.length := by omega
    subst this
    rw [List.take_length] at ha
    exact post_mono (last st' ha hJ hT hH) fun st'' h => h.elim
theorem loopFold {α σ : Type} (l : List α) (g : σ → α → σ) (s0 : σ) (kt kh : List Nat) (X : Nat → σ → St → Prop) (hs : short l) (h0 : X 0 s0 st ∧ KeepT kt st.tmps st.tmps ∧ KeepH kh st.heap st.heap st.nx)
    (round : ∀ i y s st', i < l.length → (i : Int) < (l.length : Int) → IntKind.i64.wrap ((i : Int) + 1) = ((i + 1 : Nat) : Int) → l[i]? = some y → y ∈ l → s = (l.take i).foldl g s0 →
      X i s st' → KeepT kt st.tmps st'.tmps → KeepH kh st.heap st'.heap st'.nx → awpK P n A x (.post (fun st'' => X (i + 1) (g s y) st'' ∧ KeepT kt st.tmps st''.tmps ∧ KeepH kh st.heap st''.heap st''.nx) :: ks) st')
    (last : ∀ st', X l.length (l.foldl g s0) st' → KeepT kt st.tmps st'.tmps → KeepH kh st.heap st'.heap st'.nx → awpK P n A x (.post (fun _ => False) :: ks) st') : W P n (.loop x) (kont P n A ks) st := by
  refine W.loop (fun k st' => ∃ i, k = l.length - i ∧ i ≤ l.length ∧ X i ((l.take i).foldl g s0) st' ∧ KeepT kt st.tmps st'.tmps ∧ KeepH kh st.heap st'.heap st'.nx) l.length ⟨0, by omega, by omega, by simpa using h0⟩ ?_
  rintro k st' ⟨i, rfl, hi, hJ, hT, hH⟩
  rcases Nat.lt_or_ge i l.length with h | h
  · have hy : l[i]? = some l[i] := List.getElem?_eq_getElem h
    have e : List.take (i + 1) l = List.take i l ++ [l[i]] := by rw [List.take_add_one, hy]; rfl
    refine post_mono (round i _ _ st' h (by omega) (wrapS h hs) hy (List.getElem_mem h) rfl hJ hT hH) fun st'' hq => ⟨l.length - (i + 1), by omega, i + 1, rfl, by omega, ?_⟩
    rw [e, List.foldl_append]; exact hq
  · have : i = l.length := by omega
    subst this
    rw [List.take_length] at hJ
    exact post_mono (last st' hJ hT hH) fun st'' h => h.elim
end
end Go.Proofs.YtdpbobkcbakpfaaGreatDoor

namespace Go.Proofs.YtdpbobkcbakpfaaGreatDoor
open Go Go.Ab
set_option maxRecDepth 100000
def Vl.kind : Vl → Int | .mk k _ _ _ _ _ => k
def Vl.n : Vl → Int | .mk _ n _ _ _ _ => n
def Vl.e : Vl → Int | .mk _ _ e _ _ _ => e
def Vl.s : Vl → ByteArray | .mk _ _ _ s _ _ => s
def Vl.names : Vl → List ByteArray | .mk _ _ _ _ ns _ => ns
def Vl.items : Vl → List Vl | .mk _ _ _ _ _ is => is
def Ty.kind : Ty → Int | .mk k _ _ _ _ _ _ _ => k
def Ty.name : Ty → ByteArray | .mk _ nm _ _ _ _ _ _ => nm
def Ty.tags : Ty → List Tg | .mk _ _ tg _ _ _ _ _ => tg
def Ty.fields : Ty → List Fd | .mk _ _ _ fs _ _ _ _ => fs
def Ty.opn : Ty → Bool | .mk _ _ _ _ o _ _ _ => o
def Ty.root : Ty → Int | .mk _ _ _ _ _ r _ _ => r
def Ty.of : Ty → List Ty | .mk _ _ _ _ _ _ of _ => of
def Ty.limits : Ty → List Nd | .mk _ _ _ _ _ _ _ l => l
def Fd.name : Fd → ByteArray | .mk nm _ _ _ _ _ => nm
def Fd.num : Fd → Int | .mk _ n _ _ _ _ => n
def Fd.ty : Fd → Ty | .mk _ _ t _ _ _ => t
def Fd.pres : Fd → Int | .mk _ _ _ p _ _ => p
def Fd.dflt : Fd → List Vl | .mk _ _ _ _ d _ => d
def Fd.grp : Fd → Int | .mk _ _ _ _ _ g => g
def valsT (l : List Vl) : T := .rows 6 (l.map Vl.row)
def tagsT (l : List Tg) : T := .rows 3 (l.map Tg.row)
def fieldsT (l : List Fd) : T := .rows 13 (l.map Fd.row)
def typesT (l : List Ty) : T := .rows 8 (l.map Ty.row)
theorem Vl.row_eq (v : Vl) : v.row = [I v.kind, I v.n, I v.e, .str v.s, textsT v.names, valsT v.items] := by
  cases v; simp [Vl.row, Vl.kind, Vl.n, Vl.e, Vl.s, Vl.names, Vl.items, valsT, rowsV_map]
theorem Ty.row_eq (t : Ty) : t.row = [I t.kind, .str t.name, tagsT t.tags, fieldsT t.fields, .bool t.opn, I t.root, typesT t.of, nodesT t.limits] := by
  cases t; simp [Ty.row, Ty.kind, Ty.name, Ty.tags, Ty.fields, Ty.opn, Ty.root, Ty.of, Ty.limits, tagsT, fieldsT, typesT, rowsF_map, rowsY_map]
theorem Fd.row_eq (f : Fd) : f.row = [.str f.name, I f.num, I f.ty.kind, .str f.ty.name, tagsT f.ty.tags, fieldsT f.ty.fields, .bool f.ty.opn, I f.ty.root, typesT f.ty.of, nodesT f.ty.limits, I f.pres, valsT f.dflt, I f.grp] := by
  cases f; simp [Fd.row, Ty.row_eq, Fd.name, Fd.num, Fd.ty, Fd.pres, Fd.dflt, Fd.grp, valsT, rowsV_map]
mutual
theorem Vl.ind {M : Vl → Prop} (step : ∀ v, (∀ x ∈ v.items, M x) → M v) : ∀ v, M v
  | .mk _k _n _e _s _ns is => step _ (Vl.inds step is)
theorem Vl.inds {M : Vl → Prop} (step : ∀ v, (∀ x ∈ v.items, M x) → M v) : ∀ l : List Vl, ∀ x ∈ l, M x
  | [], _, h => by simp at h
  | v :: r, x, h => by
    rcases List.mem_cons.1 h with e | e
    · rw [e]; exact Vl.ind step v
    · exact Vl.inds step r x e
end
mutual
theorem Ty.ind {M : Ty → Prop} (step : ∀ t, (∀ f ∈ t.fields, M f.ty) → (∀ o ∈ t.of, M o) → M t) : ∀ t, M t
  | .mk _k _nm _tg fs _o _r of _l => step _ (Ty.indF step fs) (Ty.inds step of)
theorem Ty.indF {M : Ty → Prop} (step : ∀ t, (∀ f ∈ t.fields, M f.ty) → (∀ o ∈ t.of, M o) → M t) : ∀ l : List Fd, ∀ x ∈ l, M x.ty
  | [], _, h => by simp at h
  | .mk a b t c d e :: r, x, h => by
    rcases List.mem_cons.1 h with e | e
    · rw [e]; exact Ty.ind step t
    · exact Ty.indF step r x e
theorem Ty.inds {M : Ty → Prop} (step : ∀ t, (∀ f ∈ t.fields, M f.ty) → (∀ o ∈ t.of, M o) → M t) : ∀ l : List Ty, ∀ x ∈ l, M x
  | [], _, h => by simp at h
  | v :: r, x, h => by
    rcases List.mem_cons.1 h with e | e
    · rw [e]; exact Ty.ind step v
    · exact Ty.inds step r x e
end
theorem Vl.fine_iff (v : Vl) : v.fine ↔ v.s.size ≤ 9223372036854775807 ∧ short v.names ∧ (∀ x ∈ v.names, x.size ≤ 9223372036854775807) ∧ short v.items ∧ ∀ x ∈ v.items, x.fine := by
  have h : ∀ l : List Vl, fineV l ↔ ∀ x ∈ l, x.fine := fun l => by
    induction l with
    | nil => simp [fineV]
    | cons a r ih => simp [fineV, ih]
  cases v; simp [Vl.fine, Vl.s, Vl.names, Vl.items, h]
theorem fineV_iff (l : List Vl) : fineV l ↔ ∀ x ∈ l, x.fine := by
  induction l with
  | nil => simp [fineV]
  | cons a r ih => simp [fineV, ih]
theorem fineF_iff (l : List Fd) : fineF l ↔ ∀ x ∈ l, x.fine := by
  induction l with
  | nil => simp [fineF]
  | cons a r ih => simp [fineF, ih]
theorem fineY_iff (l : List Ty) : fineY l ↔ ∀ x ∈ l, x.fine := by
  induction l with
  | nil => simp [fineY]
  | cons a r ih => simp [fineY, ih]
theorem Fd.fine_iff (f : Fd) : f.fine ↔ f.name.size ≤ 9223372036854775807 ∧ f.ty.fine ∧ short f.dflt ∧ ∀ x ∈ f.dflt, x.fine := by
  cases f; simp [Fd.fine, Fd.name, Fd.ty, Fd.dflt, fineV_iff]
theorem Ty.fine_iff (t : Ty) : t.fine ↔ t.name.size ≤ 9223372036854775807 ∧ short t.tags ∧ short t.fields ∧ (∀ f ∈ t.fields, f.fine) ∧ short t.of ∧ (∀ o ∈ t.of, o.fine) ∧ short t.limits ∧ ∀ x ∈ t.limits, x.fine := by
  cases t; simp [Ty.fine, Ty.name, Ty.tags, Ty.fields, Ty.of, Ty.limits, fineF_iff, fineY_iff]
end Go.Proofs.YtdpbobkcbakpfaaGreatDoor

namespace Go.Proofs
open Go.Shelf
def Tryz.lays106_ren : Go.Shelf.Ren := ⟨fun | 106 => 269 | 213 => 285 | 265 => 293 | n => n, fun | 9 => 9 | 3 => 3 | n => n, fun | n => n⟩
theorem Tryz.lays106 : Go.Proofs.Lays.n106 Tryz.prog Tryz.lays106_ren := {
  mixed := by kernel_rfl
  f106 := Tryz.func269.trans (congrArg some (by kernel_rfl))
  f213 := Tryz.func285.trans (congrArg some (by kernel_rfl))
  f265 := Tryz.func293.trans (congrArg some (by kernel_rfl))
  t3 := Tryz.underlying3
  a3 := Tryz.isAgg3
  z3 := Tryz.sizeOf3
  v3 := Tryz.zeroValue3
  t9 := Tryz.underlying9
  a9 := Tryz.isAgg9
  z9 := Tryz.sizeOf9
  v9 := Tryz.zeroValue9 }
def Tryz.lays144_ren : Go.Shelf.Ren := ⟨fun | 144 => 259 | 143 => 282 | 219 => 292 | 217 => 295 | 225 => 290 | 224 => 289 | 267 => 296 | 266 => 297 | 314 => 298 | n => n, fun | 9 => 9 | 4 => 4 | 3 => 3 | 5 => 5 | 46 => 207 | 146 => 263 | 51 => 232 | n => n, fun | 1 => 2 | n => n⟩
theorem Tryz.lays144 : Go.Proofs.Lays.n144 Tryz.prog Tryz.lays144_ren := {
  mixed := by kernel_rfl
  f143 := Tryz.func282.trans (congrArg some (by kernel_rfl))
  f144 := Tryz.func259.trans (congrArg some (by kernel_rfl))
  f217 := Tryz.func295.trans (congrArg some (by kernel_rfl))
  f219 := Tryz.func292.trans (congrArg some (by kernel_rfl))
  f224 := Tryz.func289.trans (congrArg some (by kernel_rfl))
  f225 := Tryz.func290.trans (congrArg some (by kernel_rfl))
  f266 := Tryz.func297.trans (congrArg some (by kernel_rfl))
  f267 := Tryz.func296.trans (congrArg some (by kernel_rfl))
  f314 := Tryz.func298.trans (congrArg some (by kernel_rfl))
  t3 := Tryz.underlying3
  a3 := Tryz.isAgg3
  z3 := Tryz.sizeOf3
  v3 := Tryz.zeroValue3
  t4 := Tryz.underlying4
  a4 := Tryz.isAgg4
  z4 := Tryz.sizeOf4
  v4 := Tryz.zeroValue4
  t5 := Tryz.underlying5
  a5 := Tryz.isAgg5
  z5 := Tryz.sizeOf5
  v5 := Tryz.zeroValue5
  t9 := Tryz.underlying9
  a9 := Tryz.isAgg9
  z9 := Tryz.sizeOf9
  v9 := Tryz.zeroValue9
  t46 := Tryz.underlying207
  a46 := Tryz.isAgg207
  z46 := Tryz.sizeOf207
  v46 := Tryz.zeroValue207
  t51 := Tryz.underlying232
  a51 := Tryz.isAgg232
  z51 := Tryz.sizeOf232
  v51 := Tryz.zeroValue232
  t146 := Tryz.underlying263
  a146 := Tryz.isAgg263
  z146 := Tryz.sizeOf263
  v146 := Tryz.zeroValue263
  g1 := by kernel_rfl }
def Tryz.lays160_ren : Go.Shelf.Ren := ⟨fun | 160 => 151 | 232 => 188 | 231 => 187 | 227 => 189 | 234 => 191 | 233 => 190 | 236 => 193 | 235 => 192 | 228 => 231 | 271 => 234 | 151 => 233 | 197 => 232 | 120 => 274 | 152 => 273 | 260 => 272 | 137 => 287 | 119 => 288 | 224 => 289 | 225 => 290 | 217 => 295 | 266 => 297 | n => n, fun | 9 => 9 | 4 => 4 | 3 => 3 | 5 => 5 | 117 => 198 | 116 => 197 | 0 => 0 | 124 => 201 | 21 => 21 | 105 => 220 | 46 => 207 | 119 => 256 | 139 => 259 | 138 => 258 | n => n, fun | 3 => 0 | 4 => 1 | n => n⟩
theorem Tryz.lays160 : Go.Proofs.Lays.n160 Tryz.prog Tryz.lays160_ren := {
  mixed := by kernel_rfl
  f119 := Tryz.func288.trans (congrArg some (by kernel_rfl))
  f120 := Tryz.func274.trans (congrArg some (by kernel_rfl))
  f137 := Tryz.func287.trans (congrArg some (by kernel_rfl))
  f151 := Tryz.func233.trans (congrArg some (by kernel_rfl))
  f152 := Tryz.func273.trans (congrArg some (by kernel_rfl))
  f160 := Tryz.func151.trans (congrArg some (by kernel_rfl))
  f197 := Tryz.func232.trans (congrArg some (by kernel_rfl))
  f217 := Tryz.func295.trans (congrArg some (by kernel_rfl))
  f224 := Tryz.func289.trans (congrArg some (by kernel_rfl))
  f225 := Tryz.func290.trans (congrArg some (by kernel_rfl))
  f227 := Tryz.func189.trans (congrArg some (by kernel_rfl))
  f228 := Tryz.func231.trans (congrArg some (by kernel_rfl))
  f231 := Tryz.func187.trans (congrArg some (by kernel_rfl))
  f232 := Tryz.func188.trans (congrArg some (by kernel_rfl))
  f233 := Tryz.func190.trans (congrArg some (by kernel_rfl))
  f234 := Tryz.func191.trans (congrArg some (by kernel_rfl))
  f235 := Tryz.func192.trans (congrArg some (by kernel_rfl))
  f236 := Tryz.func193.trans (congrArg some (by kernel_rfl))
  f260 := Tryz.func272.trans (congrArg some (by kernel_rfl))
  f266 := Tryz.func297.trans (congrArg some (by kernel_rfl))
  f271 := Tryz.func234.trans (congrArg some (by kernel_rfl))
  t0 := Tryz.underlying0
  a0 := Tryz.isAgg0
  z0 := Tryz.sizeOf0
  v0 := Tryz.zeroValue0
  t3 := Tryz.underlying3
  a3 := Tryz.isAgg3
  z3 := Tryz.sizeOf3
  v3 := Tryz.zeroValue3
  t4 := Tryz.underlying4
  a4 := Tryz.isAgg4
  z4 := Tryz.sizeOf4
  v4 := Tryz.zeroValue4
  t5 := Tryz.underlying5
  a5 := Tryz.isAgg5
  z5 := Tryz.sizeOf5
  v5 := Tryz.zeroValue5
  t9 := Tryz.underlying9
  a9 := Tryz.isAgg9
  z9 := Tryz.sizeOf9
  v9 := Tryz.zeroValue9
  t21 := Tryz.underlying21
  a21 := Tryz.isAgg21
  z21 := Tryz.sizeOf21
  v21 := Tryz.zeroValue21
  t46 := Tryz.underlying207
  a46 := Tryz.isAgg207
  z46 := Tryz.sizeOf207
  v46 := Tryz.zeroValue207
  t105 := Tryz.underlying220
  a105 := Tryz.isAgg220
  z105 := Tryz.sizeOf220
  v105 := Tryz.zeroValue220
  t116 := Tryz.underlying197
  a116 := Tryz.isAgg197
  z116 := Tryz.sizeOf197
  t117 := Tryz.underlying198
  a117 := Tryz.isAgg198
  z117 := Tryz.sizeOf198
  v117 := Tryz.zeroValue198
  t119 := Tryz.underlying256
  a119 := Tryz.isAgg256
  z119 := Tryz.sizeOf256
  t124 := Tryz.underlying201
  a124 := Tryz.isAgg201
  z124 := Tryz.sizeOf201
  v124 := Tryz.zeroValue201
  t138 := Tryz.underlying258
  a138 := Tryz.isAgg258
  z138 := Tryz.sizeOf258
  v138 := Tryz.zeroValue258
  t139 := Tryz.underlying259
  a139 := Tryz.isAgg259
  z139 := Tryz.sizeOf259
  v139 := Tryz.zeroValue259
  g3 := by kernel_rfl
  g4 := by kernel_rfl }
def Tryz.laysG15_ren : Go.Shelf.Ren := ⟨fun | 15 => 225 | 20 => 265 | n => n, fun | 9 => 9 | 23 => 217 | 3 => 3 | 4 => 4 | 0 => 0 | 21 => 21 | n => n, fun | n => n⟩
theorem Tryz.laysG15 : Go.Proofs.LaysGw.n15 Tryz.prog Tryz.laysG15_ren := {
  mixed := by kernel_rfl
  f15 := Tryz.func225.trans (congrArg some (by kernel_rfl))
  f20 := Tryz.func265.trans (congrArg some (by kernel_rfl))
  t0 := Tryz.underlying0
  a0 := Tryz.isAgg0
  z0 := Tryz.sizeOf0
  v0 := Tryz.zeroValue0
  i0 := by kernel_rfl
  t3 := Tryz.underlying3
  a3 := Tryz.isAgg3
  z3 := Tryz.sizeOf3
  v3 := Tryz.zeroValue3
  i3 := by kernel_rfl
  t4 := Tryz.underlying4
  a4 := Tryz.isAgg4
  z4 := Tryz.sizeOf4
  v4 := Tryz.zeroValue4
  i4 := by kernel_rfl
  t9 := Tryz.underlying9
  a9 := Tryz.isAgg9
  z9 := Tryz.sizeOf9
  v9 := Tryz.zeroValue9
  i9 := by kernel_rfl
  t21 := Tryz.underlying21
  a21 := Tryz.isAgg21
  z21 := Tryz.sizeOf21
  v21 := Tryz.zeroValue21
  i21 := by kernel_rfl
  t23 := Tryz.underlying217
  a23 := Tryz.isAgg217
  z23 := Tryz.sizeOf217
  v23 := Tryz.zeroValue217
  i23 := by kernel_rfl }
def Tryz.lays100_ren : Go.Shelf.Ren := ⟨fun | 100 => 258 | 207 => 281 | n => n, fun | 9 => 9 | 4 => 4 | 3 => 3 | n => n, fun | n => n⟩
theorem Tryz.lays100 : Go.Proofs.Lays.n100 Tryz.prog Tryz.lays100_ren := {
  mixed := by kernel_rfl
  f100 := Tryz.func258.trans (congrArg some (by kernel_rfl))
  f207 := Tryz.func281.trans (congrArg some (by kernel_rfl))
  t3 := Tryz.underlying3
  a3 := Tryz.isAgg3
  z3 := Tryz.sizeOf3
  v3 := Tryz.zeroValue3
  t4 := Tryz.underlying4
  a4 := Tryz.isAgg4
  z4 := Tryz.sizeOf4
  v4 := Tryz.zeroValue4
  t9 := Tryz.underlying9
  a9 := Tryz.isAgg9
  z9 := Tryz.sizeOf9
  v9 := Tryz.zeroValue9 }
end Go.Proofs

namespace Go.Ab
open Go Go.Proofs Go.RowKit
theorem PSp.lib {P : Program} {f : FuncId} {xs : List D} {r : D} {vs : Array Value} {v : Value} (hvs : ∀ w F ν us, VArgs w F ν xs us → us = vs) (hv : ∀ w F ν, VD w F ν r v)
    (hC : ∀ w : World, (∃ m, w.cell? ⟨globB, 0, none⟩ = some (.int .i64 m)) → Calls P f vs w fun e w' => e = .returned v ∧ Below w.heap.size w w') : PSp P f xs r := by
  intro h n w F ν us hs ha
  rw [hvs _ _ _ _ ha]
  refine (hC w hs.glob.2).mono ?_
  rintro e w' ⟨rfl, hB⟩
  obtain ⟨g1, g2⟩ := hs.ext (F' := F) ⟨hB.os, hB.tape, hB.output⟩ hB.size hB.block (fun _ _ h => h) fun _ _ h => .inl h
  exact ⟨r, v, h, F, ν, rfl, ⟨rfl, rfl⟩, g1.more (Nat.le_add_right _ _), hv _ _ _, g2⟩
theorem vargs_str {w : World} {F : Fix} {ν : Nu} {a : ByteArray} {us : Array Value} (h : VArgs w F ν [.one (.t (.str a))] us) : us = #[.string a] := by
  obtain ⟨h1, h2⟩ := h
  obtain ⟨l⟩ := us
  match l, h1 with
  | [u], _ =>
    have k0 : VT w F (.str a) u := h2 0 _ u rfl rfl
    cases k0; rfl
theorem vargs_str2 {w : World} {F : Fix} {ν : Nu} {a b : ByteArray} {us : Array Value} (h : VArgs w F ν [.one (.t (.str a)), .one (.t (.str b))] us) : us = #[.string a, .string b] := by
  obtain ⟨h1, h2⟩ := h
  obtain ⟨l⟩ := us
  match l, h1 with
  | [u, v], _ =>
    have k0 : VT w F (.str a) u := h2 0 _ u rfl rfl
    have k1 : VT w F (.str b) v := h2 1 _ v rfl rfl
    cases k0; cases k1; rfl
theorem vargs_strfn {w : World} {F : Fix} {ν : Nu} {a : ByteArray} {f : FuncId} {us : Array Value} (h : VArgs w F ν [.one (.t (.str a)), .one (.fn f [])] us) : us = #[.string a, .func (.func f) #[] #[]] := by
  obtain ⟨h1, h2⟩ := h
  obtain ⟨l⟩ := us
  match l, h1 with
  | [u, v], _ =>
    have k0 : VT w F (.str a) u := h2 0 _ u rfl rfl
    obtain ⟨us, k1, k2, _⟩ : VA w F ν (.fn f []) v := h2 1 _ v rfl rfl
    cases k0
    have : us = #[] := by simpa using k2
    rw [k1, this]
end Go.Ab
namespace Go.Proofs.YtdpbobkcbakpfaaGreatDoor
open Go Go.Ab Go.Proofs Go.Shelf Go.RowKit
theorem trim01 (s : ByteArray) (hs : s.size ≤ 9223372036854775807) : PSp Tryz.prog 151 [.one (.t (.str s)), .one (.t (.str (bs [48, 49])))] (.one (.t (.str ⟨(Lib.trimS s.data.toList [48, 49]).toArray⟩))) :=
  PSp.lib (fun _ _ _ _ h => vargs_str2 h) (fun _ _ _ => .str _) fun w _ => by
    have h := Any.strings_Trim_laid Tryz.lays160 (by kernel_rfl) s ⟨#[48, 49]⟩ w hs (by decide) (ascii_of_all (by decide))
    exact h
theorem compareP (a b : ByteArray) : PSp Tryz.prog 269 [.one (.t (.str a)), .one (.t (.str b))] (.one (.t (.int .i64 (Lib.compareBytes a.data.toList b.data.toList)))) :=
  PSp.lib (fun _ _ _ _ h => vargs_str2 h) (fun _ _ _ => .int _ _) fun w _ => (Any.strings_Compare Tryz.lays106 a b w).mono fun e w' h => ⟨h.1, by rw [h.2]; exact Below.refl _ _⟩
theorem containsP (s t : ByteArray) (hs : s.size < 4294967281) : PSp Tryz.prog 259 [.one (.t (.str s)), .one (.t (.str t))] (.one (.t (.bool (Lib.contains s.data.toList t.data.toList)))) :=
  PSp.lib (fun _ _ _ _ h => vargs_str2 h) (fun _ _ _ => .bool _) fun w hg => by
    obtain ⟨m, hm⟩ := hg
    exact (Any.strings_Contains Tryz.lays144 s t m w hs hm).mono fun e w' h => ⟨h.1, by rw [h.2]; exact Below.refl _ _⟩
theorem above127 (x : Nat) (w : World) : Calls Tryz.prog 226 #[.int .i32 x] w fun e w' => e = .returned (.bool (decide (127 < x))) ∧ w' = w := by
  go_enter Tryz.func226, Tryz.ntmps226
  go_wp2
  go_ret
  refine ⟨?_, rfl⟩
  congr 2
  simp
  try omega
theorem indexFuncP (s : ByteArray) : PSp Tryz.prog 225 [.one (.t (.str s)), .one (.fn 226 [])] (.one (.t (.int .i64 (Lib.idxFunc (fun x => decide (127 < x)) true s)))) :=
  PSp.lib (fun _ _ _ _ h => vargs_strfn h) (fun _ _ _ => .int _ _) fun w _ => by
    have h := Any.strings_IndexFunc Tryz.laysG15 226 #[] (enters_of Tryz.func226 (by kernel_rfl) rfl) (fun x => decide (127 < x)) s w (fun W x _ => (above127 x W).mono fun e w' h => ⟨h.1, 0, by rw [h.2]; rfl⟩)
    exact h
end Go.Proofs.YtdpbobkcbakpfaaGreatDoor
namespace Go.Proofs.YtdpbobkcbakpfaaGreatDoor
open Go Go.Ab Go.Proofs Go.Shelf Go.RowKit
theorem hasSuffixP (s t : ByteArray) (hs : s.size ≤ 9223372036854775807) : PSp Tryz.prog 258 [.one (.t (.str s)), .one (.t (.str t))] (.one (.t (.bool (Lib.hasSuffix s.data.toList t.data.toList)))) :=
  PSp.lib (fun _ _ _ _ h => vargs_str2 h) (fun _ _ _ => .bool _) fun w hg =>
    (Any.strings_HasSuffix Tryz.lays100 s t w hs).mono fun e w' h => ⟨h.1, by rw [h.2]; exact Below.refl _ _⟩
end Go.Proofs.YtdpbobkcbakpfaaGreatDoor

namespace Go.Proofs.YtdpbobkcbakpfaaGreatDoor
open Go Go.Ab
set_option maxRecDepth 100000
set_option maxHeartbeats 4000000
theorem eqCases (a b : Int) : a = b ∨ ((a == b) = false ∧ ¬ a = b ∧ ¬ b = a ∧ (b == a) = false ∧ (a != b) = true ∧ (b != a) = true) := by
  by_cases h : a = b
  · exact .inl h
  · have h' : ¬ b = a := fun e => h e.symm
    exact .inr ⟨by simp [h], h, h', by simp [h'], by simp [h], by simp [h']⟩
def seqB (a b : ByteArray) : Bool := a.toList == b.toList
def idxText (l : List ByteArray) (s : ByteArray) : Int := match l.findIdx? (fun x => seqB x s) with | some i => (i : Int) | none => -1
def hasT (l : List ByteArray) (s : ByteArray) : Bool := l.any fun x => seqB x s
def Le (b : Nat) {α : Type} (l : List α) : Prop := l.length ≤ b
section
variable {P : Program} {n : Nat} {A : Exit → St → Prop} {ks : List KF} {st : St} {x : ACode}
theorem loopIdx {α : Type} (l : List α) (p : α → Bool) (kt kh : List Nat) (X : Nat → St → Prop) (hs : short l) (h0 : X 0 st ∧ KeepT kt st.tmps st.tmps ∧ KeepH kh st.heap st.heap st.nx)
    (round : ∀ i y st', i < l.length → (i : Int) < (l.length : Int) → IntKind.i64.wrap ((i : Int) + 1) = ((i + 1 : Nat) : Int) → l[i]? = some y → y ∈ l → (p y = true → l.findIdx? p = some i) →
      X i st' → KeepT kt st.tmps st'.tmps → KeepH kh st.heap st'.heap st'.nx → awpK P n A x (.post (fun st'' => p y = false ∧ X (i + 1) st'' ∧ KeepT kt st.tmps st''.tmps ∧ KeepH kh st.heap st''.heap st''.nx) :: ks) st')
    (last : ∀ st', l.findIdx? p = none → X l.length st' → KeepT kt st.tmps st'.tmps → KeepH kh st.heap st'.heap st'.nx → awpK P n A x (.post (fun _ => False) :: ks) st') : W P n (.loop x) (kont P n A ks) st := by
  refine W.loop (fun k st' => ∃ i, k = l.length - i ∧ i ≤ l.length ∧ (∀ y ∈ l.take i, p y = false) ∧ X i st' ∧ KeepT kt st.tmps st'.tmps ∧ KeepH kh st.heap st'.heap st'.nx) l.length ⟨0, by omega, by omega, by simp, h0⟩ ?_
  rintro k st' ⟨i, rfl, hi, ha, hJ, hT, hH⟩
  rcases Nat.lt_or_ge i l.length with h | h
  · have hy : l[i]? = some l[i] := List.getElem?_eq_getElem h
    have e : List.take (i + 1) l = List.take i l ++ [l[i]] := by rw [List.take_add_one, hy]; rfl
    refine post_mono (round i _ st' h (by omega) (wrapS h hs) hy (List.getElem_mem h) (fun hr => ?_) hJ hT hH) fun st'' hq => ⟨l.length - (i + 1), by omega, i + 1, rfl, by omega, ?_, hq.2⟩
    · rw [List.findIdx?_eq_some_iff_getElem]
      refine ⟨h, hr, fun j hj => ?_⟩
      have := ha l[j] (List.mem_take_iff_getElem.2 ⟨j, by omega, rfl⟩)
      simp [this]
    · rw [e]
      intro y hy
      rcases List.mem_append.1 hy with hy | hy
      · exact ha y hy
      · simp at hy; rw [hy]; exact hq.1
  · have : i = l.length := by omega
    subst this
    rw [List.take_length] at ha
    exact post_mono (last st' (by rw [List.findIdx?_eq_none_iff]; exact ha) hJ hT hH) fun st'' h => h.elim
end
theorem loopAll {P : Program} {n : Nat} {A : Exit → St → Prop} {ks : List KF} {st : St} {x : ACode} {α : Type} (l : List α) (p : α → Bool) (kt kh : List Nat) (X : Nat → St → Prop) (hs : short l) (h0 : X 0 st ∧ KeepT kt st.tmps st.tmps ∧ KeepH kh st.heap st.heap st.nx)
    (round : ∀ i y st', i < l.length → (i : Int) < (l.length : Int) → IntKind.i64.wrap ((i : Int) + 1) = ((i + 1 : Nat) : Int) → l[i]? = some y → y ∈ l → (p y = true → l.any p = true) →
      X i st' → KeepT kt st.tmps st'.tmps → KeepH kh st.heap st'.heap st'.nx → awpK P n A x (.post (fun st'' => p y = false ∧ X (i + 1) st'' ∧ KeepT kt st.tmps st''.tmps ∧ KeepH kh st.heap st''.heap st''.nx) :: ks) st')
    (last : ∀ st', l.any p = false → X l.length st' → KeepT kt st.tmps st'.tmps → KeepH kh st.heap st'.heap st'.nx → awpK P n A x (.post (fun _ => False) :: ks) st') : W P n (.loop x) (kont P n A ks) st :=
  loopIdx l p kt kh X hs h0 (fun i y st' hi hiI hw hg hy _ hx hk hh => round i y st' hi hiI hw hg hy (fun e => List.any_eq_true.2 ⟨y, hy, e⟩) hx hk hh)
    fun st' h => last st' (by rw [List.findIdx?_eq_none_iff] at h; rw [List.any_eq_false]; exact fun x hx => by simp [h x hx])
attribute [local simp] c243r0 c243r1 c243r2 c243r4 c243r5 c243r3 c243b6 c243r6 c243 in
theorem P243 (l : List ByteArray) (s : ByteArray) (hl : short l) : PSp Tryz.prog 243 [.one (.t (textsT l)), .one (.t (.str s))] (.one (.t (I (idxText l s)))) := by
  refine k243.pureK (by simp) rfl rfl ?_
  simp -implicitDefEqProofs [-guardOk, -gval, textsT]
  refine loopIdx l (fun x => seqB x s) [0, 1] [] (fun i st => st.tmps 5 = .one (.t (I i))) hl ⟨by simp, by simp, by simp⟩ ?_ ?_
  · intro i y st hi hiI hw hg hy hany hx hk hh
    simp at hk
    simp -implicitDefEqProofs [-guardOk, -gval, hx, hk, hiI, hi, rowAtM hg, hw, pureEnd]
    exact ⟨fun e => by simp [idxText, hany (by simp [seqB, e])], fun e => by simp [seqB, e]⟩
  · intro st hany hx hk hh
    simp at hk
    simp -implicitDefEqProofs [-guardOk, -gval, hx, hk, pureEnd, idxText, hany]
attribute [local simp] c206r0 c206r1 c206 in
theorem P206 (l : List ByteArray) (s : ByteArray) (hl : short l) : PSp Tryz.prog 206 [.one (.t (textsT l)), .one (.t (.str s))] (.one (.t (.bool (hasT l s)))) := by
  refine k206.pureK (by simp) rfl rfl ?_
  simp -implicitDefEqProofs [-guardOk, -gval, textsT]
  refine callK.tree (P243 l s hl) rfl ?_
  simp -implicitDefEqProofs [-guardOk, -gval, pureEnd, idxText, hasT]
  cases h : l.findIdx? fun x => seqB x s with
  | none =>
    rw [List.findIdx?_eq_none_iff] at h
    simp
    exact fun x hx => h x hx
  | some i =>
    rw [List.findIdx?_eq_some_iff_getElem] at h
    obtain ⟨h1, h2, _⟩ := h
    have e : (l.any fun x => seqB x s) = true := List.any_eq_true.2 ⟨_, List.getElem_mem h1, h2⟩
    rw [e]
    simp
def ints (l : List Int) : T := .rows 1 (l.map fun a => [I a])
attribute [local simp] c46r0 c46r1 c46r2 c46r4 c46r5 c46r3 c46b6 c46r6 c46 in
theorem P46 (l : List Int) (n : Int) (hl : short l) : PSp Tryz.prog 46 [.one (.t (ints l)), .one (.t (I n))] (.one (.t (.bool (l.any fun x => x == n)))) := by
  refine k46.pureK (by simp) rfl rfl ?_
  simp -implicitDefEqProofs [-guardOk, -gval, ints]
  refine loopAll l (fun x => x == n) [0, 1] [] (fun i st => st.tmps 5 = .one (.t (I i))) hl ⟨by simp, by simp, by simp⟩ ?_ ?_
  · intro i y st hi hiI hw hg hy hany hx hk hh
    simp at hk
    simp -implicitDefEqProofs [-guardOk, -gval, hx, hk, hiI, hi, rowAtM hg, hw, pureEnd]
    simpa using hany
  · intro st hany hx hk hh
    simp at hk hany
    simp -implicitDefEqProofs [-guardOk, -gval, hx, hk, pureEnd]
    exact hany
def chars (s : ByteArray) : List Int := s.data.toList.map fun b => (b.toNat : Int)
theorem chars_len (s : ByteArray) : (chars s).length = s.size := by simp [chars]
theorem chars_at {s : ByteArray} {i : Nat} {c : Int} (h : (chars s)[i]? = some c) : ((s.data.toList.getD i 0).toNat : Int) = c := by
  simp only [chars, List.getElem?_map, Option.map_eq_some_iff] at h
  obtain ⟨b, hb, rfl⟩ := h
  rw [List.getD_eq_getElem?_getD, hb]; rfl
theorem chars_mem {s : ByteArray} {c : Int} (h : c ∈ chars s) : 0 ≤ c ∧ c < 256 := by
  simp only [chars, List.mem_map] at h
  obtain ⟨b, _, rfl⟩ := h
  have := b.toNat_lt
  omega
def isSm (c : Int) : Bool := decide (97 ≤ c) && decide (c ≤ 122)
def isCp (c : Int) : Bool := decide (65 ≤ c) && decide (c ≤ 90)
def isLet (c : Int) : Bool := isSm c || isCp c
def isDig (c : Int) : Bool := decide (48 ≤ c) && decide (c ≤ 57)
theorem Q242 (c : Int) : PSp Tryz.prog 242 [.one (.t (.int .u8 c))] (.one (.t (.bool (isDig c)))) := P242 c
theorem Q240 (c : Int) : PSp Tryz.prog 240 [.one (.t (.int .u8 c))] (.one (.t (.bool (isSm c)))) := P240 c
theorem Q241 (c : Int) : PSp Tryz.prog 241 [.one (.t (.int .u8 c))] (.one (.t (.bool (isCp c)))) := P241 c
def nameRest (l : List Int) (i : Nat) : Bool := let c := l.getD i 0; isDig c || isLet c || c == 95 || (c == 45 && !(l.getD (i - 1) 0 == 45))
def nameOk (s : ByteArray) : Bool := let l := chars s
  decide (1 ≤ l.length) && decide (l.length ≤ 32) && isLet (l.getD 0 0) && !(l.getD (l.length - 1) 0 == 45) && (List.range (l.length - 1)).all fun i => nameRest l (i + 1)
theorem ixs_eq (s : ByteArray) (k : Int) : D.ixs (some k) (.one (.t (.str s))) = .one (.t (.int .u8 ((chars s).getD k.toNat 0))) := by
  simp only [D.ixs, Option.getD_some, chars, List.getD_eq_getElem?_getD, List.getElem?_map]
  cases s.data.toList[k.toNat]? <;> rfl
attribute [local simp] ixs_eq D.ixsOk
theorem range_at {n i y : Nat} (h : (List.range n)[i]? = some y) : y = i := by
  rw [List.getElem?_range] at h
  · simpa using h.symm
  · rcases Nat.lt_or_ge i n with g | g
    · exact g
    · rw [List.getElem?_eq_none (by simpa using g)] at h; cases h
attribute [local simp] c205r0 c205r1 c205r2 c205t3 c205r3 c205r4 c205t6 c205r6 c205r7 c205r8 c205t10 c205t11 c205r5 c205t13 c205b14 c205t15 c205r9 c205t17 c205t18 c205 in
theorem name17 (s : ByteArray) (h1 : 0 < s.size) (h2 : s.size ≤ 32) (h3 : isLet ((chars s).getD 0 0) = true) (h4 : ((chars s).getD (s.size - 1) 0 == 45) = false) (st : St) (h0 : st.tmps 0 = .one (.t (.str s))) :
    awpK Tryz.prog 66 (pureEnd [.tmp 2] (.one (.t (.bool (nameOk s))))) c205t17 [] st := by
  have e0 : nameOk s = !(List.range (s.size - 1)).any fun i => !nameRest (chars s) (i + 1) := by
    simp only [nameOk, chars_len, h3, h4]
    simp [show 1 ≤ s.size by omega, h2, List.not_any_eq_all_not]
  simp -implicitDefEqProofs [-guardOk, -gval]
  refine loopAll (List.range (s.size - 1)) (fun i => !nameRest (chars s) (i + 1)) [0] [] (fun i st => st.tmps 3 = .one (.t (I (i + 1)))) (by simp [short]; omega) ⟨by simp, by simp, by simp⟩ ?_ ?_
  · intro i y st hi hiI hw hg hy hany hx hk hh
    obtain rfl := range_at hg
    simp [h0] at hk hi
    have hi' : (y : Int) + 1 < (s.size : Int) := by omega
    have hw2 : IntKind.i64.wrap (y : Int) = (y : Int) := nat_wrap y (by omega) (by omega)
    have hw3 : IntKind.i64.wrap ((y : Int) + 1 + 1) = (y : Int) + 1 + 1 := by have := nat_wrap (x := (y : Int) + 1 + 1) (y + 2) (by omega) (by omega); rw [this]; omega
    have e1 : ((y : Int) + 1).toNat = y + 1 := by omega
    have e3 : (0 : Int) ≤ (y : Int) + 1 := by omega
    have e4 : y < s.size := by omega
    have e5 : (y : Int) < (s.size : Int) := by omega
    obtain ⟨c, hc⟩ : ∃ c, (chars s)[y + 1]?.getD 0 = c := ⟨_, rfl⟩
    obtain ⟨d, hd⟩ : ∃ c, (chars s)[y]?.getD 0 = c := ⟨_, rfl⟩
    have e2 : nameRest (chars s) (y + 1) = (isDig c || isSm c || isCp c || c == 95 || (c == 45 && !(d == 45))) := by simp [nameRest, hc, hd, isLet, Bool.or_assoc]
    rw [e0]
    rw [e2] at hany ⊢
    simp -implicitDefEqProofs [-guardOk, -gval, h0, hx, hk, hi', e1, hc, e3]
    refine callK.tree (Q242 _) rfl ?_
    cases d1 : isDig c with
    | true => simp -implicitDefEqProofs [-guardOk, -gval, hx, hk, hw3]
    | false =>
      simp -implicitDefEqProofs [-guardOk, -gval, hx, hk]
      refine callK.tree (Q240 _) rfl ?_
      cases d2 : isSm c with
      | true => simp -implicitDefEqProofs [-guardOk, -gval, hx, hk, hw3]
      | false =>
        simp -implicitDefEqProofs [-guardOk, -gval, hx, hk]
        refine callK.tree (Q241 _) rfl ?_
        cases d3 : isCp c with
        | true => simp -implicitDefEqProofs [-guardOk, -gval, hx, hk, hw3]
        | false =>
          rw [d1, d2, d3] at hany
          rcases eqCases c 95 with rfl | q1
          · simp -implicitDefEqProofs [-guardOk, -gval, hx, hk, hw3]
          · rcases eqCases c 45 with rfl | q2
            · rcases eqCases d 45 with rfl | q3
              · simp -implicitDefEqProofs [-guardOk, -gval, hx, hk, hw2, hd, e5, pureEnd]
                simpa using hany
              · simp -implicitDefEqProofs [-guardOk, -gval, hx, hk, hw2, hw3, hd, e5, q3]
            · simp -implicitDefEqProofs [-guardOk, -gval, hx, hk, q1, q2, pureEnd]
              simpa [q1, q2] using hany
  · intro st hany hx hk hh
    simp [h0] at hk
    rw [e0, hany]
    have e5 : ¬ ((s.size - 1 : Nat) : Int) + 1 < (s.size : Int) := by omega
    simp at hx
    simp -implicitDefEqProofs [-guardOk, -gval, hx, hk, e5, pureEnd]
attribute [local simp] c205r0 c205r1 c205r2 c205t3 c205r3 c205r4 c205t6 c205r6 c205r7 c205r8 c205t10 c205t11 c205r5 c205t13 c205b14 c205t15 c205r9 c205t18 c205 in
theorem P205 (s : ByteArray) (hs : s.size ≤ 9223372036854775807) : PSp Tryz.prog 205 [.one (.t (.str s))] (.one (.t (.bool (nameOk s)))) := by
  refine k205.pureK (by simp) rfl rfl ?_
  simp -implicitDefEqProofs [-guardOk, -gval]
  refine callK.tree (WithinP _ _ _) rfl ?_
  cases h1 : (decide ((1 : Int) ≤ (s.size : Int)) && decide ((s.size : Int) ≤ 32)) with
  | false =>
    simp -implicitDefEqProofs [-guardOk, -gval, pureEnd]
    simp at h1
    simp [nameOk, chars_len]
    omega
  | true =>
    simp at h1
    have h1' : 0 < s.size ∧ s.size ≤ 32 := by omega
    have hw1 : IntKind.i64.wrap ((s.size : Int) - 1) = ((s.size - 1 : Nat) : Int) := nat_wrap _ (by omega) (by omega)
    simp -implicitDefEqProofs [-guardOk, -gval, h1'.1]
    refine callK.tree (Q240 _) rfl ?_
    obtain ⟨c0, hc0⟩ : ∃ c, (chars s)[0]?.getD 0 = c := ⟨_, rfl⟩
    obtain ⟨cl, hcl⟩ : ∃ c, (chars s)[s.size - 1]?.getD 0 = c := ⟨_, rfl⟩
    have key : isLet c0 = false ∨ (cl == 45) = true → nameOk s = false := fun h => by
      simp only [nameOk, chars_len, List.getD_eq_getElem?_getD, hc0, hcl]
      rcases h with h | h <;> simp [h]
    have main : isLet c0 = true → ¬ cl = 45 → ∀ st : St, st.tmps 0 = .one (.t (.str s)) → awpK Tryz.prog 66 (pureEnd [.tmp 2] (.one (.t (.bool (nameOk s))))) c205t17 [] st := fun h h' => name17 s h1'.1 h1'.2 (by simpa [hc0] using h) (by simpa [hcl] using h')
    rw [hc0]
    cases h2 : isSm c0 with
    | true =>
      simp -implicitDefEqProofs [-guardOk, -gval, hw1, hcl]
      refine ⟨by omega, fun h => ?_, fun h => main (by simp [isLet, h2]) h _ (by simp)⟩
      simp -implicitDefEqProofs [-guardOk, -gval, pureEnd, key (.inr (by simpa using h))]
    | false =>
      simp -implicitDefEqProofs [-guardOk, -gval, hw1, hc0, h1'.1]
      refine callK.tree (Q241 _) rfl ?_
      cases h3 : isCp c0 with
      | true =>
        simp -implicitDefEqProofs [-guardOk, -gval, hw1, hcl]
        refine ⟨by omega, fun h => ?_, fun h => main (by simp [isLet, h3]) h _ (by simp)⟩
        simp -implicitDefEqProofs [-guardOk, -gval, pureEnd, key (.inr (by simpa using h))]
      | false => simp -implicitDefEqProofs [-guardOk, -gval, pureEnd, key (.inl (by simp [isLet, h2, h3]))]
end Go.Proofs.YtdpbobkcbakpfaaGreatDoor

namespace Go.Proofs.YtdpbobkcbakpfaaGreatDoor
open Go Go.Ab
set_option maxRecDepth 100000
set_option maxHeartbeats 4000000
attribute [local simp] ixs_eq D.ixsOk
def nameCh (c : Int) : Bool := isLet c || isDig c || c == 95 || c == 45
def nameOkN (s : ByteArray) : Bool := decide (1 ≤ s.size) && decide (s.size ≤ 32) && isLet ((chars s).getD 0 0) && !Lib.hasSuffix s.data.toList [45] && !Lib.contains s.data.toList [45, 45] && !(chars s).any fun c => !nameCh c
theorem Q257 (c : Int) : PSp Tryz.prog 257 [.one (.t (.int .u8 c))] (.one (.t (.bool (isLet c)))) := P257 c
theorem Q260 (c : Int) : PSp Tryz.prog 260 [.one (.t (.int .u8 c))] (.one (.t (.bool (isDig c)))) := P260 c
theorem chars_get (s : ByteArray) (i : Nat) : (chars s).getD i 0 = ((s.data.toList.getD i 0).toNat : Int) := by
  simp only [chars, List.getD_eq_getElem?_getD, List.getElem?_map]
  cases s.data.toList[i]? <;> rfl
theorem dsize (s : ByteArray) : s.data.toList.length = s.size := by simp
theorem u8_45 (b : UInt8) : (b == 45) = (((b.toNat : Int)) == 45) := by
  rw [Bool.eq_iff_iff]; simp only [beq_iff_eq]
  constructor
  · rintro rfl; rfl
  · intro h; apply UInt8.toNat_inj.1; simpa using (by omega : b.toNat = 45)
theorem suffix45 (s : ByteArray) (h : 1 ≤ s.size) : Lib.hasSuffix s.data.toList [45] = ((chars s).getD (s.size - 1) 0 == 45) := by
  rw [chars_get]
  have hl := dsize s
  generalize s.data.toList = l at hl ⊢
  rw [← hl]
  obtain ⟨r, b, rfl⟩ : ∃ r b, l = r ++ [b] := by
    rcases List.eq_nil_or_concat l with h' | ⟨r, b, h'⟩
    · subst h'; simp at hl; omega
    · exact ⟨r, b, by simpa using h'⟩
  have e : (r ++ [b]).getD ((r ++ [b]).length - 1) 0 = b := by simp [List.getD_eq_getElem?_getD]
  rw [e, ← u8_45]
  rw [Bool.eq_iff_iff, Lib.hasSuffix, List.isSuffixOf_iff_suffix]
  constructor
  · rintro ⟨t, ht⟩
    have := congrArg List.getLast? ht
    simp at this
    simp [this]
  · intro hb
    simp at hb
    exact ⟨r, by rw [hb]⟩
theorem contains4545 (l : List UInt8) : Lib.contains l [45, 45] = true ↔ ∃ i : Nat, l[i]? = some (45 : UInt8) ∧ l[i + 1]? = some (45 : UInt8) := by
  have occ : ∀ j, Lib.occAt l [45, 45] j = true ↔ l[j]? = some 45 ∧ l[j + 1]? = some 45 := fun j => by
    simp only [Lib.occAt]
    rw [List.isPrefixOf_iff_prefix]
    constructor
    · rintro ⟨t, ht⟩
      have h0 := congrArg (fun x => x[0]?) ht
      have h1 := congrArg (fun x => x[1]?) ht
      simp [List.getElem?_drop] at h0 h1
      exact ⟨h0.symm, h1.symm⟩
    · rintro ⟨h0, h1⟩
      have e0 : l.drop j = 45 :: l.drop (j + 1) := by
        obtain ⟨hj, e⟩ := List.getElem?_eq_some_iff.1 h0
        rw [List.drop_eq_getElem_cons hj, e]
      have e1 : l.drop (j + 1) = 45 :: l.drop (j + 1 + 1) := by
        obtain ⟨hj, e⟩ := List.getElem?_eq_some_iff.1 h1
        rw [List.drop_eq_getElem_cons hj, e]
      exact ⟨l.drop (j + 1 + 1), by rw [e0, e1]; rfl⟩
  rcases Lib.index_spec l [45, 45] with ⟨h1, h2⟩ | ⟨i, h1, h2, h3, h4⟩
  · rw [Lib.contains, h1]
    simp
    intro x hx h
    have := h2 x (by have := (List.getElem?_eq_some_iff.1 hx).1; omega)
    rw [(occ x).2 ⟨hx, h⟩] at this
    cases this
  · rw [Lib.contains, h1]
    simp
    exact ⟨i, (occ i).1 (by first | exact h3 | exact h4)⟩
theorem dash_at (s : ByteArray) (i : Nat) : s.data.toList[i]? = some (45 : UInt8) ↔ i < s.size ∧ (chars s).getD i 0 = 45 := by
  rw [chars_get]
  have hl := dsize s
  generalize s.data.toList = l at hl ⊢
  rw [← hl, List.getD_eq_getElem?_getD]
  rcases Nat.lt_or_ge i l.length with h | h
  · rw [List.getElem?_eq_getElem h]
    simp only [Option.some.injEq, Option.getD_some, h, true_and]
    have := u8_45 l[i]
    rw [Bool.eq_iff_iff] at this
    simpa using this
  · rw [List.getElem?_eq_none h]
    simp
theorem nameOkN_eq (s : ByteArray) : nameOkN s = nameOk s := by
  simp only [nameOkN, nameOk, chars_len]
  rcases Nat.lt_or_ge 0 s.size with h1 | h1
  · have h1' : 1 ≤ s.size := h1
    rw [suffix45 s h1']
    cases hL : isLet ((chars s).getD 0 0) with
    | false => simp
    | true =>
      cases h45 : ((chars s).getD (s.size - 1) 0 == 45) with
      | true => simp
      | false =>
        simp only [h1', decide_true, Bool.true_and, Bool.and_true, Bool.not_false, Bool.and_assoc]
        congr 1
        rw [Bool.eq_iff_iff]
        simp only [Bool.and_eq_true, Bool.not_eq_true', Bool.eq_false_iff, ne_eq, contains4545, List.any_eq_true, List.all_eq_true, List.mem_range, not_exists, not_and]
        have hget : ∀ i, i < s.size → (chars s)[i]? = some ((chars s).getD i 0) := fun i hi => by
          rw [List.getD_eq_getElem?_getD, List.getElem?_eq_getElem (by rw [chars_len]; exact hi)]; rfl
        constructor
        · rintro ⟨ha, hb⟩ i hi
          have e1 : nameCh ((chars s).getD (i + 1) 0) = true := by
            have := hb _ (List.mem_of_getElem? (hget (i + 1) (by omega)))
            simpa using this
          have e2 : (chars s).getD i 0 = 45 → ¬ (chars s).getD (i + 1) 0 = 45 := fun g1 g2 => ha i ((dash_at s i).2 ⟨by omega, g1⟩) ((dash_at s (i + 1)).2 ⟨by omega, g2⟩)
          simp only [nameRest, Nat.add_sub_cancel]
          generalize (chars s).getD (i + 1) 0 = c at *
          generalize (chars s).getD i 0 = d at *
          simp only [nameCh] at e1
          simp at e1 ⊢
          grind
        · intro ha
          have hr : ∀ i, i < s.size - 1 → nameCh ((chars s).getD (i + 1) 0) = true ∧ ((chars s).getD (i + 1) 0 = 45 → ¬ (chars s).getD i 0 = 45) := fun i hi => by
            have := ha i hi
            simp only [nameRest, Nat.add_sub_cancel] at this
            generalize (chars s).getD (i + 1) 0 = c at *
            generalize (chars s).getD i 0 = d at *
            simp only [nameCh]
            constructor
            · simp at this ⊢
              grind
            · rintro rfl
              simpa [isDig, isLet, isSm, isCp] using this
          refine ⟨fun i h0 h1 => ?_, fun c hc => ?_⟩
          · obtain ⟨g1, g2⟩ := (dash_at s i).1 h0
            obtain ⟨g3, g4⟩ := (dash_at s (i + 1)).1 h1
            exact (hr i (by omega)).2 g4 g2
          · obtain ⟨i, hi, rfl⟩ := List.getElem_of_mem hc
            rw [chars_len] at hi
            have e : (chars s)[i] = (chars s).getD i 0 := by
              have := hget i hi
              rw [List.getElem?_eq_getElem (by rw [chars_len]; exact hi)] at this
              simpa using this
            rw [e]
            rcases i with - | i
            · simp only [nameCh, hL]; simp
            · simpa using (hr i (by omega)).1
  · have : s.size = 0 := by omega
    simp [this]
attribute [local simp] c219r0 c219r1 c219r2 c219t3 c219r3 c219r4 c219r5 c219r6 c219r7 c219t9 c219t10 c219r8 c219t12 c219t13 c219b14 c219t15 c219r9 c219t17 c219t18 c219 in
theorem nm17 (s : ByteArray) (hs : s.size ≤ 32) (st : St) (h0 : st.tmps 0 = .one (.t (.str s))) :
    awpK Tryz.prog 52 (pureEnd [.tmp 2] (.one (.t (.bool (!(chars s).any fun c => !nameCh c))))) c219t17 [] st := by
  simp -implicitDefEqProofs [-guardOk, -gval, h0]
  refine loopAll (chars s) (fun c => !nameCh c) [0, 23] [] (fun i st => st.tmps 24 = .one (.t (I i))) (by simp [short, chars_len]; omega) ⟨by simp, by simp, by simp⟩ ?_ ?_
  · intro i c st hi hiI hw hg hy hany hx hk hh
    simp [h0] at hk
    rw [chars_len] at hi hiI
    have hc : (chars s)[i]?.getD 0 = c := by rw [hg]; rfl
    simp -implicitDefEqProofs [-guardOk, -gval, h0, hx, hk, hiI, hc]
    refine callK.tree (Q257 _) rfl ?_
    cases d1 : isLet c with
    | true => simp -implicitDefEqProofs [-guardOk, -gval, hx, hk, hw, nameCh, d1]
    | false =>
      simp -implicitDefEqProofs [-guardOk, -gval, hk, hiI, hc]
      refine callK.tree (Q260 _) rfl ?_
      cases d2 : isDig c with
      | true => simp -implicitDefEqProofs [-guardOk, -gval, hx, hk, hw, nameCh, d2]
      | false =>
        rcases eqCases c 95 with q1 | q1
        · simp -implicitDefEqProofs [-guardOk, -gval, hx, hk, hw, nameCh, hiI, hc, q1]
        · rcases eqCases c 45 with q2 | q2
          · simp -implicitDefEqProofs [-guardOk, -gval, hx, hk, hw, nameCh, hiI, hc, q2]
          · simp -implicitDefEqProofs [-guardOk, -gval, hk, hiI, hc, q1, q2, pureEnd]
            simpa using List.any_eq_true.1 (hany (by simp [nameCh, d1, d2, q1, q2]))
  · intro st hany hx hk hh
    simp [h0] at hk
    rw [hany]
    rw [chars_len] at hx
    simp -implicitDefEqProofs [-guardOk, -gval, hx, hk, pureEnd]
attribute [local simp] c219r0 c219r1 c219r2 c219t3 c219r3 c219r4 c219r5 c219r6 c219r7 c219t9 c219t10 c219r8 c219t12 c219t13 c219b14 c219t15 c219r9 c219t18 c219 in
theorem P219 (s : ByteArray) (hs : s.size ≤ 9223372036854775807) : PSp Tryz.prog 219 [.one (.t (.str s))] (.one (.t (.bool (nameOk s)))) := by
  rw [← nameOkN_eq]
  refine k219.pureK (by simp) rfl rfl ?_
  simp -implicitDefEqProofs [-guardOk, -gval]
  refine callK.tree (P170 _ _ _) rfl ?_
  cases h1 : (decide ((1 : Int) ≤ (s.size : Int)) && decide ((s.size : Int) ≤ 32)) with
  | false =>
    simp -implicitDefEqProofs [-guardOk, -gval, pureEnd]
    simp at h1
    simp [nameOkN]
    omega
  | true =>
    simp at h1
    have h1' : 0 < s.size ∧ s.size ≤ 32 := by omega
    simp -implicitDefEqProofs [-guardOk, -gval, h1'.1]
    refine callK.tree (Q257 _) rfl ?_
    cases h2 : isLet ((chars s)[0]?.getD 0) with
    | false =>
      simp -implicitDefEqProofs [-guardOk, -gval, pureEnd, nameOkN, h2]
    | true =>
      simp -implicitDefEqProofs [-guardOk, -gval]
      refine callK.tree (hasSuffixP _ _ hs) rfl ?_
      have eb : (bs [45]).data.toList = [45] := rfl
      have eb2 : (bs [45, 45]).data.toList = [45, 45] := rfl
      rw [eb]
      cases h3 : Lib.hasSuffix s.data.toList [45] with
      | true => simp -implicitDefEqProofs [-guardOk, -gval, pureEnd, nameOkN, h2, h3]
      | false =>
        simp -implicitDefEqProofs [-guardOk, -gval]
        refine callK.tree (containsP _ _ (by omega)) rfl ?_
        rw [eb2]
        cases h4 : Lib.contains s.data.toList [45, 45] with
        | true => simp -implicitDefEqProofs [-guardOk, -gval, pureEnd, nameOkN, h2, h3, h4]
        | false =>
          simp -implicitDefEqProofs [-guardOk, -gval]
          have e : nameOkN s = !(chars s).any fun c => !nameCh c := by
            simp only [nameOkN, h3, h4, List.getD_eq_getElem?_getD, h2]
            simp [show 1 ≤ s.size by omega, h1'.2]
          rw [e]
          exact nm17 s h1'.2 _ (by simp)
end Go.Proofs.YtdpbobkcbakpfaaGreatDoor

namespace Go.Proofs.YtdpbobkcbakpfaaGreatDoor
open Go Go.Ab
set_option maxRecDepth 100000
set_option maxHeartbeats 4000000
def ifR4 (sz : Nat) (g : Bool) : List Seg := [Seg.one (AOper.mk (some 11) (AStep.op (AOp.mv (X.tmp 1))) none), Seg.one (AOper.mk (some 12) (AStep.op (AOp.mv (X.tmp 0))) none), Seg.one (AOper.mk (some 13) (AStep.op (AOp.mv (X.tmp 5))) none), Seg.one (AOper.mk (some 14) (AStep.op (AOp.ia sz (X.tmp 12) (X.tmp 13))) none), Seg.one (AOper.mk (some 15) (AStep.op (AOp.load sz g (X.tmp 14))) none), Seg.one (AOper.mk (some 16) (AStep.callv (X.tmp 11) [X.tmp 15]) none)]
def ifB (sz : Nat) (g : Bool) : ACode := (.seq (.region 2 false 1 c213r2) (.seq (.cond (X.tmp 9) .skip (.exit 0)) (.seq (.block 1 (.seq (.region 3 false 2 c213r3) (.seq (.region 4 false 6 (ifR4 sz g)) (.cond (X.tmp 16) (.seq (.region 5 false 2 c213r5) .ret) .skip)))) (.region 6 false 2 c213r6))))
def ifC (sz : Nat) (g : Bool) : ACode := (.seq (.region 0 false 1 c213r0) (.seq (.seq (.region 1 false 3 c213r1) (.block 0 (.loop (ifB sz g)))) (.seq (.region 7 false 1 c213r7) .ret)))
def rowD (g : Bool) (r : List T) : D := if g then .agg (r.map .t) else .one (.t (r.headD .nilp))
def idxOf {α : Type} (l : List α) (p : α → Bool) : Int := match l.findIdx? p with | some i => (i : Int) | none => -1
theorem rowD_of {g : Bool} {sz : Nat} {r : List T} (hr : r.length = sz) (hg : g = false → sz = 1) : D.of g (((r.drop 0).take sz).map .t) = rowD g r := by
  cases g with
  | true => simp [D.of, rowD, ← hr]
  | false =>
    have := hg rfl
    subst this
    match r, hr with
    | [x], _ => simp [D.of, rowD]
attribute [local simp] ifR4 c213r0 c213r1 c213r2 c213r3 c213r5 c213r6 c213r7 in
theorem idxFunc_gen {f : FuncId} {α : Type} {sz : Nat} {g : Bool} (hk : Compiled Tryz.prog f 19 [.tmp 4] (ifC sz g)) (l : List α) (row : α → List T) (hrow : ∀ x, (row x).length = sz) (hg : g = false → sz = 1) (hl : short l) (p : α → Bool) (clo : FuncId) (caps : List Pt) (h : Hp) (n0 : Nat)
    (hc : callable Tryz.prog clo = true) (hp : ∀ x ∈ l, ∀ new K, n0 ≤ new → K (.one (.t (.bool (p x)))) h → callK Tryz.prog false clo (rowD g (row x) :: caps.map fun q => .one (.ptr q)) h new K) :
    ISp Tryz.prog f h n0 [.one (.t (.rows sz (l.map row))), .one (.fn clo caps)] (.one (.t (I (idxOf l p)))) h := by
  refine ISp.ok fun ho => ?_
  refine hk.ispK (by simp) ?_
  simp -implicitDefEqProofs [-guardOk, -gval, ifC]
  refine loopIdx l p [0, 1, 7] [] (fun i st => st.tmps 8 = .one (.t (I i)) ∧ st.heap = h ∧ n0 ≤ st.nx) hl ⟨⟨by simp, by simp, by simp; omega⟩, by simp, by simp⟩ ?_ ?_
  · rintro i y st hi hiI hw hgt hy hany ⟨hx, hh', hnx⟩ hk hh
    simp at hk
    simp -implicitDefEqProofs [-guardOk, -gval, ifB, hx, hk, hiI, hi, rowAtM hgt, hrow]
    have e : (if g = true then D.agg (List.take sz (List.map A.t (row y))) else D.one ((List.take sz (List.map A.t (row y))).head?.getD A.undef)) = rowD g (row y) := by
      have e0 := rowD_of (g := g) (hrow y) hg
      simpa [D.of, List.map_take] using e0
    rw [e]
    refine ⟨hg, clo, caps, ⟨rfl, rfl⟩, hc, ?_⟩
    rw [hh']
    refine hp y hy _ _ (by omega) ?_
    cases hb : p y with
    | true =>
      simp -implicitDefEqProofs [-guardOk, -gval]
      exact impEnd_t (.inr rfl) (by simp [idxOf, hany hb]) (fun j hj => by simp) ho
    | false =>
      simp -implicitDefEqProofs [-guardOk, -gval, hx, hk, hw]
      omega
  · rintro st hany ⟨hx, hh', hnx⟩ hk hh
    simp at hk
    simp -implicitDefEqProofs [-guardOk, -gval, ifB, hx, hk]
    refine impEnd_t (.inr rfl) (by simp [idxOf, hany]) (fun j hj => by simp [hh']) ho
def cfR1 (f : FuncId) : List Seg := [Seg.one (AOper.mk (some 5) (AStep.op (AOp.mv (X.tmp 0))) none), Seg.one (AOper.mk (some 6) (AStep.op (AOp.mv (X.tmp 1))) none), Seg.one (AOper.mk (some 7) (AStep.call f [X.tmp 5, X.tmp 6]) none), Seg.one (AOper.mk (some 8) (AStep.op (AOp.bin .geq false (X.tmp 7) (X.con (D.one (A.t (T.int .i64 0)))))) none), Seg.one (AOper.mk (some 4) (AStep.op (AOp.mv (X.tmp 8))) none)]
def cfC (f : FuncId) : ACode := (.seq (.region 0 false 1 c173r0) (.seq (.region 1 false 5 (cfR1 f)) .ret))
theorem idxOf_any {α : Type} (l : List α) (p : α → Bool) : decide (0 ≤ idxOf l p) = l.any p := by
  rw [Bool.eq_iff_iff, decide_eq_true_iff]
  simp only [idxOf]
  split
  · rename_i i h
    rw [List.findIdx?_eq_some_iff_getElem] at h
    obtain ⟨h1, h2, _⟩ := h
    exact ⟨fun _ => List.any_eq_true.2 ⟨_, List.getElem_mem h1, h2⟩, fun _ => by omega⟩
  · rename_i h
    rw [List.findIdx?_eq_none_iff] at h
    refine ⟨fun h => by omega, fun h' => ?_⟩
    obtain ⟨x, hx, hp⟩ := List.any_eq_true.1 h'
    rw [h x hx] at hp; cases hp
attribute [local simp] cfR1 c173r0 in
theorem contFunc_gen {f fi : FuncId} {α : Type} {sz : Nat} {g : Bool} (hk : Compiled Tryz.prog f 9 [.tmp 4] (cfC fi)) (hi : Compiled Tryz.prog fi 19 [.tmp 4] (ifC sz g)) (l : List α) (row : α → List T) (hrow : ∀ x, (row x).length = sz) (hg : g = false → sz = 1) (hl : short l) (p : α → Bool) (clo : FuncId) (caps : List Pt) (h : Hp) (n0 : Nat)
    (hc : callable Tryz.prog clo = true) (hp : ∀ x ∈ l, ∀ new K, n0 ≤ new → K (.one (.t (.bool (p x)))) h → callK Tryz.prog false clo (rowD g (row x) :: caps.map fun q => .one (.ptr q)) h new K) :
    ISp Tryz.prog f h n0 [.one (.t (.rows sz (l.map row))), .one (.fn clo caps)] (.one (.t (.bool (l.any p)))) h := by
  refine ISp.ok fun ho => ?_
  refine hk.ispK (by simp) ?_
  simp -implicitDefEqProofs [-guardOk, -gval, cfC]
  refine callK.imp (idxFunc_gen hi l row hrow hg hl p clo caps h _ hc fun x hx new K hn hK => hp x hx new K (by omega) hK) ?_
  simp -implicitDefEqProofs [-guardOk, -gval]
  exact impEnd_t (.inr rfl) (by simp [idxOf_any]) (fun j hj => by simp) ho
theorem C173 (l : List Fd) (hl : short l) (p : Fd → Bool) (clo : FuncId) (caps : List Pt) (h : Hp) (n0 : Nat) (hc : callable Tryz.prog clo = true)
    (hp : ∀ x ∈ l, ∀ new K, n0 ≤ new → K (.one (.t (.bool (p x)))) h → callK Tryz.prog false clo (.agg (x.row.map .t) :: caps.map fun q => .one (.ptr q)) h new K) :
    ISp Tryz.prog 173 h n0 [.one (.t (fieldsT l)), .one (.fn clo caps)] (.one (.t (.bool (l.any p)))) h :=
  contFunc_gen (sz := 13) (g := true) k173 k213 l Fd.row (fun x => by rw [Fd.row_eq]; rfl) (fun e => by cases e) hl p clo caps h n0 hc hp
theorem C227 (l : List ByteArray) (hl : short l) (p : ByteArray → Bool) (clo : FuncId) (caps : List Pt) (h : Hp) (n0 : Nat) (hc : callable Tryz.prog clo = true)
    (hp : ∀ x ∈ l, ∀ new K, n0 ≤ new → K (.one (.t (.bool (p x)))) h → callK Tryz.prog false clo (.one (.t (.str x)) :: caps.map fun q => .one (.ptr q)) h new K) :
    ISp Tryz.prog 227 h n0 [.one (.t (textsT l)), .one (.fn clo caps)] (.one (.t (.bool (l.any p)))) h :=
  contFunc_gen (sz := 1) (g := false) k227 k266 l (fun s => [.str s]) (fun _x => rfl) (fun _ => rfl) hl p clo caps h n0 hc hp
theorem C263 (l : List Vl) (hl : short l) (p : Vl → Bool) (clo : FuncId) (caps : List Pt) (h : Hp) (n0 : Nat) (hc : callable Tryz.prog clo = true)
    (hp : ∀ x ∈ l, ∀ new K, n0 ≤ new → K (.one (.t (.bool (p x)))) h → callK Tryz.prog false clo (.agg (x.row.map .t) :: caps.map fun q => .one (.ptr q)) h new K) :
    ISp Tryz.prog 263 h n0 [.one (.t (valsT l)), .one (.fn clo caps)] (.one (.t (.bool (l.any p)))) h :=
  contFunc_gen (sz := 6) (g := true) k263 k283 l Vl.row (fun x => by rw [Vl.row_eq]; rfl) (fun e => by cases e) hl p clo caps h n0 hc hp
theorem C154 (l : List Sp) (hl : short l) (p : Sp → Bool) (clo : FuncId) (caps : List Pt) (h : Hp) (n0 : Nat) (hc : callable Tryz.prog clo = true)
    (hp : ∀ x ∈ l, ∀ new K, n0 ≤ new → K (.one (.t (.bool (p x)))) h → callK Tryz.prog false clo (.agg ((spr x).map .t) :: caps.map fun q => .one (.ptr q)) h new K) :
    ISp Tryz.prog 154 h n0 [.one (.t (spans l)), .one (.fn clo caps)] (.one (.t (.bool (l.any p)))) h :=
  contFunc_gen (sz := 2) (g := true) k154 k199 l spr (fun x => rfl) (fun e => by cases e) hl p clo caps h n0 hc hp
theorem C122 (s : ByteArray) (hs : s.size ≤ 9223372036854775807) (p : Int → Bool) (clo : FuncId) (caps : List Pt) (h : Hp) (n0 : Nat) (hc : callable Tryz.prog clo = true)
    (hp : ∀ x ∈ chars s, ∀ new K, n0 ≤ new → K (.one (.t (.bool (p x)))) h → callK Tryz.prog false clo (.one (.t (.int .u8 x)) :: caps.map fun q => .one (.ptr q)) h new K) :
    ISp Tryz.prog 122 h n0 [.one (.t (.rows 1 (byteRows s))), .one (.fn clo caps)] (.one (.t (.bool ((chars s).any p)))) h := by
  have e : byteRows s = (chars s).map fun c => [T.int .u8 c] := by simp [byteRows, chars]
  rw [e]
  exact contFunc_gen (sz := 1) (g := false) k122 k156 (chars s) (fun c => [.int .u8 c]) (fun x => rfl) (fun _ => rfl) (by simp [short, chars_len]; exact hs) p clo caps h n0 hc hp
end Go.Proofs.YtdpbobkcbakpfaaGreatDoor

