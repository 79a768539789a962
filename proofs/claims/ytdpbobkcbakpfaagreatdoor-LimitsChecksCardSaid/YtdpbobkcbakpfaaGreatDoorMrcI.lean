/- Texts of this proof, laid one behind the other (Cp2, Ck, Tp, Tq). -/
import Derived.Test.YtdpbobkcbakpfaaGreatDoorMrcH
namespace Go.Proofs.YtdpbobkcbakpfaaGreatDoor
open Go Go.Ab
set_option maxRecDepth 100000
set_option maxHeartbeats 4000000
attribute [local simp] tagsT fieldsT typesT nodesT valsT textsT intsT tyC fdC vlC ndC hset_hset D.isPt D.pt
def CS (sz : Nat) (a : A) (rs : List (List T)) (h : Hp) (nx : Nat) : Prop := (rs = [] ∧ a = .tt sz []) ∨ (rs ≠ [] ∧ ∃ id ver, a = .ref id ver 0 rs.length sz false ∧ h id = some (.arr ver false sz (rs.map (·.map .t))) ∧ id < nx ∧ 5 < id)
def refId : A → Nat
  | .ref id _ _ _ _ _ => id
  | _ => 0
structure OS (t : Ty) (tA fA : A) (done : List (List T)) (h : Hp) (nx : Nat) : Prop where
  src : h 0 = some (.arr 0 false 8 [tyC t])
  res : h 1 = some (.arr 0 false 8 [[.t (I 0), .t (.str (bs [])), .tt 3 [], .tt 13 [], .t (.bool false), .t (I 0), .tt 8 [], .tt 5 []]])
  cop : h 3 = some (.arr 0 false 8 [[.t (I t.kind), .t (.str t.name), tA, fA, .t (.bool t.opn), .t (I t.root), .t (typesT t.of), .t (nodesT t.limits)]])
  tag : CS 3 tA (t.tags.map Tg.row) h nx
  fld : CS 13 fA done h nx
  dif : refId tA = refId fA → refId tA = 0
  lt : 5 < nx
theorem CS.keep {sz : Nat} {a : A} {rs : List (List T)} {h h' : Hp} {nx nx' : Nat} (hc : CS sz a rs h nx) (hh : refId a ≠ 0 → h' (refId a) = h (refId a)) (hn : nx ≤ nx') : CS sz a rs h' nx' := by
  rcases hc with ⟨g1, g2⟩ | ⟨g1, id, ver, g2, g3, g4, g5⟩
  · exact .inl ⟨g1, g2⟩
  · subst g2
    exact .inr ⟨g1, id, ver, rfl, by rw [← g3]; exact hh (by simp [refId]; omega), by omega, g5⟩
theorem CS.ref {sz : Nat} {a : A} {rs : List (List T)} {h : Hp} {nx : Nat} (hc : CS sz a rs h nx) : refId a = 0 ∨ 5 < refId a ∧ refId a < nx := by
  rcases hc with ⟨g1, g2⟩ | ⟨g1, id, ver, g2, g3, g4, g5⟩
  · left; rw [g2]; rfl
  · right; rw [g2]; exact ⟨g5, g4⟩
theorem CS.frz {sz : Nat} {a : A} {rs : List (List T)} {h : Hp} {nx : Nat} (hc : CS sz a rs h nx) : a.frzOk h frzDepth ∧ a.frz h frzDepth = .rows sz rs := by
  rcases hc with ⟨g1, g2⟩ | ⟨g1, id, ver, g2, g3, g4, g5⟩
  · subst g1 g2
    simp [frzDepth]
  · subst g2
    exact frz_new g3 rfl
attribute [local simp] c15r0 c15r1 c15r2 c15r3 c15r4 c15r5 c15t6 c15r7 c15r8 c15r9 c15r6 c15b11 c15t12 c15r10 c15r11 c15r12 c15t16 c15t17 c15t18 c15t19 c15 in
theorem own16 (t : Ty) (hn : t.narrow = true) (IHf : ∀ f ∈ t.fields, PSp Tryz.prog 15 [.agg (tyC f.ty)] (.agg (tyC f.ty))) (p65 : PSp Tryz.prog 65 [.one (.t (typesT t.of))] (.one (.t (typesT t.of)))) (p66 : PSp Tryz.prog 66 [.one (.t (nodesT t.limits))] (.one (.t (nodesT t.limits))))
    (p64 : ∀ f ∈ t.fields, PSp Tryz.prog 64 [.one (.t (valsT f.dflt))] (.one (.t (valsT f.dflt)))) (tA fA : A) (st : St) (h1 : st.tmps 1 = .one (.ptr ⟨0, 0, 8, 0, 0⟩)) (h2 : st.tmps 2 = .one (.ptr ⟨1, 0, 8, 0, 0⟩)) (h3 : st.tmps 3 = .one (.ptr ⟨3, 0, 8, 0, 0⟩)) (hs : OS t tA fA [] st.heap st.nx) :
    awpK Tryz.prog 48 (pureEnd [.cell 2 8 true] (.agg (tyC t))) c15t16 [] st := by
  have hnr := (Ty.narrow_iff t).1 hn
  have hle := hnr.2.2.1
  simp -implicitDefEqProofs [-guardOk, -gval]
  refine loopAll t.fields (fun _ => false) [1, 2, 3] [] (fun i st => st.tmps 4 = .one (.t (I i)) ∧ ∃ tA fA, OS t tA fA ((t.fields.take i).map Fd.row) st.heap st.nx) (by simp [short]; omega) ⟨⟨by simp, tA, fA, ?_⟩, by simp, by simp⟩ ?_ ?_
  · have lt := hs.lt
    exact ⟨hs.src, hs.res, hs.cop, hs.tag.keep (fun _ => rfl) (by simp), hs.fld.keep (fun _ => rfl) (by simp), hs.dif, by simp; omega⟩
  · rintro i f st hi hiI hw hg hy hany ⟨h4, tA, fA, hs⟩ hk hh
    simp [h1, h2, h3] at hk
    obtain ⟨o1, o2, o3, o4⟩ := objF hs.src
    obtain ⟨p1, p2, p3, p4⟩ := objF hs.cop
    have hne0 : ¬ 0 = st.nx + 5 + 5 := by omega
    have hne3 : ¬ 3 = st.nx + 5 + 5 := by have := hs.lt; omega
    simp -implicitDefEqProofs [-guardOk, -gval, h4, hk, hi, hiI, o1, o2, o3, rowAtM hg, Fd.row_eq, -List.getElem_map]
    refine callK.treeD (IHf f hy) rfl ?_
    simp -implicitDefEqProofs [-guardOk, -gval]
    refine callK.treeD (p64 f hy) rfl ?_
    have e : List.take (i + 1) (List.map Fd.row t.fields) = (t.fields.take i).map Fd.row ++ [f.row] := by
      rw [← List.map_take, List.take_add_one, hg]; simp
    have hlen : ((t.fields.take i).map Fd.row).length = i := by simp; omega
    have lt := hs.lt
    rcases hs.fld with ⟨d1, d2⟩ | ⟨d1, id, ver, d2, d3, d4, d5⟩
    · subst d2
      have hnew : ¬ 3 = st.nx + 5 + 7 + 10 + 4 := by omega
      simp -implicitDefEqProofs [-guardOk, -gval, h4, hk, hw, p1, p2, p3, p4]
      rw [e, d1]
      have tr := hs.tag.ref
      refine ⟨⟨tA, .ref (st.nx + 5 + 7 + 10 + 4) 0 0 1 13 false, ?_, ?_, ?_, ?_, ?_, ?_, by omega⟩, h1.symm, h2.symm, h3.symm⟩
      · simp only [Hp.set]; rw [if_neg (by omega), if_neg (by omega), if_neg (by omega)]; exact hs.src
      · simp only [Hp.set]; rw [if_neg (by omega), if_neg (by omega), if_neg (by omega)]; exact hs.res
      · simp [Hp.set]
      · refine hs.tag.keep (fun hz => ?_) (by omega)
        simp only [Hp.set]; rw [if_neg (by omega), if_neg (by omega), if_neg (by omega)]
      · refine .inr ⟨by simp, _, 0, rfl, ?_, by omega, by omega⟩
        simp only [Hp.set]; rw [if_neg (by omega)]; simp [Fd.row_eq]
      · show refId tA = st.nx + 5 + 7 + 10 + 4 → refId tA = 0
        omega
    · subst d2
      obtain ⟨q1, q2, q3, q4⟩ := objF d3
      have hid3 : ¬ 3 = id := by omega
      have hidn : ¬ id = st.nx + 5 + 5 := by omega
      simp -implicitDefEqProofs [-guardOk, -gval, h4, hk, hw, p1, p2, p3, p4, q1, q2, q3, q4, hid3, hidn]
      rw [e]
      have tr := hs.tag.ref
      have df : refId tA = id → refId tA = 0 := hs.dif
      refine ⟨by omega, ⟨tA, .ref id (ver + 1) 0 (min i t.fields.length + 1) 13 false, ?_, ?_, ?_, ?_, ?_, ?_, by omega⟩, h1.symm, h2.symm, h3.symm⟩
      · simp only [Hp.set]; rw [if_neg (by omega), if_neg (by omega), if_neg (by omega)]; exact hs.src
      · simp only [Hp.set]; rw [if_neg (by omega), if_neg (by omega), if_neg (by omega)]; exact hs.res
      · simp [Hp.set]
      · refine hs.tag.keep (fun hz => ?_) (by omega)
        have : refId tA ≠ id := fun q => hz (df q)
        simp only [Hp.set]; rw [if_neg (by omega), if_neg this, if_neg (by omega)]
      · refine .inr ⟨by simp, id, ver + 1, by simp, ?_, by omega, by omega⟩
        simp only [Hp.set]; rw [if_neg (by omega)]; simp [Fd.row_eq]
      · exact df
  · rintro st hany ⟨h4, tA, fA, hs⟩ hk hh
    simp [h1, h2, h3] at hk
    rw [List.take_length] at hs
    obtain ⟨o1, o2, o3, o4⟩ := objF hs.src
    obtain ⟨p1, p2, p3, p4⟩ := objF hs.cop
    obtain ⟨r1, r2, r3, r4⟩ := objF hs.res
    simp -implicitDefEqProofs [-guardOk, -gval, h4, hk, o1, o2, o3]
    refine callK.tree p65 rfl ?_
    simp -implicitDefEqProofs [-guardOk, -gval, hk, p1, p2, p3, p4, o1, o2, o3]
    refine callK.tree p66 rfl ?_
    simp -implicitDefEqProofs [-guardOk, -gval, hk, r1, r2, r3, r4]
    have tr := hs.tag.ref
    have fr := hs.fld.ref
    refine ⟨⟨?_, ?_⟩, ?_⟩
    · rcases hs.tag with ⟨_, g⟩ | ⟨_, id, ver, g, _⟩ <;> rw [g]
    · rcases hs.fld with ⟨_, g⟩ | ⟨_, id, ver, g, _⟩ <;> rw [g]
    have kt : ∀ o1 o2, CS 3 tA (t.tags.map Tg.row) ((st.heap.set 3 o1).set 1 o2) st.nx := fun o1 o2 => hs.tag.keep (fun hz => by simp only [Hp.set]; rw [if_neg (by omega), if_neg (by omega)]) (Nat.le_refl _)
    have kf : ∀ o1 o2, CS 13 fA (t.fields.map Fd.row) ((st.heap.set 3 o1).set 1 o2) st.nx := fun o1 o2 => hs.fld.keep (fun hz => by simp only [Hp.set]; rw [if_neg (by omega), if_neg (by omega)]) (Nat.le_refl _)
    simp -implicitDefEqProofs [-guardOk, -gval, pureEnd, hk]
    exact ⟨⟨(kt _ _).frz.1, (kf _ _).frz.1⟩, (kt _ _).frz.2, (kf _ _).frz.2⟩
attribute [local simp] c15r0 c15r1 c15r2 c15r3 c15r4 c15r5 c15t6 c15r7 c15r8 c15r9 c15r6 c15b11 c15t12 c15r10 c15r11 c15r12 c15t17 c15t18 c15t19 c15 in
theorem step15 (t : Ty) (hn : t.narrow = true) (IHf : ∀ f ∈ t.fields, PSp Tryz.prog 15 [.agg (tyC f.ty)] (.agg (tyC f.ty))) (IH : ∀ x ∈ t.of, PSp Tryz.prog 15 [.agg (tyC x)] (.agg (tyC x))) : PSp Tryz.prog 15 [.agg (tyC t)] (.agg (tyC t)) := by
  have hnr := (Ty.narrow_iff t).1 hn
  have p65 := P65 t.of (by omega) IH
  have p66 := P66 t.limits (by omega) (fun x hx => by have := hnr.2.2.2.2.2.1 x hx; omega)
  have p64 : ∀ f ∈ t.fields, PSp Tryz.prog 64 [.one (.t (valsT f.dflt))] (.one (.t (valsT f.dflt))) := fun f hf => by
    have hf' := (Fd.narrow_iff _).1 (hnr.2.2.2.2.2.2.1 _ hf)
    exact P64 f.dflt (by omega) fun x hx => P23 x (Vl.few_slim (hf'.2.2.2 x hx))
  have rest := own16 t hn IHf p65 p66 p64
  refine k15.pureK (by simp) (by simp [D.closed, A.closed]) (by simp [D.closed, A.closed]) ?_
  rcases ht : t.tags with - | ⟨g, r⟩
  · simp only [tyC, ht, tagsT, fieldsT, typesT, nodesT] at rest
    simp -implicitDefEqProofs [-guardOk, -gval, ht]
    refine rest (.tt 3 []) (.tt 13 []) _ ?_ ?_ ?_ ?_
    · simp
    · simp
    · simp
    · exact ⟨by simp [Hp.set, ht], by simp [Hp.set], by simp [Hp.set], .inl ⟨by simp [ht], rfl⟩, .inl ⟨rfl, rfl⟩, fun _ => rfl, by simp⟩
  · simp only [tyC, ht, tagsT, fieldsT, typesT, nodesT] at rest
    simp -implicitDefEqProofs [-guardOk, -gval, ht]
    refine ⟨by have := hnr.2.1; rw [ht] at this; simp at this; omega, ?_⟩
    refine rest (.ref 8 0 0 (r.length + 1) 3 false) (.tt 13 []) _ ?_ ?_ ?_ ?_
    · simp
    · simp
    · simp
    · exact ⟨by simp [Hp.set, ht], by simp [Hp.set], by simp [Hp.set], .inr ⟨by simp [ht], 8, 0, by simp [ht], by simp [Hp.set, ht, Function.comp_def], by simp, by omega⟩, .inl ⟨rfl, rfl⟩, fun h => by simp [refId] at h, by simp⟩
theorem P15 : ∀ t : Ty, t.narrow = true → PSp Tryz.prog 15 [.agg (tyC t)] (.agg (tyC t)) :=
  Ty.ind fun t IHf IH hn => by
    have h := (Ty.narrow_iff t).1 hn
    exact step15 t hn (fun x hx => IHf x hx ((Fd.narrow_iff x).1 (h.2.2.2.2.2.2.1 x hx)).2.2.1) fun x hx => IH x hx (h.2.2.2.2.2.2.2 x hx)
end Go.Proofs.YtdpbobkcbakpfaaGreatDoor

namespace Go.Proofs.YtdpbobkcbakpfaaGreatDoor
open Go Go.Ab
set_option maxRecDepth 100000
set_option maxHeartbeats 4000000
attribute [local simp] tagsT fieldsT typesT nodesT valsT textsT intsT tyC fdC vlC ndC hset_hset D.isPt D.pt
structure CK (t : Ty) (ab : List Int) (id sid ver : Nat) (h : Hp) : Prop where
  obj : h id = some (.arr 0 false 9 [tyC t ++ [.ref sid ver 0 ab.length 1 true]])
  abs : h sid = some (.arr ver false 1 (ab.map fun a => [.t (I a)]))
  len : ab.length = t.limits.length
def standsF (tk k a : Int) : Bool := if k == 0 then a == 0 || a == 3 || a == 4 else if k == 1 then a == 1 || a == 4 else if k == 2 then a == 1 || a == 2 else if k == 3 then a == 1 && tk == 6 else true
theorem rowAtA {α : Type} {l : List α} {g : α → List A} {i : Nat} {y : α} (h : l[i]? = some y) : ∀ hh, (l.map g)[i]'hh = g y := fun hh => by
  rw [List.getElem_map]; congr 1
  have := List.getElem?_eq_some_iff.1 h
  exact this.2
attribute [local simp] c108r0 c108r1 c108r2 c108r3 c108r4 c108r5 c108r6 c108r7 c108r8 c108r9 c108r10 c108r11 c108 in
theorem P108 (t : Ty) (ab : List Int) (id sid ver : Nat) (h : Hp) (hc : CK t ab id sid ver h) (i : Nat) (x : Nd) (a : Int) (hx : t.limits[i]? = some x) (ha : ab[i]? = some a) (n : Nat) :
    ISp Tryz.prog 108 h n [.one (.ptr ⟨id, 0, 9, 0, 0⟩), .one (.t (I i))] (.one (.t (.bool (standsF t.kind x.k a)))) h := by
  obtain ⟨R0, hR0⟩ : ∃ R, standsF t.kind x.k a = R := ⟨_, rfl⟩
  rw [hR0]
  refine ISp.ok fun ho => ?_
  have h1 := ltOf ho hc.obj
  have h2 := ltOf ho hc.abs
  refine k108.ispK (by simp) ?_
  obtain ⟨o1, o2, o3, o4⟩ := objF hc.obj
  obtain ⟨p1, p2, p3, p4⟩ := objF hc.abs
  obtain ⟨hi, _⟩ := List.getElem?_eq_some_iff.1 hx
  have hiI : (i : Int) < (t.limits.length : Int) := by omega
  have hia : i < ab.length := by rw [hc.len]; exact hi
  have hiaI : (i : Int) < (ab.length : Int) := by omega
  obtain ⟨a0, e0⟩ : ∃ y, (a == 0) = y := ⟨_, rfl⟩
  obtain ⟨a1, e1⟩ : ∃ y, (a == 1) = y := ⟨_, rfl⟩
  obtain ⟨a2, e2⟩ : ∃ y, (a == 2) = y := ⟨_, rfl⟩
  obtain ⟨a3, e3⟩ : ∃ y, (a == 3) = y := ⟨_, rfl⟩
  obtain ⟨a4, e4⟩ : ∃ y, (a == 4) = y := ⟨_, rfl⟩
  have fin : ∀ (R : Bool) (st : St), standsF t.kind x.k a = R → st.tmps 4 = .one (.t (.bool R)) → st.heap = h → impEnd [.tmp 4] (.one (.t (.bool R0))) h n .ret st := fun R st hR hs hh => by
    rw [← hR0, hR]
    exact impEnd_t (.inr rfl) hs (fun j hj => by rw [hh]) ho
  rcases eqCases x.k 0 with q0 | q0
  · cases a0 <;> cases a3 <;> cases a4
    all_goals simp -implicitDefEqProofs [-guardOk, -gval, o1, o2, o3, p1, p2, p3, hi, hiI, hia, hiaI, rowAtA ha, rowAtM hx, Nd.row, q0, e0, e3, e4, -List.getElem_map]
    all_goals
      refine fin _ _ ?_ (by exact rfl) (by exact rfl)
      simp [standsF, q0, e0, e3, e4]
  · rcases eqCases x.k 1 with q1 | q1
    · cases a1 <;> cases a4
      all_goals simp -implicitDefEqProofs [-guardOk, -gval, o1, o2, o3, p1, p2, p3, hi, hiI, hia, hiaI, rowAtA ha, rowAtM hx, Nd.row, q1, e1, e4, -List.getElem_map]
      all_goals
        refine fin _ _ ?_ (by exact rfl) (by exact rfl)
        simp [standsF, q1, e1, e4]
    · rcases eqCases x.k 2 with q2 | q2
      · cases a1 <;> cases a2
        all_goals simp -implicitDefEqProofs [-guardOk, -gval, o1, o2, o3, p1, p2, p3, hi, hiI, hia, hiaI, rowAtA ha, rowAtM hx, Nd.row, q2, e1, e2, -List.getElem_map]
        all_goals
          refine fin _ _ ?_ (by exact rfl) (by exact rfl)
          simp [standsF, q2, e1, e2]
      · rcases eqCases x.k 3 with q3 | q3
        · obtain ⟨w, ew⟩ : ∃ w, (t.kind == 6) = w := ⟨_, rfl⟩
          cases a1 <;> cases w
          all_goals simp -implicitDefEqProofs [-guardOk, -gval, o1, o2, o3, p1, p2, p3, hi, hiI, hia, hiaI, rowAtA ha, rowAtM hx, Nd.row, q3, e1, ew, -List.getElem_map]
          all_goals
            refine fin _ _ ?_ (by exact rfl) (by exact rfl)
            simp [standsF, q3, e1, ew]
        · simp -implicitDefEqProofs [-guardOk, -gval, o1, o2, o3, p1, p2, p3, hi, hiI, hia, hiaI, rowAtA ha, rowAtM hx, Nd.row, q0, q1, q2, q3, -List.getElem_map]
          refine fin _ _ ?_ (by exact rfl) (by exact rfl)
          simp [standsF, q0, q1, q2, q3]
end Go.Proofs.YtdpbobkcbakpfaaGreatDoor

namespace Go.Proofs.YtdpbobkcbakpfaaGreatDoor
open Go Go.Ab
set_option maxRecDepth 100000
set_option maxHeartbeats 4000000
structure NodeR (bg : List Nat) (i : Nat) (args : List Int) : Prop where
  le : bg.getD i 0 ≤ i
  cover : ∀ j, bg.getD i 0 ≤ j → j < i → ∃ a : Nat, (a : Int) ∈ args ∧ bg.getD a 0 ≤ j ∧ j ≤ a
  arg : ∀ a ∈ args, ∃ c : Nat, a = (c : Int) ∧ c < i ∧ bg.getD i 0 ≤ bg.getD c 0
  apart : args.Pairwise fun a b => a < (bg.getD b.toNat 0 : Int)
theorem back_spec (bg : List Nat) (hb : ∀ j, bg.getD j 0 ≤ j) : ∀ (r : List Int) (n m : Nat), backL bg r n = some m →
    m ≤ n ∧ (∀ j, m ≤ j → j < n → ∃ a : Nat, (a : Int) ∈ r ∧ bg.getD a 0 ≤ j ∧ j ≤ a) ∧ (∀ a ∈ r, ∃ c : Nat, a = (c : Int) ∧ c < n ∧ m ≤ bg.getD c 0) ∧ r.Pairwise fun a b => b < (bg.getD a.toNat 0 : Int)
  | [], n, m, h => by
    simp only [backL, Option.some.injEq] at h
    subst h
    exact ⟨Nat.le_refl _, fun j h1 h2 => by omega, by simp, by simp⟩
  | a :: r, n, m, h => by
    rw [backL] at h
    split at h
    · exact absurd h (by simp)
    · rename_i hc
      have h0 : ¬ n = 0 := fun e => hc (.inl e)
      have ha : a = (n : Int) - 1 := Classical.byContradiction fun e => hc (.inr e)
      obtain ⟨i1, i2, i3, i4⟩ := back_spec bg hb r _ m h
      have hn := hb (n - 1)
      have hac : a = ((n - 1 : Nat) : Int) := by omega
      refine ⟨by omega, fun j h1 h2 => ?_, fun x hx => ?_, ?_⟩
      · by_cases hj : bg.getD (n - 1) 0 ≤ j
        · exact ⟨n - 1, by rw [hac]; simp, hj, by omega⟩
        · obtain ⟨c, c1, c2, c3⟩ := i2 j h1 (by omega)
          exact ⟨c, List.mem_cons_of_mem _ c1, c2, c3⟩
      · rcases List.mem_cons.1 hx with e | e
        · exact ⟨n - 1, by rw [e]; exact hac, by omega, i1⟩
        · obtain ⟨c, c1, c2, c3⟩ := i3 x e
          exact ⟨c, c1, by omega, c3⟩
      · refine List.pairwise_cons.2 ⟨fun x hx => ?_, i4⟩
        obtain ⟨c, c1, c2, c3⟩ := i3 x hx
        rw [hac, c1]
        have : ((n - 1 : Nat) : Int).toNat = n - 1 := by simp
        rw [this]
        omega
theorem getD_app1 {α : Type} (l : List α) (x : α) (d : α) (i : Nat) (h : i < l.length) : (l ++ [x]).getD i d = l.getD i d := by
  simp only [List.getD_eq_getElem?_getD, List.getElem?_append_left h]
theorem getD_app2 {α : Type} (l : List α) (x : α) (d : α) : (l ++ [x]).getD l.length d = x := by
  simp [List.getD_eq_getElem?_getD]
theorem treeGo_spec : ∀ (r p : List Nd) (bg out : List Nat), bg.length = p.length → (∀ j, bg.getD j 0 ≤ j) → (∀ i x, p[i]? = some x → NodeR bg i x.args) → treeGo r bg = some out →
    out.length = (p ++ r).length ∧ (∀ j, out.getD j 0 ≤ j) ∧ ∀ i x, (p ++ r)[i]? = some x → NodeR out i x.args
  | [], p, bg, out, hl, hb, hp, h => by
    simp only [treeGo, Option.some.injEq] at h
    subst h
    simp only [List.append_nil]
    exact ⟨hl, hb, hp⟩
  | x :: r, p, bg, out, hl, hb, hp, h => by
    rw [treeGo] at h
    split at h
    · split at h
      · exact absurd h (by simp)
      · rename_i hx n hn
        obtain ⟨b1, b2, b3, b4⟩ := back_spec bg hb _ _ _ hn
        have hout : (bg ++ [n]).length = (p ++ [x]).length := by simp [hl]
        have old : ∀ j, j < bg.length → (bg ++ [n]).getD j 0 = bg.getD j 0 := fun j hj => getD_app1 bg n 0 j hj
        have new : (bg ++ [n]).getD bg.length 0 = n := getD_app2 bg n 0
        have hbn : ∀ j, (bg ++ [n]).getD j 0 ≤ j := fun j => by
          rcases Nat.lt_trichotomy j bg.length with q | q | q
          · rw [old j q]; exact hb j
          · rw [q, new]; omega
          · have : (bg ++ [n]).getD j 0 = 0 := by
              simp only [List.getD_eq_getElem?_getD]
              rw [List.getElem?_eq_none (by simp; omega)]; rfl
            omega
        have := treeGo_spec r (p ++ [x]) (bg ++ [n]) out hout hbn ?_ h
        · simpa [List.append_assoc] using this
        · intro i y hy
          by_cases hi : i < p.length
          · rw [List.getElem?_append_left hi] at hy
            obtain ⟨q1, q2, q3, q4⟩ := hp i y hy
            have ei := old i (by omega)
            refine ⟨by rw [ei]; exact q1, fun j j1 j2 => ?_, fun a ha => ?_, ?_⟩
            · rw [ei] at j1
              obtain ⟨c, c1, c2, c3⟩ := q2 j j1 j2
              obtain ⟨c', d1, d2, d3⟩ := q3 c c1
              exact ⟨c, c1, by rw [old c (by omega)]; exact c2, c3⟩
            · obtain ⟨c', d1, d2, d3⟩ := q3 a ha
              exact ⟨c', d1, d2, by rw [ei, old c' (by omega)]; exact d3⟩
            · refine List.Pairwise.imp_of_mem ?_ q4
              intro a b ha hbm hab
              obtain ⟨c', d1, d2, d3⟩ := q3 b hbm
              have : b.toNat = c' := by omega
              rw [this] at hab ⊢
              rw [old c' (by omega)]
              exact hab
          · have hi2 : i = p.length := by
              have := (List.getElem?_eq_some_iff.1 hy).1
              simp at this; omega
            subst hi2
            have : y = x := by simpa using hy.symm
            subst this
            have en : (bg ++ [n]).getD p.length 0 = n := by rw [← hl]; exact new
            refine ⟨by rw [en]; omega, fun j j1 j2 => ?_, fun a ha => ?_, ?_⟩
            · rw [en] at j1
              obtain ⟨c, c1, c2, c3⟩ := b2 j j1 (by omega)
              obtain ⟨c', d1, d2, d3⟩ := b3 c c1
              exact ⟨c, by simpa using c1, by rw [old c (by omega)]; exact c2, c3⟩
            · obtain ⟨c', d1, d2, d3⟩ := b3 a (by simpa using ha)
              exact ⟨c', d1, by omega, by rw [en, old c' (by omega)]; exact d3⟩
            · have := List.pairwise_reverse.1 b4
              refine List.Pairwise.imp_of_mem ?_ this
              intro a b ha hbm hab
              obtain ⟨c', d1, d2, d3⟩ := b3 b (by simpa using hbm)
              have : b.toNat = c' := by omega
              rw [this] at hab ⊢
              rw [old c' (by omega)]
              exact hab
    · exact absurd h (by simp)
structure TreeR (l : List Nd) (bg : List Nat) : Prop where
  node : ∀ i x, l[i]? = some x → NodeR bg i x.args
  root : bg.getD (l.length - 1) 0 = 0
theorem isTree_ranges {l : List Nd} (h : isTreeF l = true) : l.length ≤ 20 ∧ ∃ bg, TreeR l bg := by
  simp only [isTreeF, Bool.and_eq_true, decide_eq_true_eq] at h
  refine ⟨h.1, ?_⟩
  obtain ⟨_, h⟩ := h
  split at h
  · exact absurd h (by simp)
  · rename_i bg hbg
    obtain ⟨_, _, h3⟩ := treeGo_spec l [] [] bg rfl (by simp) (by simp) hbg
    rw [decide_eq_true_eq] at h
    rcases h with h | h
    · have : l = [] := List.length_eq_zero_iff.1 h
      subst this
      exact ⟨[], by simp, by simp⟩
    · exact ⟨bg, by simpa using h3, h⟩
theorem TreeR.nest {l : List Nd} {bg : List Nat} (h : TreeR l bg) : ∀ (i : Nat) (x : Nd), l[i]? = some x → ∀ p, bg.getD i 0 ≤ p → p ≤ i → bg.getD i 0 ≤ bg.getD p 0 := by
  intro i
  induction i using Nat.strongRecOn with
  | _ i ih =>
    intro x hx p h1 h2
    rcases Nat.lt_or_eq_of_le h2 with q | q
    · obtain ⟨c, c1, c2, c3⟩ := (h.node i x hx).cover p h1 q
      obtain ⟨c', d1, d2, d3⟩ := (h.node i x hx).arg c c1
      have e : c' = c := by omega
      subst e
      have hlt := (List.getElem?_eq_some_iff.1 hx).1
      have hc : l[c']? = some (l[c']'(by omega)) := List.getElem?_eq_getElem _
      exact Nat.le_trans d3 (ih c' d2 _ hc p c2 c3)
    · subst q; exact Nat.le_refl _
theorem TreeR.parent {l : List Nd} {bg : List Nat} (h : TreeR l bg) : ∀ (i : Nat) (x : Nd), l[i]? = some x → ∀ j, bg.getD i 0 ≤ j → j < i → ∃ p y, p ≤ i ∧ j < p ∧ l[p]? = some y ∧ (j : Int) ∈ y.args := by
  intro i
  induction i using Nat.strongRecOn with
  | _ i ih =>
    intro x hx j h1 h2
    obtain ⟨c, c1, c2, c3⟩ := (h.node i x hx).cover j h1 h2
    obtain ⟨c', d1, d2, d3⟩ := (h.node i x hx).arg c c1
    have e : c' = c := by omega
    subst e
    rcases Nat.lt_or_eq_of_le c3 with q | q
    · have hlt := (List.getElem?_eq_some_iff.1 hx).1
      have hc : l[c']? = some (l[c']'(by omega)) := List.getElem?_eq_getElem _
      obtain ⟨p, y, e1, e2, e3, e4⟩ := ih c' d2 _ hc j c2 q
      exact ⟨p, y, by omega, e2, e3, e4⟩
    · subst q
      exact ⟨i, x, Nat.le_refl _, h2, hx, c1⟩
theorem apart_of {bg : List Nat} {args : List Int} (h : args.Pairwise fun a b => a < (bg.getD b.toNat 0 : Int)) (c d : Nat) (hc : (c : Int) ∈ args) (hd : (d : Int) ∈ args) (hne : c ≠ d) : c < bg.getD d 0 ∨ d < bg.getD c 0 := by
  induction h with
  | nil => cases hc
  | cons h1 _ ih =>
    rcases List.mem_cons.1 hc with e | e <;> rcases List.mem_cons.1 hd with f | f
    · omega
    · left
      have := h1 _ f
      rw [← e] at this
      have t : ((d : Nat) : Int).toNat = d := by simp
      rw [t] at this
      omega
    · right
      have := h1 _ e
      rw [← f] at this
      have t : ((c : Nat) : Int).toNat = c := by simp
      rw [t] at this
      omega
    · exact ih e f
theorem TreeR.only {l : List Nd} {bg : List Nat} (h : TreeR l bg) {p q : Nat} {x y : Nd} (hp : l[p]? = some x) (hq : l[q]? = some y) {c : Nat} (hcx : (c : Int) ∈ x.args) (hcy : (c : Int) ∈ y.args) : ¬ p < q := by
  intro hpq
  obtain ⟨c1, d1, d2, d3⟩ := (h.node p x hp).arg c hcx
  obtain ⟨c2, e1, e2, e3⟩ := (h.node q y hq).arg c hcy
  have : c1 = c := by omega
  subst this
  have : c2 = c1 := by omega
  subst this
  have hlt := (List.getElem?_eq_some_iff.1 hq).1
  have hlc : l[c2]? = some (l[c2]'(by omega)) := List.getElem?_eq_getElem _
  have hle := (h.node c2 _ hlc).le
  obtain ⟨d, f1, f2, f3⟩ := (h.node q y hq).cover p (by omega) hpq
  obtain ⟨d', g1, g2, g3⟩ := (h.node q y hq).arg d f1
  have : d' = d := by omega
  subst this
  have hld : l[d']? = some (l[d']'(by omega)) := List.getElem?_eq_getElem _
  have n1 := h.nest d' _ hld p f2 f3
  rcases apart_of (h.node q y hq).apart c2 d' hcy f1 (by omega) with a | a <;> omega
theorem TreeR.one {l : List Nd} {bg : List Nat} (h : TreeR l bg) {p q : Nat} {x y : Nd} (hp : l[p]? = some x) (hq : l[q]? = some y) {c : Nat} (hcx : (c : Int) ∈ x.args) (hcy : (c : Int) ∈ y.args) : p = q := by
  have a := h.only hp hq hcx hcy
  have b := h.only hq hp hcy hcx
  omega
structure Lab (l : List Nd) (f : Int → Int → Int) (L : Nat → Int) (i b : Nat) : Prop where
  edge : ∀ p x, b ≤ p → p ≤ i → l[p]? = some x → ∀ c : Nat, (c : Int) ∈ x.args → L c = f x.k (L p)
theorem Lab.rel {l : List Nd} {bg : List Nat} (h : TreeR l bg) {f g : Int → Int → Int} {L M : Nat → Int} (R : Int → Int → Prop) (hL : Lab l f L (l.length - 1) 0) (hM : Lab l g M (l.length - 1) 0)
    (hr : R (L (l.length - 1)) (M (l.length - 1))) (hs : ∀ (p : Nat) (x : Nd), l[p]? = some x → ∀ a b, R a b → R (f x.k a) (g x.k b)) : ∀ i, i < l.length → R (L i) (M i) := by
  have : ∀ d i, i < l.length → l.length - 1 - i ≤ d → R (L i) (M i) := by
    intro d
    induction d with
    | zero =>
      intro i hi hd
      have : i = l.length - 1 := by omega
      rw [this]; exact hr
    | succ d ih =>
      intro i hi hd
      by_cases e : i = l.length - 1
      · rw [e]; exact hr
      · have hroot : l[l.length - 1]? = some (l[l.length - 1]'(by omega)) := List.getElem?_eq_getElem _
        obtain ⟨p, y, e1, e2, e3, e4⟩ := h.parent _ _ hroot i (by rw [h.root]; omega) (by omega)
        rw [hL.edge p y (by omega) e1 e3 i e4, hM.edge p y (by omega) e1 e3 i e4]
        exact hs p y e3 _ _ (ih p (by omega) (by omega))
  exact fun i hi => this _ i hi (Nat.le_refl _)
def lk (L : List Int) (i : Nat) : Int := L.getD i 0
theorem lk_set (L : List Int) (i j : Nat) (v : Int) (hi : i < L.length) : lk (L.set i v) j = if j = i then v else lk L j := by
  simp only [lk, List.getD_eq_getElem?_getD, List.getElem?_set]
  by_cases e : i = j
  · subst e; simp [hi]
  · have q : ¬ j = i := fun q => e q.symm
    simp [e, q]
def placeF (f : Int → Int → Int) (l : List Nd) : Nat → Nat → Int → List Int → List Int
  | 0, _, _, ab => ab
  | n + 1, i, a, ab => match l[i]? with
    | none => ab
    | some x => x.args.foldl (fun b (c : Int) => placeF f l n c.toNat (f x.k a) b) (ab.set i a)
theorem placeF_len (f : Int → Int → Int) (l : List Nd) : ∀ (n i : Nat) (a : Int) (ab : List Int), (placeF f l n i a ab).length = ab.length := by
  intro n
  induction n with
  | zero => intro i a ab; rfl
  | succ n ih =>
    intro i a ab
    rw [placeF]
    split
    · rfl
    · rename_i x _
      have : ∀ (cs : List Int) (b : List Int), (cs.foldl (fun b (c : Int) => placeF f l n c.toNat (f x.k a) b) b).length = b.length := by
        intro cs
        induction cs with
        | nil => intro b; rfl
        | cons c cs ihc => intro b; rw [List.foldl_cons, ihc, ih]
      rw [this, List.length_set]
theorem placeF_spec {f : Int → Int → Int} {l : List Nd} {bg : List Nat} (h : TreeR l bg) : ∀ (n i : Nat) (a : Int) (ab : List Int), i < n → i < l.length → ab.length = l.length →
    (∀ j, ¬ (bg.getD i 0 ≤ j ∧ j ≤ i) → lk (placeF f l n i a ab) j = lk ab j) ∧ lk (placeF f l n i a ab) i = a ∧ Lab l f (lk (placeF f l n i a ab)) i (bg.getD i 0) := by
  intro n
  induction n with
  | zero => intro i a ab hi; omega
  | succ n ih =>
    intro i a ab hn hi hab
    have hx : l[i]? = some (l[i]'hi) := List.getElem?_eq_getElem _
    generalize l[i]'hi = x at hx
    have N := h.node i x hx
    rw [placeF, hx]
    simp only
    -- the arguments one after another
    have key : ∀ (cs : List Int) (b : List Int), cs.Pairwise (fun a b => a < (bg.getD b.toNat 0 : Int)) → (∀ c ∈ cs, c ∈ x.args) → b.length = l.length →
        (∀ j : Nat, (∀ c ∈ cs, ¬ ((bg.getD c.toNat 0 : Int) ≤ j ∧ (j : Int) ≤ c)) → lk (cs.foldl (fun b (c : Int) => placeF f l n c.toNat (f x.k a) b) b) j = lk b j) ∧
        (∀ c ∈ cs, lk (cs.foldl (fun b (c : Int) => placeF f l n c.toNat (f x.k a) b) b) c.toNat = f x.k a ∧ Lab l f (lk (cs.foldl (fun b (c : Int) => placeF f l n c.toNat (f x.k a) b) b)) c.toNat (bg.getD c.toNat 0)) := by
      intro cs
      induction cs with
      | nil => intro b _ _ _; exact ⟨fun j _ => rfl, fun c hc => by cases hc⟩
      | cons c cs ihc =>
        intro b hp hm hb
        obtain ⟨hp1, hp2⟩ := List.pairwise_cons.1 hp
        obtain ⟨c', k1, k2, k3⟩ := N.arg c (hm c (by simp))
        have kc : c.toNat = c' := by omega
        obtain ⟨s1, s2, s3⟩ := ih c' (f x.k a) b (by omega) (by omega) hb
        obtain ⟨t1, t2⟩ := ihc (placeF f l n c' (f x.k a) b) hp2 (fun z hz => hm z (by simp [hz])) (by rw [placeF_len]; exact hb)
        rw [List.foldl_cons, kc]
        refine ⟨fun j hj => ?_, fun z hz => ?_⟩
        · rw [t1 j (fun z hz => hj z (by simp [hz]))]
          refine s1 j ?_
          have := hj c (by simp)
          rw [kc, k1] at this
          omega
        · rcases List.mem_cons.1 hz with e | e
          · subst e
            -- the others do not touch this range
            have same : ∀ j, bg.getD c' 0 ≤ j → j ≤ c' → lk (cs.foldl (fun b (c : Int) => placeF f l n c.toNat (f x.k a) b) (placeF f l n c' (f x.k a) b)) j = lk (placeF f l n c' (f x.k a) b) j := fun j j1 j2 => by
              refine t1 j (fun w hw => ?_)
              have := hp1 w hw
              omega
            have hlc : l[c']? = some (l[c']'(by omega)) := List.getElem?_eq_getElem _
            have hle := (h.node c' _ hlc).le
            rw [kc]
            refine ⟨by rw [same c' hle (Nat.le_refl _)]; exact s2, ⟨fun p y p1 p2 py d hd => ?_⟩⟩
            obtain ⟨d', e1, e2, e3⟩ := (h.node p y py).arg d hd
            have ed : d' = d := by omega
            subst ed
            have hld : l[d']? = some (l[d']'(by have := (List.getElem?_eq_some_iff.1 py).1; omega)) := List.getElem?_eq_getElem _
            have hled := (h.node d' _ hld).le
            have hn := h.nest c' _ hlc p p1 p2
            rw [same d' (by omega) (by omega), same p p1 p2]
            exact s3.edge p y p1 p2 py d' hd
          · exact t2 z e
    obtain ⟨t1, t2⟩ := key x.args (ab.set i a) N.apart (fun c hc => hc) (by simp [hab])
    have outside : ∀ j : Nat, i ≤ j → ∀ c ∈ x.args, ¬ ((bg.getD c.toNat 0 : Int) ≤ j ∧ (j : Int) ≤ c) := fun j hj c hc => by
      obtain ⟨c', k1, k2, k3⟩ := N.arg c hc
      omega
    have ei := t1 i (outside i (Nat.le_refl _))
    rw [lk_set _ _ _ _ (by omega), if_pos rfl] at ei
    refine ⟨fun j hj => ?_, ei, ⟨fun p y p1 p2 py d hd => ?_⟩⟩
    · have hle := N.le
      rw [t1 j, lk_set _ _ _ _ (by omega), if_neg (by omega)]
      intro c hc
      obtain ⟨c', k1, k2, k3⟩ := N.arg c hc
      have : c.toNat = c' := by omega
      rw [this]
      omega
    · rcases Nat.lt_or_eq_of_le p2 with q | q
      · obtain ⟨c, c1, c2, c3⟩ := N.cover p p1 q
        have := (t2 c c1).2
        have ec : ((c : Nat) : Int).toNat = c := by simp
        rw [ec] at this
        exact this.edge p y c2 c3 py d hd
      · subst q
        have e : y = x := Option.some.inj (py.symm.trans hx)
        subst e
        have := (t2 d hd).1
        have ec : ((d : Nat) : Int).toNat = d := by simp
        rw [ec] at this
        rw [this, ei]
def aboutStep (f : Int → Int → Int) (x : Nd) (i : Nat) (ab : List Int) : List Int := x.args.foldl (fun b (c : Int) => b.set c.toNat (f x.k (lk b i))) ab
def aboutsGo (f : Int → Int → Int) (l : List Nd) : Nat → List Int → List Int
  | 0, ab => ab
  | i + 1, ab => aboutsGo f l i (match l[i]? with | none => ab | some x => aboutStep f x i ab)
theorem aboutStep_spec {f : Int → Int → Int} {x : Nd} {i : Nat} {ab : List Int} (hi : i < ab.length) (ha : ∀ a ∈ x.args, ∃ c : Nat, a = (c : Int) ∧ c < i) :
    (aboutStep f x i ab).length = ab.length ∧ (∀ j : Nat, ¬ (j : Int) ∈ x.args → lk (aboutStep f x i ab) j = lk ab j) ∧ ∀ c : Nat, (c : Int) ∈ x.args → lk (aboutStep f x i ab) c = f x.k (lk ab i) := by
  have : ∀ (cs : List Int) (b : List Int), (∀ a ∈ cs, ∃ c : Nat, a = (c : Int) ∧ c < i) → i < b.length →
      (cs.foldl (fun b (c : Int) => b.set c.toNat (f x.k (lk b i))) b).length = b.length ∧ (∀ j : Nat, ¬ (j : Int) ∈ cs → lk (cs.foldl (fun b (c : Int) => b.set c.toNat (f x.k (lk b i))) b) j = lk b j) ∧
        (∀ c : Nat, (c : Int) ∈ cs → lk (cs.foldl (fun b (c : Int) => b.set c.toNat (f x.k (lk b i))) b) c = f x.k (lk b i)) := by
    intro cs
    induction cs with
    | nil => intro b _ _; exact ⟨rfl, fun j _ => rfl, fun c hc => by cases hc⟩
    | cons a cs ih =>
      intro b hcs hb
      obtain ⟨c, c1, c2⟩ := hcs a (by simp)
      have ec : a.toNat = c := by omega
      obtain ⟨t1, t2, t3⟩ := ih (b.set c (f x.k (lk b i))) (fun z hz => hcs z (by simp [hz])) (by simpa using hb)
      have ei : lk (b.set c (f x.k (lk b i))) i = lk b i := by rw [lk_set _ _ _ _ (by omega), if_neg (by omega)]
      rw [List.foldl_cons, ec]
      refine ⟨by rw [t1]; simp, fun j hj => ?_, fun d hd => ?_⟩
      · rw [t2 j (fun q => hj (by simp [q])), lk_set _ _ _ _ (by omega), if_neg]
        intro q
        exact hj (by rw [c1, q]; simp)
      · by_cases hm : (d : Int) ∈ cs
        · rw [t3 d hm, ei]
        · rcases List.mem_cons.1 hd with q | q
          · rw [t2 d hm, lk_set _ _ _ _ (by omega), if_pos (by omega)]
          · exact absurd q hm
  exact this x.args ab ha hi
theorem aboutsGo_spec {f : Int → Int → Int} {l : List Nd} {bg : List Nat} (h : TreeR l bg) : ∀ (n : Nat) (ab : List Int), n ≤ l.length → ab.length = l.length → Lab l f (lk ab) (l.length - 1) n →
    (aboutsGo f l n ab).length = l.length ∧ (∀ j, n ≤ j + 1 → lk (aboutsGo f l n ab) j = lk ab j) ∧ Lab l f (lk (aboutsGo f l n ab)) (l.length - 1) 0 := by
  intro n
  induction n with
  | zero => intro ab _ hab hL; exact ⟨hab, fun j _ => rfl, hL⟩
  | succ n ih =>
    intro ab hn hab hL
    have hx : l[n]? = some (l[n]'(by omega)) := List.getElem?_eq_getElem _
    generalize l[n]'(by omega) = x at hx
    have N := h.node n x hx
    rw [aboutsGo, hx]
    simp only
    obtain ⟨s1, s2, s3⟩ := aboutStep_spec (f := f) (x := x) (i := n) (ab := ab) (by omega) (fun a ha => by obtain ⟨c, c1, c2, _⟩ := N.arg a ha; exact ⟨c, c1, c2⟩)
    have up : ∀ j, n ≤ j → lk (aboutStep f x n ab) j = lk ab j := fun j hj => s2 j fun hm => by
      obtain ⟨c, c1, c2, _⟩ := N.arg _ hm
      omega
    have hnew : Lab l f (lk (aboutStep f x n ab)) (l.length - 1) n := ⟨fun p y p1 p2 py c hc => ?_⟩
    · obtain ⟨t1, t2, t3⟩ := ih (aboutStep f x n ab) (by omega) (by rw [s1]; exact hab) hnew
      exact ⟨t1, fun j hj => by rw [t2 j (by omega), up j (by omega)], t3⟩
    · by_cases e : p = n
      · subst e
        have : y = x := Option.some.inj (py.symm.trans hx)
        subst this
        rw [s3 c hc, up p (Nat.le_refl _)]
      · have hnc : ¬ (c : Int) ∈ x.args := fun hm => e (h.one py hx hc hm)
        rw [s2 c hnc, up p (by omega)]
        exact hL.edge p y (by omega) p2 py c hc
theorem place_abouts {l : List Nd} (h : isTreeF l = true) (hne : l ≠ []) {f g : Int → Int → Int} (R : Int → Int → Prop) (a b : Int) (hr : R a b) (hs : ∀ (p : Nat) (x : Nd), l[p]? = some x → ∀ a b, R a b → R (f x.k a) (g x.k b)) (ab bb : List Int)
    (ha : ab.length = l.length) (hb : bb.length = l.length) (hl : lk bb (l.length - 1) = b) :
    ∀ i, i < l.length → R (lk (placeF f l l.length (l.length - 1) a ab) i) (lk (aboutsGo g l l.length bb) i) := by
  obtain ⟨_, bg, T⟩ := isTree_ranges h
  have hpos : 0 < l.length := List.length_pos_iff.2 hne
  obtain ⟨_, p2, p3⟩ := placeF_spec (f := f) T l.length (l.length - 1) a ab (by omega) (by omega) ha
  rw [T.root] at p3
  obtain ⟨_, q2, q3⟩ := aboutsGo_spec (f := g) T l.length bb (Nat.le_refl _) hb ⟨fun p y p1 p2 py c hc => by
    have := (List.getElem?_eq_some_iff.1 py).1
    omega⟩
  refine Lab.rel T R p3 q3 ?_ hs
  rw [p2, q2 _ (by omega), hl]
  exact hr
end Go.Proofs.YtdpbobkcbakpfaaGreatDoor

namespace Go.Proofs.YtdpbobkcbakpfaaGreatDoor
open Go Go.Ab
set_option maxRecDepth 100000
set_option maxHeartbeats 4000000
def place0 (k : Int) : Int := if k == 6 || k == 4 || k == 5 then 1 else if k == 11 || k == 12 then 2 else 0
def about0 (k : Int) : Int := if k == 2 then 1 else if k == 6 then 2 else if k == 4 || k == 5 then 3 else if k == 11 || k == 12 then 4 else 0
def insL (k a : Int) : Int := if k == 2 then 3 else if k == 3 then 4 else a
def insR (k a : Int) : Int := if k == 2 then 5 else if k == 3 then 6 else a
def standsR (k a : Int) : Bool := if k == 0 then (a == 1 || a == 5 || a == 6) else if k == 1 then (a == 2 || a == 3 || a == 6) else if k == 2 then (a == 2 || a == 3 || a == 4) else if k == 3 then a == 2 else true
def Same (tk a b : Int) : Prop := (a = 0 ∧ b = 1) ∨ (a = 1 ∧ ((tk = 6 ∧ b = 2) ∨ ((tk = 4 ∨ tk = 5) ∧ b = 3))) ∨ (a = 2 ∧ b = 4) ∨ (a = 3 ∧ b = 5) ∨ (a = 4 ∧ b = 6)
theorem same0 (k : Int) (h : about0 k ≠ 0) : Same k (place0 k) (about0 k) := by
  simp only [about0, place0, Same] at *
  by_cases h2 : k = 2
  · subst h2; simp
  · by_cases h6 : k = 6
    · subst h6; simp
    · by_cases h4 : k = 4
      · subst h4; simp
      · by_cases h5 : k = 5
        · subst h5; simp
        · by_cases h11 : k = 11
          · subst h11; simp
          · by_cases h12 : k = 12
            · subst h12; simp
            · simp [h2, h6, h4, h5, h11, h12] at h
theorem sameIns (tk k a b : Int) (h : Same tk a b) : Same tk (insL k a) (insR k b) := by
  simp only [insL, insR]
  by_cases h2 : k = 2
  · subst h2; simp [Same]
  · by_cases h3 : k = 3
    · subst h3; simp [Same]
    · simpa [h2, h3] using h
theorem same_stands (tk k a b : Int) (h : Same tk a b) : standsF tk k a = standsR k b := by
  rcases h with ⟨rfl, rfl⟩ | ⟨rfl, ⟨rfl, rfl⟩ | ⟨rfl | rfl, rfl⟩⟩ | ⟨rfl, rfl⟩ | ⟨rfl, rfl⟩ | ⟨rfl, rfl⟩ <;> simp [standsF, standsR]
def bordF (k a : Int) : Int × Int := if a == 3 then (0, mostSz k) else if a == 4 then (0, 127) else (-1152921504606846976, 1152921504606846976)
def inBord (x : Nd) (b : Int × Int) : Bool := decide (x.lo ≤ x.hi) && decide (b.1 ≤ x.lo) && decide (x.hi ≤ b.2)
theorem same_range (x : Nd) (tk a b : Int) (h : Same tk a b) : inBord x (bordF tk a) = !nodeRange x b tk := by
  have key : ∀ lo hi : Int, (decide (x.lo ≤ x.hi) && decide (lo ≤ x.lo) && decide (x.hi ≤ hi)) = !(decide (x.lo > x.hi) || decide (x.lo < lo) || decide (x.hi > hi)) := fun lo hi => by
    rw [Bool.eq_iff_iff]
    simp
  rcases h with ⟨rfl, rfl⟩ | ⟨rfl, ⟨rfl, rfl⟩ | ⟨rfl | rfl, rfl⟩⟩ | ⟨rfl, rfl⟩ | ⟨rfl, rfl⟩ | ⟨rfl, rfl⟩
  all_goals exact key _ _
theorem alpha_ia5 : alpha sIa5 = [⟨0, 127⟩] := by kernel_rfl
def textFitsF (t : Ty) (s : ByteArray) (a : Int) : Bool :=
  if a == 4 then !seqB s (bs []) && !(chars s).any (fun c => decide (127 < c)) else if t.kind == 4 then !(chars s).any (fun c => !(c == 48 || c == 49))
  else if t.kind == 6 then !(chars s).any (fun c => !inS (alpha t.name) c) else true
theorem any_congr {α : Type} {l : List α} {p q : α → Bool} (h : ∀ x ∈ l, p x = q x) : l.any p = l.any q := by
  induction l with
  | nil => rfl
  | cons a r ih => rw [List.any_cons, List.any_cons, h a (by simp), ih fun x hx => h x (by simp [hx])]
theorem chars_nn {s : ByteArray} {c : Int} (h : c ∈ chars s) : 0 ≤ c := by
  obtain ⟨b, _, rfl⟩ := List.mem_map.1 h
  omega
theorem same_text (t : Ty) (s : ByteArray) (a b : Int) (h : Same t.kind a b) (ha : a = 1 ∨ a = 4) : textErrR t s b = firstE [if textFitsF t s a then 0 else 17, if s.size ≤ 200 then 0 else 2] := by
  have fin : ∀ u : Bool, u = !textFitsF t s a → (if u = true then (17 : Int) else if 200 < s.size then 2 else 0) = firstE [if textFitsF t s a then 0 else 17, if s.size ≤ 200 then 0 else 2] := fun u hu => by
    subst hu
    have e : (200 < s.size) ↔ ¬ s.size ≤ 200 := by omega
    cases textFitsF t s a <;> by_cases q : s.size ≤ 200 <;> simp [firstE_cons, firstE_nil, q, e]
  refine fin _ ?_
  rcases h with ⟨rfl, rfl⟩ | ⟨rfl, ⟨hk, rfl⟩ | ⟨hk, rfl⟩⟩ | ⟨rfl, rfl⟩ | ⟨rfl, rfl⟩ | ⟨rfl, rfl⟩
  · omega
  · have e : textFitsF t s 1 = !(chars s).any (fun c => !inS (alpha t.name) c) := by simp [textFitsF, hk]
    have e2 : textBadC t 2 = fun c => !inS (alpha t.name) c := by funext c; simp [textBadC]
    rw [e, e2]; simp
  · rcases hk with hk | hk
    · have e : textFitsF t s 1 = !(chars s).any (fun c => !(c == 48 || c == 49)) := by simp [textFitsF, hk]
      have e2 : textBadC t 3 = fun c => !(c == 48 || c == 49) := by funext c; simp [textBadC, hk, bne]
      rw [e, e2]; simp
    · have e : textFitsF t s 1 = true := by simp [textFitsF, hk]
      have e2 : textBadC t 3 = fun c => false := by funext c; simp [textBadC, hk]
      rw [e, e2]; simp
  · omega
  · omega
  · have e : textFitsF t s 4 = (!seqB s (bs []) && !(chars s).any (fun c => decide (127 < c))) := by simp [textFitsF]
    have e2 : (chars s).any (textBadC t 6) = (chars s).any (fun c => decide (127 < c)) := any_congr fun c hc => by
      have := chars_nn hc
      have e3 : textBadC t 6 c = !inS (alpha sIa5) c := by simp [textBadC]
      rw [e3, alpha_ia5, Bool.eq_iff_iff]
      simp [inS]
      omega
    rw [e, e2]
    cases seqB s (bs []) <;> cases (chars s).any (fun c => decide (127 < c)) <;> rfl
def nodeL (t : Ty) (x : Nd) (root : Bool) (a : Int) : Int :=
  let e := firstE [if x.k != 7 || root then 0 else 28, if standsF t.kind x.k a then 0 else 17]
  if e != 0 then e else if x.k == 0 then (if inBord x (bordF t.kind a) then 0 else 3)
  else if x.k == 1 then firstE [if textFitsF t x.s a then 0 else 17, if x.s.size ≤ 200 then 0 else 2] else 0
def nodeQ (t : Ty) (x : Nd) (root : Bool) (b : Int) : Int :=
  if x.k == 7 && !root then 28 else if !standsR x.k b then 17 else if x.k == 0 && nodeRange x b t.kind then 3
  else if x.k == 1 then textErrR t x.s b else 0
theorem same_node (t : Ty) (x : Nd) (root : Bool) (a b : Int) (h : Same t.kind a b) : nodeL t x root a = nodeQ t x root b := by
  have hs := same_stands t.kind x.k a b h
  have hr := same_range x t.kind a b h
  simp only [nodeL, nodeQ, hs, hr]
  cases hst : standsR x.k b
  · cases root <;> by_cases h7 : x.k = 7 <;> simp [firstE_cons, h7]
  · by_cases h0 : x.k = 0
    · cases nodeRange x b t.kind <;> simp [firstE_cons, firstE_nil, h0]
    · by_cases h1 : x.k = 1
      · have ha : a = 1 ∨ a = 4 := by
          rw [hst, h1] at hs
          simpa [standsF] using hs
        rw [same_text t x.s a b h ha]
        simp [firstE_cons, firstE_nil, h1]
      · cases root <;> by_cases h7 : x.k = 7 <;> simp [firstE_cons, firstE_nil, h0, h1, h7]
def firstAt : List Int → Int × Int
  | [] => (0, 0)
  | e :: r => if e == 0 then ((firstAt r).1 + 1, (firstAt r).2) else (0, e)
def errsL (t : Ty) (f : Nat → Int) : List Int := t.limits.mapIdx fun i x => nodeL t x (i + 1 == t.limits.length) (f i)
def errsQ (t : Ty) (f : Nat → Int) : List Int := t.limits.mapIdx fun i x => nodeQ t x (i + 1 == t.limits.length) (f i)
def placesL (t : Ty) : List Int := placeF insL t.limits t.limits.length (t.limits.length - 1) (place0 t.kind) (List.replicate t.limits.length 0)
def aboutsR (t : Ty) : List Int := aboutsGo insR t.limits t.limits.length ((List.replicate t.limits.length 0).set (t.limits.length - 1) (about0 t.kind))
def ownL (t : Ty) : Int × Int := if t.limits.length == 0 then (0, 0) else if place0 t.kind == 0 && t.kind != 2 then (0, 4) else firstAt (errsL t (lk (placesL t)))
def ownQ (t : Ty) : Int × Int := if t.limits.length != 0 && about0 t.kind == 0 then (0, 4) else firstAt (errsQ t (lk (aboutsR t)))
theorem about_none (k : Int) : (about0 k == 0) = (place0 k == 0 && k != 2) := by
  simp only [about0, place0]
  by_cases h2 : k = 2
  · subst h2; decide
  · by_cases h6 : k = 6
    · subst h6; decide
    · by_cases h4 : k = 4
      · subst h4; decide
      · by_cases h5 : k = 5
        · subst h5; decide
        · by_cases h11 : k = 11
          · subst h11; decide
          · by_cases h12 : k = 12
            · subst h12; decide
            · simp [h2, h6, h4, h5, h11, h12]
theorem own_same (t : Ty) (h : isTreeF t.limits = true) : ownL t = ownQ t := by
  simp only [ownL, ownQ, about_none]
  by_cases hz : t.limits.length = 0
  · have e : t.limits = [] := List.length_eq_zero_iff.1 hz
    simp [errsQ, e, firstAt]
  · cases hk : (place0 t.kind == 0 && t.kind != 2)
    · have ha : about0 t.kind ≠ 0 := by
        have := about_none t.kind
        rw [hk] at this
        simpa using this
      simp only [beq_iff_eq, hz, if_false, Bool.and_false, Bool.false_eq_true]
      congr 1
      refine List.mapIdx_eq_mapIdx_iff.2 fun i hi => ?_
      refine same_node t _ _ _ _ ?_
      refine place_abouts h (fun e => hz (by rw [e]; rfl)) (Same t.kind) (place0 t.kind) (about0 t.kind) (same0 _ ha) (fun p x _ a b hab => sameIns _ _ _ _ hab) _ _ (by simp) (by simp) ?_ i hi
      rw [lk_set _ _ _ _ (by simp; omega), if_pos rfl]
    · simp [hz]
end Go.Proofs.YtdpbobkcbakpfaaGreatDoor

