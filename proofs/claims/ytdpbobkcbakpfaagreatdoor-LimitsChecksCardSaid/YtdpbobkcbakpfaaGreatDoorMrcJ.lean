/- For every input the law LimitsChecks answers true and leaves its arguments as they were (the row lists two tables of package utf8; the card ties them). -/
import Derived.Carry
import Derived.ReadAgain
import Derived.ChangeArms
import Derived.OpenShut
import Derived.ProofKit
import Derived.Deep.DeepHandedRow
import Derived.Test.YtdpbobkcbakpfaaGreatDoorCards
import Derived.Test.YtdpbobkcbakpfaaGreatDoorTie
import Derived.Lay
import Derived.JoinedCond
import Derived.Shelf.Vars
import Derived.Test.YtdpbobkcbakpfaaGreatDoorMrcI
namespace Go.Proofs.YtdpbobkcbakpfaaGreatDoor
open Go Go.Ab
set_option maxRecDepth 100000
set_option maxHeartbeats 4000000
attribute [local simp] tagsT fieldsT typesT nodesT valsT textsT intsT tyC fdC vlC ndC hset_hset D.isPt D.pt
attribute [local simp] c85r0 c85r1 c85 in
theorem P85 (a b c : Int) : PSp Tryz.prog 85 [.one (.t (I a)), .one (.t (I b)), .one (.t (I c))] (.one (.t (.bool (decide (b ≤ a) && decide (a ≤ c))))) := by
  refine k85.pureK (by simp) rfl rfl ?_
  obtain ⟨u, eu⟩ : ∃ y, decide (b ≤ a) = y := ⟨_, rfl⟩
  obtain ⟨v, ev⟩ : ∃ y, decide (a ≤ c) = y := ⟨_, rfl⟩
  rw [eu, ev]
  cases u <;> simp -implicitDefEqProofs [-guardOk, -gval, eu, ev, pureEnd]
attribute [local simp] c155r0 c155r1 c155 in
theorem Q155 (x : Sp) (n : Int) (h : Hp) (id : Nat) (e : h id = some (.arr 0 false 1 [[.t (I n)]])) (n0 : Nat) :
    ISp Tryz.prog 155 h n0 [.agg ((spr x).map .t), .one (.ptr ⟨id, 0, 1, 0, 0⟩)] (.one (.t (.bool (decide (x.1 ≤ n) && decide (n ≤ x.2))))) h := by
  refine ISp.ok fun ho => ?_
  have h1 := ltOf ho e
  have p85 := P85 n x.1 x.2
  generalize (decide (x.1 ≤ n) && decide (n ≤ x.2)) = R at *
  refine k155.ispK (by simp) ?_
  obtain ⟨o1, o2, o3, o4⟩ := objF e
  have hne : ¬ id = n0 := by omega
  simp -implicitDefEqProofs [-guardOk, -gval, spr, o1, o2, o3, hne]
  refine callK.tree p85 rfl ?_
  simp -implicitDefEqProofs [-guardOk, -gval]
  exact impEnd_t (.inr rfl) (by exact rfl) (fun j hj => by simp [Hp.set]; omega) ho
attribute [local simp] c120r0 c120r1 c120 in
theorem P120 (l : List Sp) (n : Int) (hl : short l) : PSp Tryz.prog 120 [.one (.t (spans l)), .one (.t (I n))] (.one (.t (.bool (inS l n)))) := by
  refine k120.pureK (by simp) rfl rfl ?_
  simp -implicitDefEqProofs [-guardOk, -gval]
  refine callK.imp (C154 l hl (fun x => decide (x.1 ≤ n) && decide (n ≤ x.2)) 155 [⟨0, 0, 1, 0, 0⟩] _ _ (by kernel_rfl) fun x hx new K hn hK => callK.imp (Q155 x n _ 0 (by simp [Hp.set]) new) hK) ?_
  simp -implicitDefEqProofs [-guardOk, -gval, pureEnd]
  rfl
attribute [local simp] c150r0 c150r1 c150 in
theorem P150 (c : Int) : PSp Tryz.prog 150 [.one (.t (.int .u8 c))] (.one (.t (.bool (decide (127 < c))))) := by
  refine k150.pureK (by simp) rfl rfl ?_
  simp -implicitDefEqProofs [-guardOk, -gval, pureEnd]
attribute [local simp] c194r0 c194r1 c194 in
theorem Q194 (l : List Sp) (c : Int) (hl : l.length ≤ 1000000) (hc : 0 ≤ c ∧ c ≤ 255) (h : Hp) (id : Nat) (e : h id = some (.arr 0 false 1 [[.t (spans l)]])) (n0 : Nat) :
    ISp Tryz.prog 194 h n0 [.one (.t (.int .u8 c)), .one (.ptr ⟨id, 0, 1, 0, 0⟩)] (.one (.t (.bool (!inS l c)))) h := by
  refine ISp.ok fun ho => ?_
  have h1 := ltOf ho e
  have p120 := P120 l c (by simp only [short]; omega)
  refine k194.ispK (by simp) ?_
  obtain ⟨o1, o2, o3, o4⟩ := objF e
  have hcv : D.cvInt .i64 (.one (.t (.int .u8 c))) = .one (.t (I c)) := by
    have : IntKind.i64.wrap c = c := wrap_i64 (by omega) (by omega)
    simp [D.cvInt, this]
  simp -implicitDefEqProofs [-guardOk, -gval, o1, o2, o3, hcv]
  refine callK.tree p120 rfl ?_
  simp -implicitDefEqProofs [-guardOk, -gval]
  exact impEnd_t (.inr rfl) (by exact rfl) (fun j hj => by simp) ho
attribute [local simp] c152r0 c152r1 c152r2 c152 in
theorem P152 (s : ByteArray) (x : ByteArray) (hx : x.size ≤ 9223372036854775807) : PSp Tryz.prog 152 [.one (.t (.str s)), .one (.t (.str x))] (.one (.t (.bool (!(chars x).any fun c => !inS (alpha s) c)))) := by
  refine k152.pureK (by simp) rfl rfl ?_
  have hal := alpha_len s
  simp -implicitDefEqProofs [-guardOk, -gval]
  refine callK.tree (P17 s) rfl ?_
  simp -implicitDefEqProofs [-guardOk, -gval]
  refine callK.imp (C122 x hx (fun c => !inS (alpha s) c) 194 [⟨6, 0, 1, 0, 0⟩] _ _ (by kernel_rfl) fun c hc new K hn hK => callK.imp (Q194 (alpha s) c (by omega) (by have := chars_mem hc; omega) _ 6 (by simp [Hp.set]) new) hK) ?_
  simp -implicitDefEqProofs [-guardOk, -gval, pureEnd]
end Go.Proofs.YtdpbobkcbakpfaaGreatDoor

namespace Go.Proofs.YtdpbobkcbakpfaaGreatDoor
open Go Go.Ab
set_option maxRecDepth 100000
set_option maxHeartbeats 4000000
attribute [local simp] tagsT fieldsT typesT nodesT valsT textsT intsT tyC fdC vlC ndC hset_hset D.isPt D.pt
theorem impEnd_cell2 {k c n0 : Nat} {x y : T} {st : St} {h' : Hp} (hr : st.tmps k = .one (.ptr ⟨c, 0, 2, 0, 0⟩)) (hc : st.heap c = some (.arr 0 false 2 [[.t x, .t y]])) (hh : ∀ id, id < n0 → st.heap id = h' id) (ho : HeapOk h' n0) :
    impEnd [.cell k 2 true] (.agg [.t x, .t y]) h' n0 .ret st := by
  obtain ⟨o1, o2, o3, o4⟩ := objF hc
  have e : resD st [.cell k 2 true] = .agg [.t x, .t y] := by
    simp [resD, RV.val, hr, D.loadAt, D.of, o2]
  refine ⟨.inr rfl, ⟨?_, by simp⟩, ?_, ?_, ?_, hh, ho.above, ho.below⟩
  · simp [RV.ok, hr, D.loadOk, o1, o2, o3]
  · rw [e]; simp [D.frzOk]
  · rw [e]; simp [D.frz]
  · rw [e]; simp [D.ids]
attribute [local simp] c109r0 c109r1 c109r2 c109r3 c109r4 c109r5 c109r6 c109 in
theorem P109 (t : Ty) (ab : List Int) (id sid ver : Nat) (h : Hp) (hc : CK t ab id sid ver h) (i : Nat) (a : Int) (ha : ab[i]? = some a) (n0 : Nat) :
    ISp Tryz.prog 109 h n0 [.one (.ptr ⟨id, 0, 9, 0, 0⟩), .one (.t (I i))] (.agg [.t (I (bordF t.kind a).1), .t (I (bordF t.kind a).2)]) h := by
  refine ISp.ok fun ho => ?_
  have h1 := ltOf ho hc.obj
  have h2 := ltOf ho hc.abs
  refine k109.ispK (by simp) ?_
  obtain ⟨o1, o2, o3, o4⟩ := objF hc.obj
  obtain ⟨p1, p2, p3, p4⟩ := objF hc.abs
  have hia : i < ab.length := (List.getElem?_eq_some_iff.1 ha).1
  have hiaI : (i : Int) < (ab.length : Int) := by omega
  have p91 := P91 t
  have hne : ¬ id = n0 := by omega
  have hne2 : ¬ sid = n0 := by omega
  rcases eqCases a 3 with q3 | q3
  · have e : bordF t.kind a = (0, mostSz t.kind) := by simp [bordF, q3]
    rw [e]
    generalize mostSz t.kind = m at *
    simp -implicitDefEqProofs [-guardOk, -gval, hne, hne2, o1, o2, o3, p1, p2, p3, hia, hiaI, rowAtA ha, q3, -List.getElem_map]
    refine callK.tree p91 rfl ?_
    simp -implicitDefEqProofs [-guardOk, -gval]
    exact impEnd_cell2 (c := n0) (by exact rfl) (by simp [Hp.set]) (fun j hj => by simp [Hp.set]; omega) ho
  · rcases eqCases a 4 with q4 | q4
    · have e : bordF t.kind a = (0, 127) := by simp [bordF, q4]
      rw [e]
      simp -implicitDefEqProofs [-guardOk, -gval, hne, hne2, o1, o2, o3, p1, p2, p3, hia, hiaI, rowAtA ha, q4, -List.getElem_map]
      exact impEnd_cell2 (c := n0) (by exact rfl) (by simp [Hp.set]) (fun j hj => by simp [Hp.set]; omega) ho
    · have e : bordF t.kind a = (-1152921504606846976, 1152921504606846976) := by simp [bordF, q3, q4]
      rw [e]
      simp -implicitDefEqProofs [-guardOk, -gval, hne, hne2, o1, o2, o3, p1, p2, p3, hia, hiaI, rowAtA ha, q3, q4, -List.getElem_map]
      exact impEnd_cell2 (c := n0) (by exact rfl) (by simp [Hp.set]) (fun j hj => by simp [Hp.set]; omega) ho
attribute [local simp] c110r0 c110r1 c110r2 c110r3 c110r4 c110r5 c110r6 c110r7 c110t8 c110t9 c110t10 c110r8 c110t12 c110t13 c110 in
theorem P110 (t : Ty) (ab : List Int) (id sid ver : Nat) (h : Hp) (hc : CK t ab id sid ver h) (i : Nat) (x : Nd) (a : Int) (hx : t.limits[i]? = some x) (hxs : x.s.size ≤ 9223372036854775807) (ha : ab[i]? = some a) (n0 : Nat) :
    ISp Tryz.prog 110 h n0 [.one (.ptr ⟨id, 0, 9, 0, 0⟩), .one (.t (I i))] (.one (.t (.bool (textFitsF t x.s a)))) h := by
  obtain ⟨R0, hR0⟩ : ∃ R, textFitsF t x.s a = R := ⟨_, rfl⟩
  rw [hR0]
  refine ISp.ok fun ho => ?_
  have h1 := ltOf ho hc.obj
  have h2 := ltOf ho hc.abs
  refine k110.ispK (by simp) ?_
  obtain ⟨o1, o2, o3, o4⟩ := objF hc.obj
  obtain ⟨p1, p2, p3, p4⟩ := objF hc.abs
  have hi : i < t.limits.length := (List.getElem?_eq_some_iff.1 hx).1
  have hiI : (i : Int) < (t.limits.length : Int) := by omega
  have hia : i < ab.length := (List.getElem?_eq_some_iff.1 ha).1
  have hiaI : (i : Int) < (ab.length : Int) := by omega
  have fin : ∀ (R : Bool) (st : St), R = R0 → st.tmps 4 = .one (.t (.bool R)) → st.heap = h → impEnd [.tmp 4] (.one (.t (.bool R0))) h n0 .ret st := fun R st hR hs hh => by
    subst hR
    exact impEnd_t (.inr rfl) hs (fun j hj => by rw [hh]) ho
  rcases eqCases a 4 with q4 | q4
  · obtain ⟨b, eb⟩ : ∃ b, (x.s.toList == (bs []).toList) = b := ⟨_, rfl⟩
    have eb' : seqB x.s (bs []) = b := eb
    have hR1 : (!b && !(chars x.s).any fun c => decide (127 < c)) = R0 := by rw [← hR0]; simp [textFitsF, q4, eb']
    cases b
    · simp -implicitDefEqProofs [-guardOk, -gval, o1, o2, o3, p1, p2, p3, hi, hiI, hia, hiaI, rowAtA ha, rowAtM hx, Nd.row, q4, eb, -List.getElem_map]
      refine callK.imp (C122 x.s hxs (fun c => decide (127 < c)) 150 [] _ _ (by kernel_rfl) fun c hc new K hn hK => callK.tree (P150 c) rfl hK) ?_
      simp -implicitDefEqProofs [-guardOk, -gval]
      exact fin (!(chars x.s).any fun c => decide (127 < c)) _ (by rw [← hR1]; rfl) (by exact rfl) (by exact rfl)
    · simp -implicitDefEqProofs [-guardOk, -gval, o1, o2, o3, p1, p2, p3, hi, hiI, hia, hiaI, rowAtA ha, rowAtM hx, Nd.row, q4, eb, -List.getElem_map]
      exact fin false _ (by rw [← hR1]; rfl) (by exact rfl) (by exact rfl)
  · rcases eqCases t.kind 4 with k4 | k4
    · have hR1 : (!(chars x.s).any fun c => !(c == 48 || c == 49)) = R0 := by rw [← hR0]; simp [textFitsF, q4, k4]
      have tr := trim01 x.s hxs
      have te := trim01_any x.s
      simp -implicitDefEqProofs [-guardOk, -gval, o1, o2, o3, p1, p2, p3, hi, hiI, hia, hiaI, rowAtA ha, rowAtM hx, Nd.row, q4, k4, -List.getElem_map]
      refine callK.tree tr rfl ?_
      simp -implicitDefEqProofs [-guardOk, -gval]
      exact fin _ _ (by rw [← hR1, ← te]) (by exact rfl) (by exact rfl)
    · rcases eqCases t.kind 6 with k6 | k6
      · have hR1 : (!(chars x.s).any fun c => !inS (alpha t.name) c) = R0 := by rw [← hR0]; simp [textFitsF, q4, k6]
        have p152 := P152 t.name x.s hxs
        rw [hR1] at p152
        simp -implicitDefEqProofs [-guardOk, -gval, o1, o2, o3, p1, p2, p3, hi, hiI, hia, hiaI, rowAtA ha, rowAtM hx, Nd.row, q4, k6, -List.getElem_map]
        refine callK.tree p152 rfl ?_
        simp -implicitDefEqProofs [-guardOk, -gval]
        exact fin _ _ rfl (by exact rfl) (by exact rfl)
      · have hR1 : true = R0 := by rw [← hR0]; simp [textFitsF, q4, k4, k6]
        simp -implicitDefEqProofs [-guardOk, -gval, o1, o2, o3, p1, p2, p3, hi, hiI, hia, hiaI, rowAtA ha, rowAtM hx, Nd.row, q4, k4, k6, -List.getElem_map]
        exact fin _ _ hR1 (by exact rfl) (by exact rfl)
end Go.Proofs.YtdpbobkcbakpfaaGreatDoor

namespace Go.Proofs.YtdpbobkcbakpfaaGreatDoor
open Go Go.Ab
set_option maxRecDepth 100000
set_option maxHeartbeats 4000000
attribute [local simp] tagsT fieldsT typesT nodesT valsT textsT intsT tyC fdC vlC ndC hset_hset D.isPt D.pt
def putAb (h : Hp) (sid ver : Nat) (ab : List Int) : Hp := h.set sid (.arr ver false 1 (ab.map fun a => [.t (I a)]))
theorem CK.ne {t : Ty} {ab : List Int} {id sid ver : Nat} {h : Hp} (hc : CK t ab id sid ver h) : id ≠ sid := fun e => by
  subst e
  have := hc.obj.symm.trans hc.abs
  simp at this
theorem CK.put {t : Ty} {ab : List Int} {id sid ver : Nat} {h : Hp} (hc : CK t ab id sid ver h) {ab' : List Int} (hl : ab'.length = ab.length) : CK t ab' id sid ver (putAb h sid ver ab') := by
  refine ⟨?_, by simp [putAb, Hp.set], by rw [hl]; exact hc.len⟩
  simp only [putAb, Hp.set]
  rw [if_neg hc.ne, hc.obj, hl]
theorem putAb_put {h : Hp} {sid ver : Nat} {ab ab' : List Int} : putAb (putAb h sid ver ab) sid ver ab' = putAb h sid ver ab' := funext fun j => by
  simp only [putAb, Hp.set]; split <;> rfl
theorem putAb_same {t : Ty} {ab : List Int} {id sid ver : Nat} {h : Hp} (hc : CK t ab id sid ver h) : putAb h sid ver ab = h := funext fun j => by
  simp only [putAb, Hp.set]
  split
  · rename_i e; rw [e, hc.abs]
  · rfl
theorem putAb_set {_t : Ty} {ab : List Int} {_id sid ver i : Nat} {a : Int} {h : Hp} : h.set sid (.arr ver false 1 ((ab.map fun a => [A.t (I a)]).set i [A.t (I a)])) = putAb h sid ver (ab.set i a) := by
  simp [putAb, List.map_set]
theorem putAb_ok {h : Hp} {n sid ver : Nat} {ab : List Int} (ho : HeapOk h n) (hs : sid < n) : HeapOk (putAb h sid ver ab) n := by
  refine ⟨fun j hj => ?_, fun j o hj => ?_⟩
  · simp only [putAb, Hp.set]; rw [if_neg (by omega)]; exact ho.above j hj
  · simp only [putAb, Hp.set] at hj
    split at hj
    · cases hj
      simp [O.below, A.below]
    · exact ho.below j o hj
attribute [local simp] c62r0 c62r1 c62r2 c62r3 c62r4 c62r5 c62r6 c62r7 c62r8 c62r9 c62t10 c62t11 c62t12 c62r10 c62t14 c62t15 c62r11 c62t17 c62t18 c62b19 c62t20 c62t21 c62 in
theorem P62 (t : Ty) (bg : List Nat) (T : TreeR t.limits bg) (_hn : t.limits.length ≤ 20) (hargs : ∀ x ∈ t.limits, short x.args) (id sid ver : Nat) : ∀ (fuel i : Nat) (a : Int) (ab : List Int) (h : Hp) (n0 : Nat), i < fuel → i < t.limits.length → CK t ab id sid ver h →
    ISp Tryz.prog 62 h n0 [.one (.ptr ⟨id, 0, 9, 0, 0⟩), .one (.t (I i)), .one (.t (I a))] (.tup []) (putAb h sid ver (placeF insL t.limits fuel i a ab)) := by
  intro fuel
  induction fuel with
  | zero => intro i a ab h n0 hi; omega
  | succ fuel ih =>
    intro i a ab h n0 hif hil hc
    have hx : t.limits[i]? = some (t.limits[i]'hil) := List.getElem?_eq_getElem _
    generalize t.limits[i]'hil = x at hx
    have N := T.node i x hx
    have hsa := hargs x (List.mem_of_getElem? hx)
    refine ISp.ok fun ho => ?_
    have h1 := ltOf ho hc.obj
    have h2 := ltOf ho hc.abs
    have hne := hc.ne
    have hne' : ¬ sid = id := fun e => hne e.symm
    obtain ⟨o1, o2, o3, o4⟩ := objF hc.obj
    obtain ⟨p1, p2, p3, p4⟩ := objF hc.abs
    have hiI : (i : Int) < (t.limits.length : Int) := by omega
    have hia : i < ab.length := by rw [hc.len]; exact hil
    have hiaI : (i : Int) < (ab.length : Int) := by omega
    have ep : placeF insL t.limits (fuel + 1) i a ab = x.args.foldl (fun b (c : Int) => placeF insL t.limits fuel c.toNat (insL x.k a) b) (ab.set i a) := by
      rw [placeF, hx]
    rw [ep]
    refine k62.ispK (by simp) ?_
    have ha0 : ab[i]? = some (ab[i]'hia) := List.getElem?_eq_getElem hia
    simp -implicitDefEqProofs [-guardOk, -gval, o1, o2, o3, p1, p2, p3, p4, rowAtM hx, rowAtA ha0, hil, hiI, hia, hiaI, hne, Nd.row, -List.getElem_map]
    refine loopFold x.args (fun b (c : Int) => placeF insL t.limits fuel c.toNat (insL x.k a) b) (ab.set i a) [0, 1, 2, 24, 25] [] (fun k s st => st.tmps 26 = .one (.t (I k)) ∧ st.heap = putAb h sid ver s ∧ s.length = ab.length ∧ n0 ≤ st.nx) hsa ?_ ?_ ?_
    · exact ⟨⟨by simp, by simp [putAb, List.map_set], by simp, by simp; omega⟩, by simp, by simp⟩
    · rintro k y s st hk hkI hw hg hy hs ⟨hx26, hh, hsl, hnx⟩ hkt hkh
      simp at hkt
      have hc' : CK t s id sid ver st.heap := by rw [hh]; exact hc.put hsl
      obtain ⟨o1, o2, o3, o4⟩ := objF hc'.obj
      obtain ⟨c, rfl, hci, _⟩ := N.arg y hy
      have hcl : c < t.limits.length := by omega
      have call := fun n => ih c (insL x.k a) s st.heap n (by omega) hcl hc'
      have ph : putAb st.heap sid ver (placeF insL t.limits fuel c (insL x.k a) s) = putAb h sid ver (placeF insL t.limits fuel c (insL x.k a) s) := by rw [hh, putAb_put]
      have tn : ((c : Nat) : Int).toNat = c := by simp
      rcases eqCases x.k 2 with q2 | q2
      · have ei : insL x.k a = 3 := by simp [insL, q2]
        rw [ei] at call ph
        simp -implicitDefEqProofs [-guardOk, -gval, hx26, hkt, hk, hkI, rowAtM hg, rowAtM hx, hil, hiI, o1, o2, o3, Nd.row, q2, -List.getElem_map]
        refine callK.imp (call _) ?_
        simp -implicitDefEqProofs [-guardOk, -gval, hx26, hkt, hw, ph, placeF_len, hsl]
        exact ⟨by rw [show insL 2 a = 3 by simp [insL]], by omega⟩
      · rcases eqCases x.k 3 with q3 | q3
        · have ei : insL x.k a = 4 := by simp [insL, q3]
          rw [ei] at call ph
          simp -implicitDefEqProofs [-guardOk, -gval, hx26, hkt, hk, hkI, rowAtM hg, rowAtM hx, hil, hiI, o1, o2, o3, Nd.row, q3, -List.getElem_map]
          refine callK.imp (call _) ?_
          simp -implicitDefEqProofs [-guardOk, -gval, hx26, hkt, hw, ph, placeF_len, hsl]
          exact ⟨by rw [show insL 3 a = 4 by simp [insL]], by omega⟩
        · have ei : insL x.k a = a := by simp [insL, q2, q3]
          rw [ei] at call ph
          simp -implicitDefEqProofs [-guardOk, -gval, hx26, hkt, hk, hkI, rowAtM hg, rowAtM hx, hil, hiI, o1, o2, o3, Nd.row, q2, q3, -List.getElem_map]
          refine callK.imp (call _) ?_
          simp -implicitDefEqProofs [-guardOk, -gval, hx26, hkt, hw, ei, ph, placeF_len, hsl]
          omega
    · rintro st ⟨hx26, hh, hsl, hnx⟩ hkt hkh
      simp at hkt
      simp -implicitDefEqProofs [-guardOk, -gval, hx26, hkt]
      exact impEnd_n (.inl rfl) (fun j hj => by simp [hh]) (putAb_ok ho h2)
end Go.Proofs.YtdpbobkcbakpfaaGreatDoor

namespace Go.Proofs.YtdpbobkcbakpfaaGreatDoor
open Go Go.Ab
set_option maxRecDepth 100000
set_option maxHeartbeats 4000000
attribute [local simp] tagsT fieldsT typesT nodesT valsT textsT intsT tyC fdC vlC ndC hset_hset D.isPt D.pt
attribute [local simp] c81r0 c81r1 c81r2 c81r3 c81 in
theorem P81 (b : Bool) (e : Int) : PSp Tryz.prog 81 [.one (.t (.bool b)), .one (.t (I e))] (.one (.t (I (if b then 0 else e)))) := by
  refine k81.pureK (by simp) rfl rfl ?_
  cases b <;> simp -implicitDefEqProofs [-guardOk, -gval, pureEnd]
theorem CK.of {t : Ty} {ab : List Int} {id sid ver : Nat} {h h' : Hp} (hc : CK t ab id sid ver h) (h1 : h' id = h id) (h2 : h' sid = h sid) : CK t ab id sid ver h' :=
  ⟨h1.trans hc.obj, h2.trans hc.abs, hc.len⟩
theorem tyC_top (t : Ty) : ∀ x ∈ tyC t, (D.one x).top = [] := by
  intro x hx
  simp only [tyC, List.mem_cons, List.not_mem_nil, or_false] at hx
  rcases hx with rfl | rfl | rfl | rfl | rfl | rfl | rfl | rfl <;> rfl
theorem CK.look {t : Ty} {ab : List Int} {id sid ver : Nat} {h : Hp} (hc : CK t ab id sid ver h) {f : FuncId} {y : T} {r : D} (hs : ∀ h', CK t ab id sid ver h' → ∀ n', ISp Tryz.prog f h' n' [.one (.ptr ⟨id, 0, 9, 0, 0⟩), .one (.t y)] r h') :
    LookD Tryz.prog f [.one (.ptr ⟨id, 0, 9, 0, 0⟩), .one (.t y)] h r := by
  obtain ⟨o1, o2, o3, o4⟩ := objF hc.obj
  obtain ⟨p1, p2, p3, p4⟩ := objF hc.abs
  have hr : ∀ j, Ab.Reach h [.one (.ptr ⟨id, 0, 9, 0, 0⟩), .one (.t y)] j → j = id ∨ j = sid := by
    intro j hj
    induction hj with
    | top hx hid =>
      rename_i x j
      simp only [List.mem_cons, List.not_mem_nil, or_false] at hx
      rcases hx with rfl | rfl
      · left; simpa [D.top] using hid
      · simp [D.top] at hid
    | cell hj hrow hx hid ih =>
      rename_i j j' rr x
      rcases ih with rfl | rfl
      · rw [o2] at hrow
        simp only [List.mem_singleton] at hrow
        subst hrow
        rcases List.mem_append.1 hx with hx | hx
        · rw [tyC_top t x hx] at hid; cases hid
        · simp only [List.mem_singleton] at hx
          subst hx
          right; simpa [D.top] using hid
      · rw [p2] at hrow
        obtain ⟨a, _, rfl⟩ := List.mem_map.1 hrow
        simp only [List.mem_singleton] at hx
        subst hx
        simp [D.top] at hid
  have r1 : Ab.Reach h [.one (.ptr ⟨id, 0, 9, 0, 0⟩), .one (.t y)] id := .top (List.mem_cons_self ..) (by simp [D.top])
  have r2 : Ab.Reach h [.one (.ptr ⟨id, 0, 9, 0, 0⟩), .one (.t y)] sid := .cell r1 (by rw [o2]; exact List.mem_singleton.2 rfl) (List.mem_append.2 (.inr (List.mem_singleton.2 rfl))) (by simp [D.top])
  refine ⟨fun j hj => ?_, fun h' n' hh => hs h' (hc.of (hh id r1) (hh sid r2)) n'⟩
  rcases hr j hj with rfl | rfl
  · rw [hc.obj]; simp
  · rw [hc.abs]; simp
attribute [local simp] c63r0 c63r1 c63r2 c63r3 c63r4 c63r5 c63t6 c63t7 c63r6 c63r7 c63r8 c63r9 c63r10 c63r11 c63t14 c63t15 c63t16 c63r12 c63t18 c63t19 c63t20 c63t21 c63 in
theorem P63 (t : Ty) (ab : List Int) (id sid ver : Nat) (h : Hp) (hc : CK t ab id sid ver h) (i : Nat) (x : Nd) (a : Int) (hx : t.limits[i]? = some x) (hxs : x.s.size ≤ 9223372036854775807) (hl : t.limits.length ≤ 20) (ha : ab[i]? = some a) (n0 : Nat) :
    ISp Tryz.prog 63 h n0 [.one (.ptr ⟨id, 0, 9, 0, 0⟩), .one (.t (I i))] (.one (.t (I (nodeL t x (i + 1 == t.limits.length) a)))) h := by
  obtain ⟨rt, hrt⟩ : ∃ b, (i + 1 == t.limits.length) = b := ⟨_, rfl⟩
  rw [hrt]
  have hrtI : ((i : Int) == (t.limits.length : Int) - 1) = rt := by
    rw [← hrt, Bool.eq_iff_iff]; simp; omega
  have hw : IntKind.i64.wrap ((t.limits.length : Int) - 1) = (t.limits.length : Int) - 1 := wrap_i64 (by omega) (by omega)
  obtain ⟨R0, hR0⟩ : ∃ R, nodeL t x rt a = R := ⟨_, rfl⟩
  rw [hR0]
  refine ISp.ok fun ho => ?_
  have h1 := ltOf ho hc.obj
  have h2 := ltOf ho hc.abs
  refine k63.ispK (by simp) ?_
  obtain ⟨o1, o2, o3, o4⟩ := objF hc.obj
  obtain ⟨p1, p2, p3, p4⟩ := objF hc.abs
  have hi : i < t.limits.length := (List.getElem?_eq_some_iff.1 hx).1
  have hiI : (i : Int) < (t.limits.length : Int) := by omega
  obtain ⟨b7, e7⟩ : ∃ b, (x.k != 7) = b := ⟨_, rfl⟩
  have fin : ∀ (R : Int) (st : St), R = R0 → st.tmps 4 = .one (.t (I R)) → (∀ j, j < n0 → st.heap j = h j) → impEnd [.tmp 4] (.one (.t (I R0))) h n0 .ret st := fun R st hR hs hh => by
    subst hR
    exact impEnd_t (.inr rfl) hs hh ho
  have hne : ¬ id = n0 + 1 + 8 := by omega
  have hne2 : ¬ sid = n0 + 1 + 8 := by omega
  obtain ⟨sb, es⟩ : ∃ b, standsF t.kind x.k a = b := ⟨_, rfl⟩
  obtain ⟨E, hE⟩ : ∃ E, firstE [if b7 || rt then 0 else 28, if sb then 0 else 17] = E := ⟨_, rfl⟩
  have p79 := P79 [if b7 || rt then 0 else 28, if sb then 0 else 17] (by simp [short])
  rw [hE] at p79
  obtain ⟨b0, hb0⟩ : ∃ b, (b7 || rt) = b := ⟨_, rfl⟩
  have hR1 : (if E != 0 then E else if x.k == 0 then (if inBord x (bordF t.kind a) then 0 else 3) else if x.k == 1 then firstE [if textFitsF t x.s a then 0 else 17, if x.s.size ≤ 200 then 0 else 2] else 0) = R0 := by
    rw [← hR0, ← hE]; simp only [nodeL, e7, es]
  rw [hb0] at p79
  simp -implicitDefEqProofs [-guardOk, -gval, hne, o1, o2, o3, hi, hiI, rowAtM hx, Nd.row, e7, hrtI, hw, hb0, -List.getElem_map]
  refine callK.tree (P81 b0 28) rfl ?_
  simp -implicitDefEqProofs [-guardOk, -gval]
  refine callK.imp (P108 t ab id sid ver _ (hc.of (by simp [Hp.set, hne]) (by simp [Hp.set, hne2])) i x a hx ha _) ?_
  rw [es]
  simp -implicitDefEqProofs [-guardOk, -gval]
  refine callK.tree (P81 sb 17) rfl ?_
  simp -implicitDefEqProofs [-guardOk, -gval]
  refine callK.pure p79 (by simp) (by simp) ?_
  rcases eqCases E 0 with z | z
  · subst z
    rcases eqCases x.k 0 with k0 | k0
    · obtain ⟨B, hB⟩ : ∃ B, bordF t.kind a = B := ⟨_, rfl⟩
      obtain ⟨blo, bhi⟩ := B
      obtain ⟨c1, ec1⟩ : ∃ y, decide (x.lo ≤ x.hi) = y := ⟨_, rfl⟩
      obtain ⟨c2, ec2⟩ : ∃ y, decide (blo ≤ x.lo) = y := ⟨_, rfl⟩
      obtain ⟨c3, ec3⟩ : ∃ y, decide (x.hi ≤ bhi) = y := ⟨_, rfl⟩
      have hR2 : (if c1 && c2 && c3 then 0 else 3) = R0 := by
        rw [← hR1, hB]; simp [k0, inBord, ec1, ec2, ec3]
      simp -implicitDefEqProofs [-guardOk, -gval, k0]
      refine callK.imp (P109 t ab id sid ver _ (hc.of (by simp [Hp.set, hne]) (by simp [Hp.set, hne2])) i a ha _) ?_
      rw [hB]
      clear hE hR1
      cases c1 <;> cases c2 <;> cases c3
      all_goals simp -implicitDefEqProofs [-guardOk, -gval, ec1, ec2, ec3]
      all_goals refine callK.tree (P81 _ 3) rfl ?_
      all_goals simp -implicitDefEqProofs [-guardOk, -gval]
      all_goals exact fin _ _ hR2 (by exact rfl) (fun j hj => by simp only [Hp.set]; repeat rw [if_neg (by omega)])
    · rcases eqCases x.k 1 with k1 | k1
      · obtain ⟨tf, etf⟩ : ∃ b, textFitsF t x.s a = b := ⟨_, rfl⟩
        obtain ⟨w, ew⟩ : ∃ y, decide ((x.s.size : Int) ≤ 200) = y := ⟨_, rfl⟩
        have ew' : (if x.s.size ≤ 200 then (0 : Int) else 2) = if w then 0 else 2 := by
          rw [← ew]
          by_cases q : x.s.size ≤ 200
          · simp [q]; omega
          · simp [q]; omega
        obtain ⟨F, hF⟩ : ∃ F, firstE [if tf then 0 else 17, if w then 0 else 2] = F := ⟨_, rfl⟩
        have q79 := P79 [if tf then 0 else 17, if w then 0 else 2] (by simp [short])
        rw [hF] at q79
        have hR2 : F = R0 := by rw [← hR1, etf, ew', hF]; simp [k1]
        simp -implicitDefEqProofs [-guardOk, -gval, k1]
        refine callK.look (CK.look (hc.of (by simp [Hp.set, hne]) (by simp [Hp.set, hne2])) fun h' hc' n' => P110 t ab id sid ver h' hc' i x a hx hxs ha n') ?_
        rw [etf]
        simp -implicitDefEqProofs [-guardOk, -gval]
        refine callK.treeD (P81 tf 17) rfl ?_
        simp -implicitDefEqProofs [-guardOk, -gval, ew]
        refine callK.treeD (P81 w 2) rfl ?_
        simp -implicitDefEqProofs [-guardOk, -gval]
        refine callK.draw q79 (by simp) (by simp) (.inl rfl) ?_
        simp -implicitDefEqProofs [-guardOk, -gval]
        exact fin _ _ hR2 (by exact rfl) (fun j hj => by simp [Hp.set]; omega)
      · simp -implicitDefEqProofs [-guardOk, -gval, k0, k1]
        exact fin 0 _ (by rw [← hR1]; simp [k0, k1]) (by exact rfl) (fun j hj => by simp [Hp.set]; omega)
  · simp -implicitDefEqProofs [-guardOk, -gval, z]
    exact fin E _ (by rw [← hR1]; simp [z]) (by exact rfl) (fun j hj => by simp [Hp.set]; omega)
end Go.Proofs.YtdpbobkcbakpfaaGreatDoor

namespace Go.Proofs.YtdpbobkcbakpfaaGreatDoor
open Go Go.Ab
set_option maxRecDepth 100000
set_option maxHeartbeats 4000000
attribute [local simp] tagsT fieldsT typesT nodesT valsT textsT intsT tyC fdC vlC ndC hset_hset D.isPt D.pt
theorem firstAt_none : ∀ {l : List Int}, l.findIdx? (fun e => e != 0) = none → firstAt l = ((l.length : Int), 0)
  | [], _ => rfl
  | e :: r, h => by
    rw [List.findIdx?_eq_none_iff] at h
    have he : e = 0 := by simpa using h e (by simp)
    have ih := firstAt_none (l := r) (by rw [List.findIdx?_eq_none_iff]; exact fun x hx => h x (by simp [hx]))
    simp only [firstAt, he, beq_self_eq_true, if_true, ih, List.length_cons]
    simp
theorem firstAt_some : ∀ {l : List Int} {i : Nat} {e : Int}, l.findIdx? (fun e => e != 0) = some i → l[i]? = some e → firstAt l = ((i : Int), e)
  | [], i, e, h, _ => by simp at h
  | x :: r, i, e, h, he => by
    rw [List.findIdx?_cons] at h
    by_cases hx : x = 0
    · simp only [hx, bne_self_eq_false, Bool.false_eq_true, if_false, Option.map_eq_some_iff] at h
      obtain ⟨j, hj, rfl⟩ := h
      have ih := firstAt_some (l := r) hj (by simpa using he)
      simp only [firstAt, hx, beq_self_eq_true, if_true, ih]
      simp
    · have hb : (x != 0) = true := by simpa using hx
      simp only [hb, if_true, Option.some.injEq] at h
      subst h
      have : x = e := by simpa using he
      subst this
      simp [firstAt, hx]
theorem errsL_at {t : Ty} {f : Nat → Int} {i : Nat} {y : Int} (h : (errsL t f)[i]? = some y) : ∃ x, t.limits[i]? = some x ∧ y = nodeL t x (i + 1 == t.limits.length) (f i) := by
  simp only [errsL, List.getElem?_mapIdx, Option.map_eq_some_iff] at h
  obtain ⟨x, hx, rfl⟩ := h
  exact ⟨x, hx, rfl⟩
theorem errsL_len {t : Ty} {f : Nat → Int} : (errsL t f).length = t.limits.length := by simp [errsL]
def chkL (t : Ty) : Int × Int := if t.check != 0 then (0, t.check) else ownL t
theorem tree_of_check (t : Ty) (h : t.check = 0) : isTreeF t.limits = true := by
  have h1 : t.typeErr = 0 := by
    rw [Ty.check] at h
    split at h
    · cases h
    · exact h
  rw [Ty.typeErr_eq] at h1
  have h2 : t.partsErr = 0 := by
    split at h1
    · rename_i e; rw [h1] at e; simp at e
    · split at h1
      · rename_i e; rw [h1] at e; simp at e
      · rename_i e; simpa using e
  have h3 := (parts_zero t h2).2
  rw [Ty.inShape] at h3
  exact ((Bool.and_eq_true _ _).mp h3).2
theorem repl_map (n : Nat) : List.replicate n [A.t (I 0)] = (List.replicate n (0 : Int)).map fun a => [A.t (I a)] := by simp
attribute [local simp] c14r0 c14r1 c14r2 c14r3 c14t4 c14t5 c14r4 c14r5 c14t8 c14r6 c14r7 c14r8 c14r9 c14r10 c14r11 c14r12 c14r13 c14t17 c14t18 c14t19 c14r14 c14r15 c14r16 c14r17 c14r18 c14r19 c14r20 c14t27 c14t28 c14t29 c14r21 c14t31 c14t32 c14b33 c14t34 c14r22 c14t36 c14t37 c14t38 c14t39 c14t40 c14t41 c14t42 c14 in
theorem tail14 (t : Ty) (hn : t.narrow = true) (h0 : isTreeF t.limits = true) (hl0 : ¬ t.limits.length = 0) (a : Int) (ha : place0 t.kind = a) (st : St) (h1 : st.tmps 1 = .one (.ptr ⟨0, 0, 8, 0, 0⟩)) (hh0 : st.heap 0 = some (.arr 0 false 8 [tyC t]))
    (h5 : st.tmps 5 = .one (.ptr ⟨18, 0, 9, 0, 0⟩)) (h6 : st.tmps 6 = .one (.t (I a))) (hc : CK t (List.replicate t.limits.length 0) 18 16 0 st.heap) (hnx : 18 < st.nx) :
    awpK Tryz.prog 61 (pureEnd [.tmp 2, .tmp 3] (.tup [.one (.t (I (firstAt (errsL t (lk (placesL t)))).1)), .one (.t (I (firstAt (errsL t (lk (placesL t)))).2))])) c14t37 [] st := by
  obtain ⟨R0, hR0⟩ : ∃ R, firstAt (errsL t (lk (placesL t))) = R := ⟨_, rfl⟩
  rw [hR0]
  obtain ⟨hlen, bg, T⟩ := isTree_ranges h0
  obtain ⟨_, _, _, _, _, hns, _, _⟩ := (Ty.narrow_iff t).1 hn
  have hw : IntKind.i64.wrap ((t.limits.length : Int) - 1) = ((t.limits.length - 1 : Nat) : Int) := by rw [wrap_i64 (by omega) (by omega)]; omega
  obtain ⟨o1, o2, o3, o4⟩ := objF hh0
  have pl : placeF insL t.limits t.limits.length (t.limits.length - 1) a (List.replicate t.limits.length 0) = placesL t := by rw [placesL, ha]
  have p62 := fun n => P62 t bg T hlen (fun x hx => by have := (hns x hx).2; simp only [short]; omega) 18 16 0 t.limits.length (t.limits.length - 1) a (List.replicate t.limits.length 0) st.heap n (by omega) (by omega) hc
  rw [pl] at p62
  have hpl : (placesL t).length = t.limits.length := by rw [placesL, placeF_len]; simp
  have hc2 : CK t (placesL t) 18 16 0 (putAb st.heap 16 0 (placesL t)) := hc.put (by rw [hpl]; simp)
  have hz : (putAb st.heap 16 0 (placesL t)) 0 = some (.arr 0 false 8 [tyC t]) := by
    simp only [putAb, Hp.set]; rw [if_neg (by omega)]; exact hh0
  simp -implicitDefEqProofs [-guardOk, -gval, h1, h5, h6, o1, o2, o3, hw]
  refine callK.imp (p62 _) ?_
  generalize putAb st.heap 16 0 (placesL t) = h2 at *
  obtain ⟨o1, o2, o3, o4⟩ := objF hz
  simp -implicitDefEqProofs [-guardOk, -gval, h1, o1, o2, o3]
  refine loopIdx (errsL t (lk (placesL t))) (fun e => e != 0) [1, 5, 46] [0, 16, 18] (fun i st => st.tmps 47 = .one (.t (I i))) (by rw [short, errsL_len]; omega) ?_ ?_ ?_
  · exact ⟨by simp, by simp, by simp; omega⟩
  · intro i y st' hi hiI hw hg hy hany hx hk hh
    simp [h1, h5] at hk
    rw [errsL_len] at hi hiI
    obtain ⟨x, hxl, hyx⟩ := errsL_at hg
    simp at hh
    obtain ⟨⟨q0, n0⟩, ⟨q16, n16⟩, q18, n18⟩ := hh
    have hal : (placesL t)[i]? = some (lk (placesL t) i) := by
      have : i < (placesL t).length := by omega
      simp [lk, List.getElem?_eq_getElem this]
    have p63 := fun n => P63 t (placesL t) 18 16 0 st'.heap (hc2.of q18 q16) i x (lk (placesL t) i) hxl (by have := (hns x (List.mem_of_getElem? hxl)).1; omega) hlen hal n
    rw [← hyx] at p63
    simp -implicitDefEqProofs [-guardOk, -gval, hx, hk, hiI]
    refine callK.imp (p63 _) ?_
    rcases eqCases y 0 with z | z
    · subst z
      simp -implicitDefEqProofs [-guardOk, -gval, hx, hk, hw, q0, q16, q18]
      exact ⟨⟨h1.symm, h5.symm⟩, by omega, by omega⟩
    · have hf := firstAt_some (hany z.2.2.2.2.1) hg
      rw [hf] at hR0
      subst hR0
      simp -implicitDefEqProofs [-guardOk, -gval, z, pureEnd]
  · intro st' hany hx hk hh
    simp [h1, h5] at hk
    simp at hh
    rw [errsL_len] at hx
    have hf := firstAt_none hany
    rw [hf, errsL_len] at hR0
    subst hR0
    obtain ⟨o1, o2, o3, o4⟩ := objF (hh.1.1.trans hz)
    simp -implicitDefEqProofs [-guardOk, -gval, hx, hk, o1, o2, o3, pureEnd]
attribute [local simp] c14r0 c14r1 c14r2 c14r3 c14t4 c14t5 c14r4 c14r5 c14t8 c14r6 c14r7 c14r8 c14r9 c14r10 c14r11 c14r12 c14r13 c14t17 c14t18 c14t19 c14r14 c14r15 c14r16 c14r17 c14r18 c14r19 c14r20 c14t27 c14t28 c14t29 c14r21 c14t31 c14t32 c14b33 c14t34 c14r22 c14t36 c14t38 c14t39 c14t40 c14t41 c14t42 c14 in
theorem P14 (t : Ty) (hn : t.narrow = true) : PSp Tryz.prog 14 [.agg (tyC t)] (.tup [.one (.t (I (chkL t).1)), .one (.t (I (chkL t).2))]) := by
  have hfine := Ty.narrow_fine t hn
  obtain ⟨R0, hR0⟩ : ∃ R, chkL t = R := ⟨_, rfl⟩
  rw [hR0]
  refine k14.pureK (by simp) (by simp [D.closed, A.closed]) rfl ?_
  simp -implicitDefEqProofs [-guardOk, -gval]
  have p59 := P59 t hn
  refine callK.tree p59 rfl ?_
  rcases eqCases t.check 0 with z | z
  · rw [z]
    have hR1 : ownL t = R0 := by rw [← hR0]; simp [chkL, z]
    have htree := tree_of_check t z
    obtain ⟨hlen, bg, T⟩ := isTree_ranges htree
    by_cases hl0 : t.limits.length = 0
    · have hl0' : t.limits = [] := List.length_eq_zero_iff.1 hl0
      have : R0 = (0, 0) := by rw [← hR1]; simp [ownL, hl0]
      subst this
      simp -implicitDefEqProofs [-guardOk, -gval, hl0', pureEnd]
    · have hl0I : ((t.limits.length : Int) == 0) = false := by simpa using hl0
      have b1 : 8 * (t.limits.length : Int) ≤ 281474976710656 := by omega
      have b2 : (t.limits.length : Int) ≤ 9223372036854775807 := by omega
      simp -implicitDefEqProofs [-guardOk, -gval, hl0I, b1, b2]
      refine callK.tree (P60 t.kind) rfl ?_
      have hc : ∀ {h : Hp}, h 18 = some (.arr 0 false 9 [tyC t ++ [.ref 16 0 0 t.limits.length 1 true]]) → h 16 = some (.arr 0 false 1 (List.replicate t.limits.length [.t (I 0)])) → CK t (List.replicate t.limits.length 0) 18 16 0 h := fun e1 e2 => ⟨by simpa using e1, by simpa using e2, by simp⟩
      have hO : ∀ a, place0 t.kind = a → (place0 t.kind == 0 && t.kind != 2) = false → firstAt (errsL t (lk (placesL t))) = R0 := fun a _ h2 => by
        rw [← hR1]; simp [ownL, hl0, h2]
      obtain ⟨s, es⟩ : ∃ s, (t.kind == 6 || t.kind == 4 || t.kind == 5) = s := ⟨_, rfl⟩
      rw [es]
      cases s
      · simp -implicitDefEqProofs [-guardOk, -gval]
        refine callK.tree (P61 t.kind) rfl ?_
        obtain ⟨l, el⟩ : ∃ l, (t.kind == 11 || t.kind == 12) = l := ⟨_, rfl⟩
        rw [el]
        cases l
        · rcases eqCases t.kind 2 with k2 | k2
          · have hp : place0 t.kind = 0 := by simp [place0, k2]
            rw [← hO 0 hp (by simp [k2])]
            simp -implicitDefEqProofs [-guardOk, -gval, k2]
            exact tail14 t hn htree hl0 0 hp _ (by simp) (by simp [Hp.set, k2]) (by simp) (by simp) (hc (by simp [Hp.set, k2]) (by simp [Hp.set])) (by simp)
          · have hp : place0 t.kind = 0 := by simp only [place0, es, el]; rfl
            have : R0 = (0, 4) := by rw [← hR1]; simp [ownL, hl0, hp, k2]
            subst this
            simp -implicitDefEqProofs [-guardOk, -gval, k2, pureEnd]
        · have hp : place0 t.kind = 2 := by simp only [place0, es, el]; rfl
          rw [← hO 2 hp (by rw [hp]; rfl)]
          simp -implicitDefEqProofs [-guardOk, -gval]
          exact tail14 t hn htree hl0 2 hp _ (by simp) (by simp [Hp.set]) (by simp) (by simp) (hc (by simp [Hp.set]) (by simp [Hp.set])) (by simp)
      · have hp : place0 t.kind = 1 := by simp only [place0, es]; rfl
        rw [← hO 1 hp (by rw [hp]; rfl)]
        simp -implicitDefEqProofs [-guardOk, -gval]
        exact tail14 t hn htree hl0 1 hp _ (by simp) (by simp [Hp.set]) (by simp) (by simp) (hc (by simp [Hp.set]) (by simp [Hp.set])) (by simp)
  · have : R0 = (0, t.check) := by rw [← hR0]; simp [chkL, z]
    subst this
    simp -implicitDefEqProofs [-guardOk, -gval, z, pureEnd]
end Go.Proofs.YtdpbobkcbakpfaaGreatDoor

namespace Go.Proofs.YtdpbobkcbakpfaaGreatDoor
open Go Go.Ab
set_option maxRecDepth 100000
set_option maxHeartbeats 4000000
attribute [local simp] tagsT fieldsT typesT nodesT valsT textsT intsT tyC fdC vlC ndC hset_hset D.isPt D.pt
def AB (t : Ty) (ab : List Int) (sid : Nat) (st : St) : Prop := st.tmps 1 = .one (.ptr ⟨0, 0, 8, 0, 0⟩) ∧ st.heap 0 = some (.arr 0 false 8 [tyC t]) ∧ st.tmps 3 = .one (.ref sid 0 0 ab.length 1 true) ∧ st.heap sid = some (.arr 0 false 1 (ab.map fun a => [.t (I a)])) ∧ sid < st.nx ∧ 0 < sid
theorem lk_at {s : List Int} {i : Nat} (h : i < s.length) : s[i]? = some (lk s i) := by
  simp [lk, List.getElem?_eq_getElem h]
theorem aset {s : List Int} {c : Nat} {v : Int} : ((s.map fun a => [A.t (I a)]).set c [A.t (I v)]) = (s.set c v).map fun a => [A.t (I a)] := by simp [List.map_set]
theorem AB.put {t : Ty} {s : List Int} {sid : Nat} {st : St} (h : AB t s sid st) {tm : Nat → D} {nx c : Nat} {v : Int} (h1 : tm 1 = st.tmps 1) (h3 : tm 3 = st.tmps 3) (hn : st.nx ≤ nx) :
    AB t (s.set c v) sid ⟨tm, st.heap.set sid (.arr 0 false 1 ((s.map fun a => [.t (I a)]).set c [.t (I v)])), nx⟩ := by
  obtain ⟨b1, b2, b3, b4, b5, b6⟩ := h
  have u : ¬ 0 = sid := by omega
  exact ⟨h1.trans b1, by simp [Hp.set, u, b2], by rw [List.length_set]; exact h3.trans b3, by simp [Hp.set, List.map_set], Nat.lt_of_lt_of_le b5 hn, b6⟩
attribute [local simp] c114r0 c114r1 c114r2 c114r3 c114t4 c114r5 c114r6 c114t7 c114r7 c114r8 c114r9 c114t11 c114r11 c114r12 c114r13 c114t15 c114r14 c114r15 c114t18 c114r16 c114t20 c114t21 c114r10 c114t23 c114b24 c114t25 c114t26 c114t27 c114r4 c114t29 c114b30 c114t31 c114r17 c114t33 c114t34 c114 in
theorem in114 (t : Ty) (ab : List Int) (sid i : Nat) (x : Nd) (hx : t.limits[i]? = some x) (hl : ab.length = t.limits.length) (_hlen : t.limits.length ≤ 20) (hargs : ∀ a ∈ x.args, ∃ c : Nat, a = (c : Int) ∧ c < i) (hsa : short x.args) (st : St) (h : AB t ab sid st) (h4 : st.tmps 4 = .one (.t (I i))) (A : Exit → St → Prop) (ks : List KF)
    (rest : ∀ st', AB t (aboutStep insR x i ab) sid st' → st'.tmps 4 = .one (.t (I i)) → retK Tryz.prog 61 A ks .normal st') : awpK Tryz.prog 61 A c114t27 ks st := by
  obtain ⟨b1, b2, b3, b4, b5, b6⟩ := h
  obtain ⟨o1, o2, o3, o4⟩ := objF b2
  have hi : i < t.limits.length := (List.getElem?_eq_some_iff.1 hx).1
  have hiI : (i : Int) < (t.limits.length : Int) := by omega
  simp -implicitDefEqProofs [-guardOk, -gval, b1, h4, o1, o2, o3, hi, hiI, rowAtM hx, Nd.row, -List.getElem_map]
  refine loopFold x.args (fun b (c : Int) => b.set c.toNat (insR x.k (lk b i))) ab [] [] (fun k s st' => (∃ N, st'.tmps 5 = .one (.ptr ⟨N, 0, 5, 0, 0⟩) ∧ st'.heap N = some (.arr 0 false 5 [ndC x]) ∧ N < st'.nx ∧ N ≠ sid ∧ N ≠ 0) ∧ AB t s sid st' ∧ st'.tmps 4 = .one (.t (I i)) ∧ st'.tmps 6 = .one (.t (I k)) ∧ s.length = ab.length) hsa ?_ ?_ ?_
  · refine ⟨⟨⟨_, by exact rfl, ?_⟩, ?_⟩, by simp, by simp⟩
    · exact ⟨by simp [Hp.set], by simp, by omega, by omega⟩
    · have u1 : ¬ sid = st.nx + 5 := by omega
      exact ⟨⟨by simp [b1], by simp [Hp.set, b2], by simp [b3], by simp [Hp.set, b4, u1], by simp; omega, b6⟩, by simp [h4], by simp, rfl⟩
  · rintro k y s st' hk hkI hw hg hy hs ⟨⟨N, n5, nh, nnx, nsid, n0⟩, ⟨b1, b2, b3, b4, b5, b6⟩, h4, h6, hsl⟩ _ _
    obtain ⟨c, rfl, hci⟩ := hargs y hy
    obtain ⟨o1, o2, o3, o4⟩ := objF b2
    obtain ⟨p1, p2, p3, p4⟩ := objF nh
    obtain ⟨q1, q2, q3, q4⟩ := objF b4
    have his : i < s.length := by omega
    have hisI : (i : Int) < (s.length : Int) := by omega
    have hcs : c < s.length := by omega
    have hcsI : (c : Int) < (s.length : Int) := by omega
    have hsi := lk_at his
    have ha0 : s[c]? = some (s[c]'hcs) := List.getElem?_eq_getElem hcs
    generalize lk s i = v at *
    rcases eqCases x.k 2 with k2 | k2
    · simp -implicitDefEqProofs [-guardOk, -gval, b3, h4, h6, n5, p1, p2, p3, q1, q2, q3, q4, hk, hkI, rowAtM hg, his, hisI, hcs, hcsI, rowAtA hsi, rowAtA ha0, k2, hw, -List.getElem_map]
      rw [show insR 2 v = 5 by simp [insR]]
      exact ⟨⟨by rw [hset_ne nsid, nh]; simp [k2], by omega, nsid, n0⟩, AB.put ⟨b1, b2, b3, b4, b5, b6⟩ (by simp) (by simp) (by omega), hsl⟩
    · rcases eqCases x.k 3 with k3 | k3
      · simp -implicitDefEqProofs [-guardOk, -gval, b3, h4, h6, n5, p1, p2, p3, q1, q2, q3, q4, hk, hkI, rowAtM hg, his, hisI, hcs, hcsI, rowAtA hsi, rowAtA ha0, k3, hw, -List.getElem_map]
        rw [show insR 3 v = 6 by simp [insR]]
        exact ⟨⟨by rw [hset_ne nsid, nh]; simp [k3], by omega, nsid, n0⟩, AB.put ⟨b1, b2, b3, b4, b5, b6⟩ (by simp) (by simp) (by omega), hsl⟩
      · simp -implicitDefEqProofs [-guardOk, -gval, b3, h4, h6, n5, p1, p2, p3, q1, q2, q3, q4, hk, hkI, rowAtM hg, his, hisI, hcs, hcsI, rowAtA hsi, rowAtA ha0, k2, k3, hw, -List.getElem_map]
        rw [show insR x.k v = v by simp [insR, k2, k3]]
        exact ⟨⟨by rw [hset_ne nsid, nh]; simp, by omega, nsid, n0⟩, AB.put ⟨b1, b2, b3, b4, b5, b6⟩ (by simp) (by simp) (by omega), hsl⟩
  · rintro st' ⟨⟨N, n5, nh, nnx, nsid, n0⟩, hab, h4, h6, hsl⟩ _ _
    obtain ⟨p1, p2, p3, p4⟩ := objF nh
    simp -implicitDefEqProofs [-guardOk, -gval, h6, n5, p1, p2, p3]
    refine rest _ ?_ ?_
    · obtain ⟨b1, b2, b3, b4, b5, b6⟩ := hab
      exact ⟨by simp [b1], by simp [b2], by simp [b3, aboutStep], by simp [b4, aboutStep], by simp; omega, b6⟩
    · simp [h4]
attribute [local simp] c114r0 c114r1 c114r2 c114r3 c114t4 c114r5 c114r6 c114t7 c114r7 c114r8 c114r9 c114t11 c114r11 c114r12 c114r13 c114t15 c114r14 c114r15 c114t18 c114r16 c114t20 c114t21 c114r10 c114t23 c114b24 c114t25 c114t26 c114r4 c114t29 c114b30 c114t31 c114r17 c114t33 c114t34 c114 in
theorem P114 (t : Ty) (hn : t.narrow = true) (h0 : isTreeF t.limits = true) : PSp Tryz.prog 114 [.agg (tyC t)] (.one (.t (intsT (aboutsR t)))) := by
  obtain ⟨hlen, bg, T⟩ := isTree_ranges h0
  obtain ⟨_, _, _, _, _, hns, _, _⟩ := (Ty.narrow_iff t).1 hn
  have p49 : PSp Tryz.prog 49 [.one (.t (I t.kind))] (.one (.t (I (about0 t.kind)))) := P49 t.kind
  have hw : IntKind.i64.wrap ((t.limits.length : Int) - 1) = (t.limits.length : Int) - 1 := wrap_i64 (by omega) (by omega)
  have b1 : 8 * (t.limits.length : Int) ≤ 281474976710656 := by omega
  have b2 : (t.limits.length : Int) ≤ 9223372036854775807 := by omega
  refine k114.pureK (by simp) (by simp [D.closed, A.closed]) (by simp [D.closed, A.closed]) ?_
  simp -implicitDefEqProofs [-guardOk, -gval, b1, b2, hw]
  refine W.loopK (fun k st => ∃ ab, AB t ab 5 st ∧ st.tmps 4 = .one (.t (I ((k : Int) - 1))) ∧ k ≤ t.limits.length ∧ ab.length = t.limits.length ∧ aboutsGo insR t.limits k (if k = t.limits.length then ab.set (t.limits.length - 1) (about0 t.kind) else ab) = aboutsR t) t.limits.length ⟨List.replicate t.limits.length 0, ⟨by simp, by simp [Hp.set], by simp, by simp [Hp.set], by simp, by simp⟩, by simp, by simp, by simp, by simp [aboutsR]⟩ ?_
  rintro k st ⟨ab, hab, h4, hk, hl, hgo⟩
  rcases k with - | i
  · have e4 : ((0 : Nat) : Int) - 1 = -1 := by omega
    rw [e4] at h4
    obtain ⟨c1, c2, c3, c4, c5, c6⟩ := hab
    have eab : ab = aboutsR t := by
      rw [← hgo, aboutsGo]
      split
      · rename_i e
        have : ab = [] := List.length_eq_zero_iff.1 (by omega)
        rw [this]; rfl
      · rfl
    subst eab
    simp -implicitDefEqProofs [-guardOk, -gval, h4, c3, pureEnd]
    exact frz_new (rs := (aboutsR t).map fun a => [I a]) (by rw [c4]; simp [Function.comp_def]) (by simp)
  · have e4 : ((i + 1 : Nat) : Int) - 1 = i := by omega
    rw [e4] at h4
    have hwi : IntKind.i64.wrap ((i : Int) - 1) = (i : Int) - 1 := wrap_i64 (by omega) (by omega)
    have hx : t.limits[i]? = some (t.limits[i]'(by omega)) := List.getElem?_eq_getElem _
    generalize t.limits[i]'(by omega) = x at hx
    have hargs : ∀ a ∈ x.args, ∃ c : Nat, a = (c : Int) ∧ c < i := fun a ha => by
      obtain ⟨c, q1, q2, _⟩ := (T.node i x hx).arg a ha
      exact ⟨c, q1, q2⟩
    have hsa : short x.args := by have := (hns x (List.mem_of_getElem? hx)).2; simp only [short]; omega
    have fin : ∀ ab1 : List Int, ab1.length = t.limits.length → aboutsGo insR t.limits (i + 1) ab1 = aboutsR t → ∀ st', AB t (aboutStep insR x i ab1) 5 st' → ∀ (tm : Nat → D) (nx' : Nat), tm 1 = st'.tmps 1 → tm 3 = st'.tmps 3 → st'.nx ≤ nx' →
        ∃ k' : Nat, k' < i + 1 ∧ ∃ ab, AB t ab 5 ⟨tm, st'.heap, nx'⟩ ∧ (i : Int) = (k' : Int) ∧ k' ≤ t.limits.length ∧ ab.length = t.limits.length ∧ aboutsGo insR t.limits k' (if k' = t.limits.length then ab.set (t.limits.length - 1) (about0 t.kind) else ab) = aboutsR t := by
      intro ab1 hl1 hg1 st' hab' tm nx' g1 g3 hn'
      obtain ⟨c1, c2, c3, c4, c5, c6⟩ := hab'
      refine ⟨i, by omega, aboutStep insR x i ab1, ⟨g1.trans c1, c2, g3.trans c3, c4, Nat.lt_of_lt_of_le c5 hn', c6⟩, rfl, by omega, ?_, ?_⟩
      · rw [(aboutStep_spec (f := insR) (x := x) (i := i) (ab := ab1) (by omega) hargs).1, hl1]
      · rw [if_neg (by omega)]
        rw [aboutsGo, hx] at hg1
        exact hg1
    by_cases hlast : i + 1 = t.limits.length
    · rw [if_pos hlast] at hgo
      have hb : ((i : Int) == (t.limits.length : Int) - 1) = true := by simp; omega
      obtain ⟨c1, c2, c3, c4, c5, c6⟩ := hab
      obtain ⟨o1, o2, o3, o4⟩ := objF c2
      obtain ⟨q1, q2, q3, q4⟩ := objF c4
      have his : i < ab.length := by omega
      have hisI : (i : Int) < (ab.length : Int) := by omega
      have ha0 : ab[i]? = some (ab[i]'his) := List.getElem?_eq_getElem his
      simp -implicitDefEqProofs [-guardOk, -gval, h4, c1, c3, hl, hw, hb, o1, o2, o3]
      refine callK.tree p49 rfl ?_
      simp -implicitDefEqProofs [-guardOk, -gval, hl, q1, q2, q3, q4, ha0, -List.getElem_map]
      refine ⟨by omega, ?_⟩
      refine in114 t (ab.set i (about0 t.kind)) 5 i x hx (by simp [hl]) hlen hargs hsa _ ?_ ?_ _ _ fun st' hab' h4' => ?_
      · have c3' : st.tmps 3 = .one (.ref 5 0 0 ab.length 1 true) := c3
        refine AB.put ⟨c1, c2, c3', c4, c5, c6⟩ ?_ ?_ ?_
        · simp
        · simp
        · omega
      · simp [h4]
      · simp -implicitDefEqProofs [-guardOk, -gval, h4', hwi]
        refine fin (ab.set i (about0 t.kind)) (by simp [hl]) ?_ st' hab' _ _ ?_ ?_ ?_
        · have e : i = t.limits.length - 1 := by omega
          rw [← e] at hgo
          exact hgo
        · simp
        · simp
        · omega
    · rw [if_neg hlast] at hgo
      have hb : ((i : Int) == (t.limits.length : Int) - 1) = false := by simp; omega
      obtain ⟨c1, c2, c3, c4, c5, c6⟩ := hab
      simp -implicitDefEqProofs [-guardOk, -gval, h4, c3, hl, hw, hb]
      refine in114 t ab 5 i x hx hl hlen hargs hsa _ ?_ ?_ _ _ fun st' hab' h4' => ?_
      · exact ⟨by simp [c1], by simp [c2], by simp [c3], by simp [c4], by first | (simp; done) | (simp; omega), c6⟩
      · simp [h4]
      · simp -implicitDefEqProofs [-guardOk, -gval, h4', hwi]
        refine fin ab hl hgo st' hab' _ _ ?_ ?_ ?_
        · simp
        · simp
        · omega
end Go.Proofs.YtdpbobkcbakpfaaGreatDoor

namespace Go.Proofs.YtdpbobkcbakpfaaGreatDoor
open Go Go.Ab
set_option maxRecDepth 100000
set_option maxHeartbeats 4000000
attribute [local simp] tagsT fieldsT typesT nodesT valsT textsT intsT tyC fdC vlC ndC hset_hset D.isPt D.pt
theorem errsQ_at {t : Ty} {f : Nat → Int} {i : Nat} {y : Int} (h : (errsQ t f)[i]? = some y) : ∃ x, t.limits[i]? = some x ∧ y = nodeQ t x (i + 1 == t.limits.length) (f i) := by
  simp only [errsQ, List.getElem?_mapIdx, Option.map_eq_some_iff] at h
  obtain ⟨x, hx, rfl⟩ := h
  exact ⟨x, hx, rfl⟩
theorem errsQ_len {t : Ty} {f : Nat → Int} : (errsQ t f).length = t.limits.length := by simp [errsQ]
theorem aboutsR_len {t : Ty} (h0 : isTreeF t.limits = true) : (aboutsR t).length = t.limits.length := by
  obtain ⟨hlen, bg, T⟩ := isTree_ranges h0
  exact (aboutsGo_spec (f := insR) T t.limits.length _ (Nat.le_refl _) (by simp) ⟨fun p y p1 p2 py c hc => by
    have := (List.getElem?_eq_some_iff.1 py).1
    omega⟩).1
attribute [local simp] c68r0 c68r1 c68r2 c68t3 c68r3 c68r4 c68r5 c68t7 c68r7 c68r8 c68r9 c68t11 c68r10 c68r11 c68t14 c68r12 c68r13 c68t17 c68r14 c68r15 c68r16 c68r17 c68t22 c68t23 c68t24 c68t25 c68t26 c68t27 c68t28 c68r6 c68t30 c68b31 c68t32 c68r18 c68t34 c68t35 c68t36 c68 in
theorem tail68 (t : Ty) (hn : t.narrow = true) (h0 : isTreeF t.limits = true) (st : St) (h1 : st.tmps 1 = .one (.ptr ⟨0, 0, 8, 0, 0⟩)) (hh0 : st.heap 0 = some (.arr 0 false 8 [tyC t])) (_hnx : 0 < st.nx) :
    awpK Tryz.prog 82 (pureEnd [.tmp 2, .tmp 3] (.tup [.one (.t (I (firstAt (errsQ t (lk (aboutsR t)))).1)), .one (.t (I (firstAt (errsQ t (lk (aboutsR t)))).2))])) c68t35 [] st := by
  obtain ⟨R0, hR0⟩ : ∃ R, firstAt (errsQ t (lk (aboutsR t))) = R := ⟨_, rfl⟩
  rw [hR0]
  obtain ⟨hlen, bg, T⟩ := isTree_ranges h0
  obtain ⟨_, _, _, _, _, hns, _, _⟩ := (Ty.narrow_iff t).1 hn
  have p114 := P114 t hn h0
  have hal := aboutsR_len h0
  obtain ⟨o1, o2, o3, o4⟩ := objF hh0
  generalize aboutsR t = ab at *
  simp -implicitDefEqProofs [-guardOk, -gval, h1, o1, o2, o3]
  refine callK.tree p114 rfl ?_
  simp -implicitDefEqProofs [-guardOk, -gval]
  refine loopIdx (errsQ t (lk ab)) (fun e => e != 0) [1, 4] [0] (fun i st => st.tmps 5 = .one (.t (I i))) (by rw [short, errsQ_len]; omega) ?_ ?_ ?_
  · exact ⟨by simp, by simp, by first | (simp; done) | (simp; omega)⟩
  · intro i y st' hi hiI hw hg hy hany hx hk hh
    simp [h1] at hk
    simp at hh
    rw [errsQ_len] at hi hiI
    obtain ⟨x, hxl, hyx⟩ := errsQ_at hg
    obtain ⟨o1, o2, o3, o4⟩ := objF (hh.1.trans hh0)
    have hb : ab[i]? = some (lk ab i) := lk_at (by omega)
    generalize lk ab i = b at *
    obtain ⟨rt, hrt⟩ : ∃ r, (i + 1 == t.limits.length) = r := ⟨_, rfl⟩
    rw [hrt] at hyx
    have hwl : IntKind.i64.wrap ((t.limits.length : Int) - 1) = (t.limits.length : Int) - 1 := wrap_i64 (by omega) (by omega)
    have hrtI : decide ((i : Int) < (t.limits.length : Int) - 1) = !rt := by
      rw [← hrt, Bool.eq_iff_iff]; simp; omega
    have p115 : PSp Tryz.prog 115 [.one (.t (I x.k)), .one (.t (I b))] (.one (.t (.bool (standsR x.k b)))) := P115 x.k b
    have p116 := P116 x b t.kind
    have p117 := P117 t x.s b (by have := (hns x (List.mem_of_getElem? hxl)).1; omega)
    have hne : ∀ k, ¬ 0 = st'.nx + k := fun k => by omega
    have stop : ∀ e : Int, (e != 0) = true → y = e → R0 = ((i : Int), e) := fun e h1 h2 => by
      subst h2
      rw [← hR0]; exact firstAt_some (hany h1) hg
    have onz : (st'.heap 0 = st.heap 0) := hh.1
    have nz0 : 0 < st'.nx := hh.2
    clear hany
    rcases eqCases x.k 7 with k7 | k7
    · cases rt
      · have e := stop 28 rfl (by rw [hyx]; simp [nodeQ, k7])
        subst e
        simp -implicitDefEqProofs [-guardOk, -gval, hx, hk, hi, hiI, rowAtM hxl, Nd.row, o1, o2, o3, hal, hwl, hrtI, k7, -List.getElem_map]
        simp -implicitDefEqProofs [-guardOk, -gval, pureEnd]
      · have ey : y = 0 := by rw [hyx]; simp [nodeQ, k7, standsR]
        have es : standsR x.k b = true := by simp [standsR, k7]
        rw [es, k7] at p115
        simp -implicitDefEqProofs [-guardOk, -gval, hx, hk, hi, hiI, rowAtM hxl, rowAtM hb, Nd.row, o1, o2, o3, hal, hwl, hrtI, k7, -List.getElem_map]
        refine callK.treeD p115 rfl ?_
        simp -implicitDefEqProofs [-guardOk, -gval, hx, hk, hw, ey]
        exact ⟨h1.symm, by rw [hset_ne (by omega)]; exact onz⟩
    · obtain ⟨sb, es⟩ : ∃ s, standsR x.k b = s := ⟨_, rfl⟩
      rw [es] at p115
      cases sb
      · have e := stop 17 rfl (by rw [hyx]; simp [nodeQ, k7, es])
        subst e
        simp -implicitDefEqProofs [-guardOk, -gval, hx, hk, hi, hiI, rowAtM hxl, rowAtM hb, Nd.row, o1, o2, o3, hal, k7, -List.getElem_map]
        refine callK.treeD p115 rfl ?_
        simp -implicitDefEqProofs [-guardOk, -gval, hx, pureEnd]
      · rcases eqCases x.k 0 with k0 | k0
        · obtain ⟨nr, en⟩ : ∃ s, nodeRange x b t.kind = s := ⟨_, rfl⟩
          rw [en] at p116
          rw [k0] at p115
          simp only [ndC, k0] at p116
          simp -implicitDefEqProofs [-guardOk, -gval, hx, hk, hi, hiI, rowAtM hxl, rowAtM hb, Nd.row, o1, o2, o3, hal, k0, -List.getElem_map]
          refine callK.treeD p115 rfl ?_
          simp -implicitDefEqProofs [-guardOk, -gval, hx, hk, hi, hiI, rowAtM hb, o1, o2, o3, hal, -List.getElem_map]
          refine callK.treeD p116 rfl ?_
          cases nr
          · have ey : y = 0 := by rw [hyx]; simp only [nodeQ, es]; simp [k0, en]
            simp -implicitDefEqProofs [-guardOk, -gval, hx, hk, hw, ey]
            exact ⟨h1.symm, by rw [hset_ne (by omega)]; exact onz⟩
          · have e := stop 3 rfl (by rw [hyx]; simp only [nodeQ, es]; simp [k0, en])
            subst e
            simp -implicitDefEqProofs [-guardOk, -gval, hx, pureEnd]
        · rcases eqCases x.k 1 with k1 | k1
          · obtain ⟨E, eE⟩ : ∃ E, textErrR t x.s b = E := ⟨_, rfl⟩
            rw [eE] at p117
            rw [k1] at p115
            simp -implicitDefEqProofs [-guardOk, -gval, hx, hk, hi, hiI, rowAtM hxl, rowAtM hb, Nd.row, o1, o2, o3, hal, k1, -List.getElem_map]
            refine callK.treeD p115 rfl ?_
            simp -implicitDefEqProofs [-guardOk, -gval, hx, hk, hi, hiI, rowAtM hb, o1, o2, o3, hal, -List.getElem_map]
            refine callK.treeD p117 rfl ?_
            rcases eqCases E 0 with z | z
            · have ey : y = 0 := by rw [hyx]; simp only [nodeQ, es]; simp [k1, eE, z]
              simp -implicitDefEqProofs [-guardOk, -gval, hx, hk, hw, ey, z]
              exact ⟨h1.symm, by rw [hset_ne (by omega)]; exact onz⟩
            · have e := stop E (by simp [z]) (by rw [hyx]; simp only [nodeQ, es]; simp [k1, eE])
              subst e
              simp -implicitDefEqProofs [-guardOk, -gval, hx, z, pureEnd]
          · have ey : y = 0 := by rw [hyx]; simp only [nodeQ, es]; simp [k0, k1, k7]
            simp -implicitDefEqProofs [-guardOk, -gval, hx, hk, hi, hiI, rowAtM hxl, rowAtM hb, Nd.row, o1, o2, o3, hal, k7, -List.getElem_map]
            refine callK.treeD p115 rfl ?_
            simp -implicitDefEqProofs [-guardOk, -gval, hx, hk, hi, hiI, rowAtM hb, o1, o2, o3, hal, hw, ey, k0, k1, -List.getElem_map]
            exact ⟨h1.symm, by rw [hset_ne (by omega)]; exact onz⟩
  · intro st' hany hx hk hh
    simp [h1] at hk
    rw [errsQ_len] at hx
    have hf := firstAt_none hany
    rw [hf, errsQ_len] at hR0
    subst hR0
    simp -implicitDefEqProofs [-guardOk, -gval, hx, hk, hal, pureEnd]
attribute [local simp] c68r0 c68r1 c68r2 c68t3 c68r3 c68r4 c68r5 c68t7 c68r7 c68r8 c68r9 c68t11 c68r10 c68r11 c68t14 c68r12 c68r13 c68t17 c68r14 c68r15 c68r16 c68r17 c68t22 c68t23 c68t24 c68t25 c68t26 c68t27 c68t28 c68r6 c68t30 c68b31 c68t32 c68r18 c68t34 c68t36 c68 in
theorem P68 (t : Ty) (hn : t.narrow = true) (h0 : isTreeF t.limits = true) : PSp Tryz.prog 68 [.agg (tyC t)] (.tup [.one (.t (I (ownQ t).1)), .one (.t (I (ownQ t).2))]) := by
  obtain ⟨hlen, bg, T⟩ := isTree_ranges h0
  have p49 : PSp Tryz.prog 49 [.one (.t (I t.kind))] (.one (.t (I (about0 t.kind)))) := P49 t.kind
  obtain ⟨R0, hR0⟩ : ∃ R, ownQ t = R := ⟨_, rfl⟩
  rw [hR0]
  refine k68.pureK (by simp) (by simp [D.closed, A.closed]) rfl ?_
  by_cases hl0 : t.limits.length = 0
  · have hl0I : ¬ 0 < t.limits.length := by omega
    have : firstAt (errsQ t (lk (aboutsR t))) = R0 := by rw [← hR0]; simp [ownQ, hl0]
    subst this
    simp -implicitDefEqProofs [-guardOk, -gval, hl0I]
    refine tail68 t hn h0 _ ?_ ?_ ?_
    · simp
    · simp [Hp.set]
    · simp
  · have hl0I : 0 < t.limits.length := by omega
    simp -implicitDefEqProofs [-guardOk, -gval, hl0I]
    refine callK.tree p49 rfl ?_
    rcases eqCases (about0 t.kind) 0 with z | z
    · have : R0 = (0, 4) := by rw [← hR0]; simp [ownQ, hl0, z]
      subst this
      simp -implicitDefEqProofs [-guardOk, -gval, z, pureEnd]
    · have : firstAt (errsQ t (lk (aboutsR t))) = R0 := by rw [← hR0]; simp [ownQ, z]
      subst this
      simp -implicitDefEqProofs [-guardOk, -gval, z]
      refine tail68 t hn h0 _ ?_ ?_ ?_
      · simp
      · simp [Hp.set]
      · simp
def chkQ (t : Ty) : Int × Int := if t.typeErrR != 0 then (0, t.typeErrR) else ownQ t
attribute [local simp] c16r0 c16r1 c16r2 c16r3 c16r4 c16 in
theorem P16 (t : Ty) (hn : t.narrow = true) : PSp Tryz.prog 16 [.agg (tyC t)] (.tup [.one (.t (I (chkQ t).1)), .one (.t (I (chkQ t).2))]) := by
  refine k16.pureK (by simp) (by simp [D.closed, A.closed]) rfl ?_
  simp -implicitDefEqProofs [-guardOk, -gval]
  refine callK.tree (P67 t hn) rfl ?_
  rcases eqCases t.typeErrR 0 with z | z
  · have h0 := tree_of_check t (by rw [← typeErrR_eq]; exact z)
    have e : chkQ t = ownQ t := by simp [chkQ, z]
    rw [e]
    simp -implicitDefEqProofs [-guardOk, -gval, z]
    refine callK.tree (P68 t hn h0) rfl ?_
    simp -implicitDefEqProofs [-guardOk, -gval, pureEnd]
  · have e : chkQ t = (0, t.typeErrR) := by simp [chkQ, z]
    rw [e]
    simp -implicitDefEqProofs [-guardOk, -gval, z, pureEnd]
theorem chk_same (t : Ty) : chkL t = chkQ t := by
  simp only [chkL, chkQ, typeErrR_eq]
  rcases eqCases t.check 0 with z | z
  · simp only [z, bne_self_eq_false, Bool.false_eq_true, if_false]
    exact own_same t (tree_of_check t z)
  · simp [z]
end Go.Proofs.YtdpbobkcbakpfaaGreatDoor

namespace Go.Proofs.YtdpbobkcbakpfaaGreatDoor
open Go Go.Ab
set_option maxRecDepth 100000
set_option maxHeartbeats 4000000
attribute [local simp] tagsT fieldsT typesT nodesT valsT textsT intsT tyC fdC vlC ndC hset_hset D.isPt D.pt
theorem P20 (a b : List Sp) (hl : a.length ≤ 1000000) : PSp Tryz.prog 20 [.one (.t (spans a)), .one (.t (spans b))] (.one (.t (.bool (decide (a = b))))) := by
  refine k20.pureK (by simp) rfl rfl ?_
  by_cases hlen : a.length = b.length
  · simp [c20, c20r0, c20r1, c20r3, spans, hlen]
    refine W.loopK (fun k st => ∃ i : Nat, k = a.length - i ∧ i ≤ a.length ∧ st.tmps 0 = .one (.t (spans a)) ∧ st.tmps 1 = .one (.t (spans b)) ∧ st.tmps 5 = .one (.t (I i)) ∧ a.take i = b.take i) a.length ⟨0, by simp, by simp, by simp [spans], by simp [spans], by simp, rfl⟩ ?_
    rintro k st ⟨i, hk, hi, h0, h1, h5, ht⟩
    rcases Nat.lt_or_ge i a.length with hlt | hge
    · have hlt' : i < b.length := by omega
      have hw : IntKind.i64.wrap ((i : Int) + 1) = (i : Int) + 1 := wrap_i64 (by omega) (by omega)
      simp [c20b8, c20r4, c20r6, h0, h1, h5, spans, hlt, hlt', spr]
      refine ⟨fun hne => ?_, fun e1 e2 => ?_⟩
      · have hab : a ≠ b := fun e => by subst e; simp at hne
        simp [c20r7, pureEnd, hab]
      · simp [c20r5, h0, h1, h5, spans, hw]
        refine ⟨a.length - (i + 1), by omega, i + 1, rfl, hlt, rfl, ?_⟩
        rw [List.take_add_one, List.take_add_one, ht, List.getElem?_eq_getElem hlt, List.getElem?_eq_getElem hlt', Prod.ext e1 e2]
    · have : i = a.length := by omega
      subst this
      have e : a = b := by rw [List.take_length, hlen, List.take_length] at ht; exact ht
      simp [c20b8, c20r4, c20r8, h0, h5, spans, pureEnd, e]
  · have hne : a ≠ b := fun e => hlen (by rw [e])
    have hlenI : ¬ (a.length : Int) = b.length := by omega
    simp [c20, c20r0, c20r1, c20r2, spans, hlenI, pureEnd, hne]
attribute [local simp] c3r0 c3r1 c3r2 c3t3 c3r3 c3r4 c3t6 c3r5 c3r6 c3r7 c3r8 c3r9 c3t12 c3t13 c3 in
theorem P3 (hA : PSp Tryz.prog 12 [] (.one (.t (.bool true)))) (t : Ty) (s : ByteArray) (ht : t.fine) (_hs : s.size ≤ 9223372036854775807) : PSp Tryz.prog 3 [.agg (tyC t), .one (.t (.str s))] (.one (.t (.bool true))) := by
  refine k3.pureK (by simp) (by simp [D.closed, A.closed]) rfl ?_
  simp -implicitDefEqProofs [-guardOk, -gval]
  refine callK.tree hA rfl ?_
  simp -implicitDefEqProofs [-guardOk, -gval]
  refine callK.tree (P13 t ht) rfl ?_
  obtain ⟨b, eb⟩ : ∃ b, t.tiny = b := ⟨_, rfl⟩
  rw [eb]
  cases b
  · simp -implicitDefEqProofs [-guardOk, -gval, pureEnd]
  · have hn : t.narrow = true := by
      rw [Ty.tiny, Bool.and_eq_true] at eb
      exact eb.2
    obtain ⟨w, ew⟩ : ∃ w, decide ((60 : Int) < (s.size : Int)) = w := ⟨_, rfl⟩
    cases w
    · have hal := alpha_len s
      have p14 := P14 t hn
      have p16 := P16 t hn
      rw [chk_same] at p14
      obtain ⟨a, e⟩ := chkQ t
      have hst : strType s = !(alpha s).isEmpty := by
        rw [strType_eq, alpha]
        repeat' split
        all_goals simp_all
      simp -implicitDefEqProofs [-guardOk, -gval, ew]
      refine callK.tree (P15 t hn) rfl ?_
      simp -implicitDefEqProofs [-guardOk, -gval]
      refine callK.tree p14 rfl ?_
      simp -implicitDefEqProofs [-guardOk, -gval]
      refine callK.tree p16 rfl ?_
      simp -implicitDefEqProofs [-guardOk, -gval]
      refine callK.tree (P17 s) rfl ?_
      simp -implicitDefEqProofs [-guardOk, -gval]
      refine callK.tree (P18 s) rfl ?_
      have p20 := P20 (alpha s) (alpha s) (by omega)
      simp only [decide_true] at p20
      rw [hst]
      generalize alpha s = l at *
      have q7 : IntKind.i64.wrap 7 = 7 := by decide
      have q0 : IntKind.i64.wrap 0 = 0 := by decide
      rcases l with - | ⟨p, l⟩
      · simp -implicitDefEqProofs [-guardOk, -gval, spans]
        refine callK.tree (P19 true) rfl ?_
        simp only [spans, List.map_nil] at p20
        simp -implicitDefEqProofs [-guardOk, -gval, q7]
        refine callK.tree p20 rfl ?_
        simp -implicitDefEqProofs [-guardOk, -gval, pureEnd]
      · have z1 : ((l.length : Int) + 1 == 0) = false := by simp; omega
        simp -implicitDefEqProofs [-guardOk, -gval, spans, z1]
        refine callK.tree (P19 false) rfl ?_
        simp only [spans, List.map_cons] at p20
        simp -implicitDefEqProofs [-guardOk, -gval, q0]
        refine callK.tree p20 rfl ?_
        simp -implicitDefEqProofs [-guardOk, -gval, pureEnd]
    · simp -implicitDefEqProofs [-guardOk, -gval, ew, pureEnd]
end Go.Proofs.YtdpbobkcbakpfaaGreatDoor

namespace Go.Ab
open Go
variable {P : Program} {w w' : World} {F F' : Fix} {ν ν' : Nu} {h : Hp} {nx : Nat} {tm : Nat → D} {a : Act} {n : Nat} {st : St}
def ttEnd (rs : List RV) (r : D) (h' : Hp) (n0 : Nat) (e : Exit) (st : St) : Prop :=
  (e = .normal ∨ e = .ret) ∧ resOk st rs ∧ resD st rs = r ∧ (∃ sz rr, r = .one (.tt sz rr)) ∧
    (∀ id, id < n0 → st.heap id = h' id) ∧ (∀ id, n0 ≤ id → h' id = none) ∧ ∀ id o, h' id = some o → o.below n0 = true
theorem Sim.cut {h h' : Hp} {n0 : Nat} (hs : Sim w F ν h nx) (h8 : ∀ id, id < n0 → h id = h' id) (h9 : ∀ id, n0 ≤ id → h' id = none) (h12 : ∀ id o, h' id = some o → o.below n0 = true) :
    Sim w F (cutNu ν n0) h' (n0 + 1) := by
  refine ⟨hs.fixed, fun id o ho => ?_, fun id bv hn => ?_, fun i j b v1 v2 hi hj => ?_, hs.glob⟩
  · have hlt : id < n0 := by
      rcases Nat.lt_or_ge id n0 with h | h
      · exact h
      · rw [h9 id h] at ho; cases ho
    have hob := hs.obj id o (by rw [h8 id hlt]; exact ho)
    have hbel := h12 id o ho
    cases o with
    | arr ver shut sz rs' =>
      obtain ⟨b, e', m, k1, k2, k3, k4, k5, k6, k7⟩ := hob
      refine ⟨b, e', m, by simp [cutNu, hlt, k1], k2, k3, k4, k5, fun i j rr x hi hj => ?_, k7⟩
      obtain ⟨q1, u, q2, q3⟩ := k6 i j rr x hi hj
      simp only [O.below, List.all_eq_true] at hbel
      exact ⟨q1, u, q2, q3.cut (hbel rr (List.mem_of_getElem? hi) x (List.mem_of_getElem? hj)) fun _ _ h => h⟩
  · obtain ⟨q1, q2⟩ := cutNu_eq hn
    obtain ⟨q3, q4, o, q5⟩ := hs.dom _ _ q2
    exact ⟨by omega, q4, o, by rw [← h8 id q1]; exact q5⟩
  · exact hs.inj _ _ _ _ _ (cutNu_eq hi).2 (cutNu_eq hj).2
theorem ISp.of_tt {f : FuncId} {fn : Func} {c : Code} {ac : ACode} {grow : Nat → Nat → Bool} {rs : List RV} (hf : P.funcs[f]? = some fn) (hb : fn.body = some c) (hc : compileCode P fn.ntmps grow c = some ac)
    (hres : compileRes P fn.results.toList = some rs) {xs : List D} {r : D} {h h' : Hp} {n0 : Nat} (hn : xs.length ≤ fn.ntmps) (hW : W P fn.ntmps ac (ttEnd rs r h' n0) ⟨initTm xs, h, n0⟩) : ISp P f h n0 xs r h' := by
  intro w F ν vs hs hv
  refine callsIn_wide.1 (callsIn_of_wp_marks (n := 9) hf hb trivial (wpIn_mono (hW none 9 grow c (.inl ⟨rfl, Nat.le_refl _⟩) hc _ w F ν (rel_init hs hv hn)) (fun e a' w1 hq => ?_)))
  obtain ⟨st', F', ν', ⟨h1, h2, h3, ⟨sz, rr, h4⟩, h8, h9, h12⟩, hcm⟩ := hq
  refine bodyPostM_of h1 (at_end rfl hcm fun w' h5 h6 => ?_)
  obtain ⟨v, g1, g2⟩ := results_sound h5 hres h2
  refine ⟨v, g1, r, v, h', F', cutNu ν' n0, rfl, ⟨rfl, rfl⟩, h5.sim.cut h8 h9 h12, ?_, ?_⟩
  · rw [h3, h4] at g2
    rw [h4]
    exact g2
  · exact { os := h6.os, tape := h6.tape, output := h6.output, size := h6.size, keep := h6.keep, cell := h6.cell, sub := h6.sub, new := h6.new, shape := h6.shape
            nu := fun id b ver hh => by
              obtain ⟨b', ver', q1, q2⟩ := h6.nu id b ver hh
              have := (hs.dom _ _ hh).1
              exact ⟨b', ver', by simp [cutNu, this, q1], q2⟩
            nu' := fun id b ver hh => h6.nu' id b ver (cutNu_eq hh).2 }
theorem Compiled.ttK {P : Program} {f : FuncId} {n : Nat} {rs : List RV} {ac : ACode} (hc : Compiled P f n rs ac) {xs : List D} {r : D} {h h' : Hp} {n0 : Nat} (hn : xs.length ≤ n) (hW : awpK P n (ttEnd rs r h' n0) ac [] ⟨initTm xs, h, n0⟩) : ISp P f h n0 xs r h' := by
  obtain ⟨fn, c, grow, h1, h2, h3, h4, rfl⟩ := hc.out
  exact ISp.of_tt h1 h2 h3 h4 hn (W.of_awp _ _ _ hW)
end Go.Ab

namespace Go.Ab
open Go Go.ChangeShapes Go.WideShapes Go.RowKit
inductive Shape (P : Program) : TypeId → List T → Prop
  | bool {t : TypeId} (b : Bool) (h : P.underlying t = some .bool) : Shape P t [.bool b]
  | int {t : TypeId} {k : IntKind} (n : Int) (h : P.underlying t = some (.int k)) (hw : (Lit.int k n).wf = true) : Shape P t [.int k n]
  | str {t : TypeId} (s : ByteArray) (h : P.underlying t = some .string) (hw : s.size ≤ maxLen) : Shape P t [.str s]
  | slice {t e : TypeId} (rs : List (List T)) (h : P.underlying t = some (.slice e)) (hl : rs.length ≤ maxLen) (hr : ∀ r ∈ rs, Shape P e r) : Shape P t [.rows (P.cellsOf e) rs]
  | strct {t : TypeId} {fs : Array Field} (pss : List (List T)) (h : P.underlying t = some (.struct fs)) (hl : pss.length = fs.size)
      (hp : ∀ (i : Nat) f ps, fs[i]? = some f → pss[i]? = some ps → Shape P f.type ps) : Shape P t pss.flatten
def fieldsOk (P : Program) (l : List TypeId) : List Field → Nat → Option Nat
  | [], off => some off
  | f :: r, off => if f.offset = off ∧ l.contains f.type = true then fieldsOk P l r (off + P.cellsOf f.type) else none
def treeTypes (P : Program) (l : List TypeId) : Bool :=
  l.all fun t => match P.underlying t with
    | some .bool => decide (P.cellsOf t = 1)
    | some (.int _) => decide (P.cellsOf t = 1)
    | some .string => decide (P.cellsOf t = 1)
    | some (.slice e) => l.contains e && decide (P.cellsOf t = 1) && decide (0 < P.cellsOf e)
    | some (.struct fs) => match fieldsOk P l fs.toList 0 with
      | some n => decide (n = P.cellsOf t)
      | none => false
    | _ => false
def oldFix (w : World) : Fix := fun b _ => b < w.heap.size
section
variable {H : Type} {enc : TypeId × Value → H} {P : Program} {w : World} {base : Nat} {sp : Nat → Bool} {held : Bool} {l : List TypeId}
def Reads (w : World) (ts : List T) (cs : List Value) : Prop := ts.length = cs.length ∧ ∀ (j : Nat) a v, ts[j]? = some a → cs[j]? = some v → VT w (oldFix w) a v
theorem cells?_get {a : Addr} {n : Nat} {cs : List Value} (h : w.cells? base a n = some cs) : cs.length = n ∧ ∀ i, i < n → w.cell? (a.add i) = cs[i]? := by
  unfold World.cells? at h
  split at h
  · exact ⟨by simpa using mapM_some_length h, fun i hi => mapM_some_get h i i (by simp [hi])⟩
  · cases h
theorem cell?_lt {a : Addr} {v : Value} (h : w.cell? a = some v) : a.block < w.heap.size ∧ a.spot = none := by
  unfold World.cell? at h
  split at h
  · rename_i c t f hb
    split at h
    · cases h
    · rename_i hs
      refine ⟨(Array.getElem?_eq_some_iff.1 hb).1, ?_⟩
      cases hx : a.spot with
      | none => rfl
      | some _ => rw [hx] at hs; simp at hs
  · cases h
theorem collect {α : Type} (Q : Nat → α → Prop) : ∀ n, (∀ i, i < n → ∃ x, Q i x) → ∃ rs : List α, rs.length = n ∧ ∀ (i : Nat) r, rs[i]? = some r → Q i r
  | 0, _ => ⟨[], rfl, fun i r hr => by simp at hr⟩
  | n + 1, h => by
    obtain ⟨rs, r1, r2⟩ := collect Q n fun i hi => h i (by omega)
    obtain ⟨x, hx⟩ := h n (Nat.lt_succ_self _)
    refine ⟨rs ++ [x], by simp [r1], fun i r hr => ?_⟩
    rcases Nat.lt_or_ge i rs.length with g | g
    · rw [List.getElem?_append_left g] at hr; exact r2 i r hr
    · rw [List.getElem?_append_right g] at hr
      have : i = n := by
        rcases Nat.eq_zero_or_pos (i - rs.length) with q | q
        · omega
        · rw [List.getElem?_eq_none (by simp; omega)] at hr; cases hr
      subst this
      rw [r1, Nat.sub_self] at hr
      simp at hr; subst hr
      exact hx
theorem fields_conv (hl : treeTypes P l = true) {n : Nat} (ih : ∀ (t : TypeId) (cs : List Value) x, l.contains t = true → DataW.trod enc P w base sp held n t cs = some x → ∃ ts, ts.length = P.cellsOf t ∧ Shape P t ts ∧ Reads w ts cs) (cs : List Value) :
    ∀ (fs : List Field) (off tot : Nat), fieldsOk P l fs off = some tot → tot ≤ cs.length → (∀ (i : Nat) f, fs[i]? = some f → ∃ x, DataW.trod enc P w base sp held n f.type ((cs.drop f.offset).take (P.cellsOf f.type)) = some x) →
      ∃ pss : List (List T), pss.length = fs.length ∧ pss.flatten.length = tot - off ∧ off ≤ tot ∧ (∀ (i : Nat) f ps, fs[i]? = some f → pss[i]? = some ps → Shape P f.type ps) ∧ ∀ (j : Nat) a v, pss.flatten[j]? = some a → cs[off + j]? = some v → VT w (oldFix w) a v
  | [], off, tot, h, _, _ => by
    simp only [fieldsOk, Option.some.injEq] at h
    subst h
    exact ⟨[], rfl, by simp, Nat.le_refl _, fun i f ps hf => by simp at hf, fun j a v ha => by simp at ha⟩
  | f :: r, off, tot, h, hc, hx => by
    simp only [fieldsOk] at h
    split at h
    · rename_i hf
      obtain ⟨pss, q1, q2, q3, q4, q5⟩ := fields_conv hl ih cs r _ tot h hc fun i f' hf' => hx (i + 1) f' (by simpa using hf')
      obtain ⟨x, hx0⟩ := hx 0 f rfl
      obtain ⟨ts, t1, t2, t3, t4⟩ := ih _ _ _ hf.2 hx0
      refine ⟨ts :: pss, by simp [q1], by simp [q2, t1]; omega, by omega, fun i f' ps hf' hp => ?_, fun j a v ha hv => ?_⟩
      · rcases i with - | i
        · simp at hf' hp; subst hf'; subst hp; exact t2
        · exact q4 i f' ps (by simpa using hf') (by simpa using hp)
      · simp only [List.flatten_cons] at ha
        rcases Nat.lt_or_ge j ts.length with g | g
        · rw [List.getElem?_append_left g] at ha
          refine t4 j a v ha ?_
          rw [hf.1, List.getElem?_take, if_pos (by omega), List.getElem?_drop]; exact hv
        · rw [List.getElem?_append_right g] at ha
          refine q5 (j - ts.length) a v ha ?_
          rw [show off + P.cellsOf f.type + (j - ts.length) = off + j by omega]; exact hv
    · cases h
theorem conv (hl : treeTypes P l = true) : ∀ (n : Nat) (t : TypeId) (cs : List Value) x, l.contains t = true → DataW.trod enc P w base sp held n t cs = some x → ∃ ts, ts.length = P.cellsOf t ∧ Shape P t ts ∧ Reads w ts cs := by
  intro n
  induction n with
  | zero => intro t cs x _ h; simp [DataW.trod] at h
  | succ n ih =>
    intro t cs x ht h
    have hk := List.all_eq_true.1 hl t (by simpa using ht)
    have one : ∀ (a : T) (v : Value), VT w (oldFix w) a v → Reads w [a] [v] := fun a v hv => ⟨rfl, fun j a' v' ha hv' => by
      rcases j with - | j
      · simp at ha hv'; subst ha; subst hv'; exact hv
      · simp at ha⟩
    split at hk
    · rename_i hu
      obtain ⟨b, rfl, _⟩ := DataW.trod_bool hu h
      exact ⟨[.bool b], by simpa using (of_decide_eq_true hk).symm, .bool b hu, one _ _ (.bool b)⟩
    · rename_i k hu
      obtain ⟨m, rfl, _, hw⟩ := DataW.trod_int hu h
      exact ⟨[.int k m], by simpa using (of_decide_eq_true hk).symm, .int m hu hw, one _ _ (.int k m)⟩
    · rename_i hu
      obtain ⟨s, rfl, _, hw⟩ := DataW.trod_string hu h
      exact ⟨[.str s], by simpa using (of_decide_eq_true hk).symm, .str s hu hw, one _ _ (.str s)⟩
    · rename_i e hu
      simp only [Bool.and_eq_true, decide_eq_true_eq] at hk
      obtain ⟨⟨he, h1⟩, h0⟩ := hk
      rcases DataW.trod_slice hu h with ⟨rfl, _⟩ | ⟨a, len, cap, elems, rest, n', hn, rfl, _, _, hlc, hcm, hel, hev, _, _⟩
      · exact ⟨[.rows (P.cellsOf e) []], by simp [h1], .slice [] hu (by simp) (by simp), one _ _ (.nils _ _ _)⟩
      · obtain rfl : n' = n := by omega
        have hrow : ∀ i, i < len → ∃ ts cs', ts.length = P.cellsOf e ∧ Shape P e ts ∧ Reads w ts cs' ∧ w.cells? base (a.add (i * P.cellsOf e)) (P.cellsOf e) = some cs' := fun i hi => by
          have := hev i hi
          rw [List.getElem?_eq_getElem (by omega), Option.bind_eq_some_iff] at this
          obtain ⟨cs', c1, c2⟩ := this
          obtain ⟨ts, t1, t2, t3⟩ := ih _ _ _ he c2
          exact ⟨ts, cs', t1, t2, t3, c1⟩
        obtain ⟨rs, r1, r2⟩ : ∃ rs : List (List T), rs.length = len ∧ ∀ (i : Nat) r, rs[i]? = some r → r.length = P.cellsOf e ∧ Shape P e r ∧ ∃ cs', Reads w r cs' ∧ w.cells? base (a.add (i * P.cellsOf e)) (P.cellsOf e) = some cs' := by
          obtain ⟨rs, r1, r2⟩ := collect (fun i ts => ts.length = P.cellsOf e ∧ Shape P e ts ∧ ∃ cs', Reads w ts cs' ∧ w.cells? base (a.add (i * P.cellsOf e)) (P.cellsOf e) = some cs') len fun i hi => by
            obtain ⟨ts, cs', t1, t2, t3, t4⟩ := hrow i hi
            exact ⟨ts, t1, t2, cs', t3, t4⟩
          exact ⟨rs, r1, fun i r hr => r2 i r hr⟩
        refine ⟨[.rows (P.cellsOf e) rs], by simp [h1], .slice rs hu (by omega) (fun r hr => ?_), one _ _ ?_⟩
        · obtain ⟨i, hi, rfl⟩ := List.getElem_of_mem hr
          exact (r2 i _ (List.getElem?_eq_getElem hi)).2.1
        · rcases Nat.eq_zero_or_pos len with hz | hp
          · subst hz
            have : rs = [] := List.length_eq_zero_iff.1 r1
            subst this
            exact .nils _ _ _
          · have cellAt : ∀ i j, i < rs.length → j < P.cellsOf e → ∃ v, w.cell? ((a.add (i * P.cellsOf e)).add j) = some v ∧ ∀ (r : List T) x, rs[i]? = some r → r[j]? = some x → VT w (oldFix w) x v := fun i j hi hj => by
              obtain ⟨k1, _, cs', k3, k4⟩ := r2 i _ (List.getElem?_eq_getElem hi)
              obtain ⟨c1, c2⟩ := cells?_get k4
              have hjl : j < cs'.length := by omega
              refine ⟨cs'[j], by rw [c2 j hj]; exact List.getElem?_eq_getElem hjl, fun r x hr hx => ?_⟩
              rw [List.getElem?_eq_getElem hi] at hr
              simp only [Option.some.injEq] at hr; subst hr
              exact k3.2 j x _ hx (List.getElem?_eq_getElem hjl)
            obtain ⟨v0, hv0, _⟩ := cellAt 0 0 (by omega) h0
            have hspot : a.spot = none := by
              have := (cell?_lt hv0).2
              simpa [Addr.add] using this
            obtain ⟨b, off, sp'⟩ := a
            simp only at hspot
            subst hspot
            have hadd : ∀ i j, ((⟨b, off, none⟩ : Addr).add (i * P.cellsOf e)).add j = ⟨b, off + i * P.cellsOf e + j, none⟩ := fun i j => by
              unfold Addr.add
              split <;> split <;> simp_all
            rw [← r1]
            refine .rows (P.cellsOf e) rs b off cap (fun i j => (w.cell? ⟨b, off + i * P.cellsOf e + j, none⟩).getD undef) (by omega) (fun r hr => ?_) (fun i j hi hj => ?_) (fun i j r x hi hj => ?_)
            · obtain ⟨i, hi, rfl⟩ := List.getElem_of_mem hr
              exact (r2 i _ (List.getElem?_eq_getElem hi)).1
            · obtain ⟨v, hv, _⟩ := cellAt i j hi hj
              rw [hadd] at hv
              exact ⟨by rw [hv]; rfl, (cell?_lt hv).1⟩
            · have hi' : i < rs.length := (List.getElem?_eq_some_iff.1 hi).1
              have hj' : j < P.cellsOf e := by
                have := (r2 i r hi).1
                have := (List.getElem?_eq_some_iff.1 hj).1
                omega
              obtain ⟨v, hv, hvv⟩ := cellAt i j hi' hj'
              rw [hadd] at hv
              rw [hv]
              exact hvv r x hi hj
    · rename_i fs hu
      obtain ⟨xs, n', hn, _, hcl, hxl, hxs⟩ := DataW.trod_struct hu h
      obtain rfl : n' = n := by omega
      split at hk
      · rename_i tot htot
        have ht0 : tot = P.cellsOf t := of_decide_eq_true hk
        obtain ⟨pss, q1, q2, _, q4, q5⟩ := fields_conv hl ih cs fs.toList 0 tot htot (by omega) fun i f hf => by
          have hf' : fs[i]? = some f := by simpa using hf
          have hi : i < xs.length := by rw [hxl]; exact (Array.getElem?_eq_some_iff.1 hf').1
          exact ⟨xs[i], by rw [hxs i f hf']; exact List.getElem?_eq_getElem hi⟩
        refine ⟨pss.flatten, by omega, .strct pss hu (by simpa using q1) (fun i f ps hf hp => q4 i f ps (by simpa using hf) hp), by omega, fun j a v ha hv => q5 j a v ha (by rw [Nat.zero_add]; exact hv)⟩
      · cases hk
    · cases hk
end
end Go.Ab

namespace Go.Ab
open Go Go.ChangeShapes Go.WideShapes Go.RowKit
variable {H : Type} {enc : TypeId × Value → H} {P : Program} {l : List TypeId}
def argD (P : Program) (t : TypeId) (ts : List T) : D :=
  match P.underlying t with
  | some (.struct _) => .agg (ts.map .t)
  | _ => .one (.t (ts.headD .nilp))
def argsD (P : Program) : List TypeId → List (List T) → List D
  | t :: ts, x :: xs => argD P t x :: argsD P ts xs
  | _, _ => []
def ShapeAll (P : Program) : List TypeId → List (List T) → Prop
  | [], [] => True
  | t :: ts, x :: xs => Shape P t x ∧ ShapeAll P ts xs
  | _, _ => False
theorem VL_of {w : World} {F : Fix} {ν : Nu} {ts : List T} {cs : List Value} (h : ts.length = cs.length) (hv : ∀ (j : Nat) a v, ts[j]? = some a → cs[j]? = some v → VT w F a v) : VL (VA w F ν) (ts.map .t) cs := by
  refine ⟨by simp [h], fun k x u hx hu => ?_⟩
  rw [List.getElem?_map, Option.map_eq_some_iff] at hx
  obtain ⟨a, ha, rfl⟩ := hx
  exact hv k a u ha hu
theorem trodAll_len {w : World} {base : Nat} {sp : Nat → Bool} {held : Bool} : ∀ {ts : List TypeId} {vs : List Value} {ds : List (DataW H)} {ps : List MemPlace}, DataW.TrodAll enc P w base sp held ts vs ds ps → ds.length = ts.length
  | [], _, _, _, h => by
    obtain ⟨_, rfl, _⟩ := trodAll_nil h
    rfl
  | _ :: _, _, _, _, h => by
    obtain ⟨_, _, _, _, _, _, rfl, rfl, _, _, h2⟩ := trodAll_cons h
    simp [trodAll_len h2]
theorem arg_conv {w : World} {sp : Nat → Bool} {held : Bool} (hl : treeTypes P l = true) {t : TypeId} {v : Value} {d : DataW H} {p : List MemPlace} {b0 : Nat} (ht : l.contains t = true) (h : DataW.Trod enc P w 0 sp held t v d p) (hval : Value.okWide P w .any b0 t v) :
    ∃ ts, Shape P t ts ∧ VD w (oldFix w) noNu (argD P t ts) v := by
  obtain ⟨n, hn⟩ := h
  obtain ⟨ts, h1, h2, h3⟩ := conv hl n t _ _ ht hn
  refine ⟨ts, h2, ?_⟩
  have hk := List.all_eq_true.1 hl t (by simpa using ht)
  unfold argD
  split
  · rename_i fs hu
    simp only [Value.okWide, hu] at hval
    obtain ⟨cs, rfl, _, _⟩ := hval
    exact ⟨cs, rfl, VL_of h3.1 h3.2⟩
  · rename_i hns
    have hone : v.cells = #[v] := by
      split at hk
      all_goals first
        | (rename_i hu; cases v <;> simp_all [Value.okWide, Cell.okWide, Cell.ok, Value.cells])
        | skip
      all_goals first
        | (rename_i _ hu; cases v <;> simp_all [Value.okWide, Cell.okWide, Cell.ok, Value.cells])
        | skip
    rw [hone] at h3
    have hl1 := h3.1
    simp only [List.length_cons, List.length_nil] at hl1
    obtain ⟨a, rfl⟩ := List.length_eq_one_iff.1 hl1
    exact h3.2 0 a v rfl rfl
theorem args_conv {w : World} {sp : Nat → Bool} {held : Bool} (hl : treeTypes P l = true) {b0 : Nat} : ∀ {ts : List TypeId} {vs : List Value} {ds : List (DataW H)} {p : List MemPlace}, DataW.TrodAll enc P w 0 sp held ts vs ds p → (∀ t ∈ ts, l.contains t = true) →
    (∀ (j : Nat) t v, ts[j]? = some t → vs[j]? = some v → Value.okWide P w .any b0 t v) →
    ∃ tss, ShapeAll P ts tss ∧ (argsD P ts tss).length = vs.length ∧ ∀ (k : Nat) x u, (argsD P ts tss)[k]? = some x → vs[k]? = some u → VD w (oldFix w) noNu x u
  | [], vs, ds, p, h, _, _ => by
    obtain ⟨rfl, _, _⟩ := trodAll_nil h
    exact ⟨[], trivial, rfl, fun k x u hx => by simp [argsD] at hx⟩
  | t :: ts, vs, ds, p, h, hc, hv => by
    obtain ⟨v, vs1, d, ds1, a, b, rfl, rfl, rfl, h1, h2⟩ := trodAll_cons h
    obtain ⟨x, x1, x2⟩ := arg_conv hl (hc t (List.mem_cons_self ..)) h1 (hv 0 t v rfl rfl)
    obtain ⟨tss, q1, q2, q3⟩ := args_conv hl h2 (fun t ht => hc t (List.mem_cons_of_mem _ ht)) fun j t' v' ht' hv' => hv (j + 1) t' v' (by simpa using ht') (by simpa using hv')
    refine ⟨x :: tss, ⟨x1, q1⟩, by simp [argsD, q2], fun k y u hy hu => ?_⟩
    rcases k with - | k
    · simp [argsD] at hy hu; subst hy; subst hu; exact x2
    · exact q3 k y u (by simpa [argsD] using hy) (by simpa using hu)
theorem below_trodAll (hl : laidOutB P = true) {W W' : World} (hb : Below W.heap.size W W') : ∀ {ts : List TypeId} {vs : List Value} {ds : List (DataW H)} {p : List MemPlace}, DataW.TrodAll enc P W 0 (fun _ => true) true ts vs ds p →
    (∀ t ∈ ts, P.readableRec t = true ∧ t < P.types.size) → (∀ x ∈ p, x.block < W.heap.size) → DataW.TrodAll enc P W' 0 (fun b => decide (b < W.heap.size)) true ts vs ds p
  | [], vs, ds, p, h, _, _ => by
    obtain ⟨rfl, rfl, rfl⟩ := trodAll_nil h
    exact trodAll_mk0
  | t :: ts, vs, ds, p, h, hc, hp => by
    obtain ⟨v, vs1, d, ds1, a, b, rfl, rfl, rfl, h1, h2⟩ := trodAll_cons h
    exact trodAll_cons_mk (Below.trod hl (hc t (List.mem_cons_self ..)).1 (hc t (List.mem_cons_self ..)).2 h1 hb fun x hx => hp x (List.mem_append_left _ hx))
      (below_trodAll hl hb h2 (fun t ht => hc t (List.mem_cons_of_mem _ ht)) fun x hx => hp x (List.mem_append_right _ hx))
theorem Frame.below {w w' : World} {F F' : Fix} {ν' : Nu} (h : Frame w F noNu w' F' ν') : Below w.heap.size w w' :=
  ⟨h.os, h.tape, h.output, h.size, fun k hk => h.keep k hk fun _ _ e => by cases e⟩
theorem law_contract {f : FuncId} {fn : Func} {s : ChangeSpec} {tb : TypeId} (hl : treeTypes P l = true) (hps : fn.params.toList.all (fun t => l.contains t) = true) (hlaid : laidOutB P = true)
    (hrd : fn.params.toList.all (fun t => P.readableRec t && decide (t < P.types.size)) = true) (hP : ∀ tss, ShapeAll P fn.params.toList tss → PSp P f (argsD P fn.params.toList tss) (.one (.t (.bool true))))
    (hres : fn.resultTypes = #[tb]) (hb : P.underlying tb = some .bool) (hs : s.vars = []) (hfn : ∀ (H : Type) (ds : List (DataW H)), ds.length = fn.params.toList.length → s.fn H ds = { results := [.lit (.bool true)], args := ds })
    (W : World) (base : Nat) (args : Array Value) (ds gs : List (DataW H)) (before : List MemPlace)
    (hval : ∀ (j : Nat) t v, fn.params[j]? = some t → args[j]? = some v → Value.okWide P W .any base t v)
    (hW : DataW.Whole enc P fn.params.toList s.vars false W args.toList ds gs before) (hglob : ∃ m, W.cell? ⟨globB, 0, none⟩ = some (.int .i64 m)) :
    Calls P f args W fun e W' => ∃ v, e = .returned v ∧ s.post enc P fn false true false false W args v W' := by
  have hW' := hW
  have hlt : ∀ x ∈ before, x.block < W.heap.size := hW.lt
  obtain ⟨p, q, hA, hV, rfl, hfz, hnd⟩ := hW
  rw [hs] at hV
  obtain ⟨rfl, rfl⟩ := trodVars_none hV
  obtain ⟨tss, q1, q2, q3⟩ := args_conv (b0 := base) hl hA (fun t ht => List.all_eq_true.1 hps t ht) fun j t v ht hv => hval j t v (by simpa using ht) (by simpa using hv)
  refine (hP tss q1 noHp 0 W (oldFix W) noNu args (Sim.bare (fun _ _ h => h) ⟨by obtain ⟨m, hm⟩ := hglob; exact (cell?_lt hm).1, hglob⟩ 0) ⟨by simpa using q2, fun k x u hx hu => q3 k x u hx (by simpa using hu)⟩).mono ?_
  rintro e W' ⟨r, v, h', F', ν', rfl, ⟨rfl, _⟩, _, hv, hfr⟩
  have hbel := Frame.below hfr
  have ev : v = .bool true := by
    have hv' : VT W' F' (.bool true) v := hv
    cases hv'; rfl
  subst ev
  have hlen := trodAll_len hA
  have hfn' := hfn H (ds ++ []) (by simpa using hlen)
  refine ⟨_, rfl, ds, [], p ++ [], [], p, [], hW', ?_, ?_, ?_, hbel.frame _, fun h => by cases h⟩
  · rw [hfn', hres]
    exact trodAll_mk1 (shut_bool hb true)
  · rw [hfn', List.append_nil]
    exact below_trodAll hlaid hbel hA (fun t ht => by simpa using List.all_eq_true.1 hrd t ht) fun x hx => hlt x (by simpa using hx)
  · rw [hfn', hs]; exact rfl
theorem Shape.int_inv {t : TypeId} {k : IntKind} {ts : List T} (h : Shape P t ts) (hu : P.underlying t = some (.int k)) : ∃ n, ts = [.int k n] ∧ (Lit.int k n).wf = true := by
  cases h with
  | int n h hw => rw [hu] at h; cases h; exact ⟨n, rfl, hw⟩
  | _ _ h => rw [hu] at h; cases h
theorem Shape.bool_inv {t : TypeId} {ts : List T} (h : Shape P t ts) (hu : P.underlying t = some .bool) : ∃ b, ts = [.bool b] := by
  cases h with
  | bool b h => exact ⟨b, rfl⟩
  | _ _ h => rw [hu] at h; cases h
theorem Shape.str_inv {t : TypeId} {ts : List T} (h : Shape P t ts) (hu : P.underlying t = some .string) : ∃ s, ts = [.str s] ∧ s.size ≤ maxLen := by
  cases h with
  | str s h hw => exact ⟨s, rfl, hw⟩
  | _ _ h => rw [hu] at h; cases h
theorem Shape.slice_inv {t e : TypeId} {ts : List T} (h : Shape P t ts) (hu : P.underlying t = some (.slice e)) : ∃ rs, ts = [.rows (P.cellsOf e) rs] ∧ rs.length ≤ maxLen ∧ ∀ r ∈ rs, Shape P e r := by
  cases h with
  | slice rs h hl hr => rw [hu] at h; cases h; exact ⟨rs, rfl, hl, hr⟩
  | _ _ h => rw [hu] at h; cases h
theorem Shape.strct_inv {t : TypeId} {fs : Array Field} {ts : List T} (h : Shape P t ts) (hu : P.underlying t = some (.struct fs)) :
    ∃ pss : List (List T), ts = pss.flatten ∧ pss.length = fs.size ∧ ∀ (i : Nat) f ps, fs[i]? = some f → pss[i]? = some ps → Shape P f.type ps := by
  cases h with
  | strct pss h hl hp => rw [hu] at h; cases h; exact ⟨pss, rfl, hl, hp⟩
  | _ _ h => rw [hu] at h; cases h
theorem rows_map {α : Type} (g : α → List T) : ∀ {rs : List (List T)}, (∀ r ∈ rs, ∃ x, r = g x) → ∃ l : List α, rs = l.map g
  | [], _ => ⟨[], rfl⟩
  | r :: rs, h => by
    obtain ⟨x, rfl⟩ := h r (List.mem_cons_self ..)
    obtain ⟨l, rfl⟩ := rows_map g fun r hr => h r (List.mem_cons_of_mem _ hr)
    exact ⟨x :: l, rfl⟩
end Go.Ab

namespace Go.Proofs.YtdpbobkcbakpfaaGreatDoor
open Go Go.Ab
set_option maxRecDepth 100000
theorem cells28 : Tryz.prog.cellsOf 28 = 8 := by kernel_rfl
theorem cells107 : Tryz.prog.cellsOf 107 = 13 := by kernel_rfl
theorem cells47 : Tryz.prog.cellsOf 47 = 6 := by kernel_rfl
theorem cells191 : Tryz.prog.cellsOf 191 = 3 := by kernel_rfl
theorem cells122 : Tryz.prog.cellsOf 122 = 5 := by kernel_rfl
theorem cells9 : Tryz.prog.cellsOf 9 = 1 := by kernel_rfl
theorem cells3 : Tryz.prog.cellsOf 3 = 1 := by kernel_rfl
theorem rows_all {α : Type} (g : α → List T) (Q : α → Prop) : ∀ {rs : List (List T)}, (∀ r ∈ rs, ∃ x, r = g x ∧ Q x) → ∃ l : List α, rs = l.map g ∧ ∀ x ∈ l, Q x
  | [], _ => ⟨[], rfl, fun x hx => by cases hx⟩
  | r :: rs, h => by
    obtain ⟨x, rfl, hx⟩ := h r (List.mem_cons_self ..)
    obtain ⟨l, rfl, hl⟩ := rows_all g Q fun r hr => h r (List.mem_cons_of_mem _ hr)
    exact ⟨x :: l, rfl, fun y hy => by
      rcases List.mem_cons.1 hy with e | e
      · rw [e]; exact hx
      · exact hl y e⟩
theorem short_of {α : Type} {l : List α} {g : α → List T} (h : (l.map g).length ≤ maxLen) : short l := by
  rw [List.length_map] at h; exact h
theorem shape_int {ts : List T} (h : Shape Tryz.prog 3 ts) : ∃ n, ts = [I n] := by
  obtain ⟨n, rfl, _⟩ := h.int_inv Tryz.underlying3
  exact ⟨n, rfl⟩
theorem shape_str {ts : List T} (h : Shape Tryz.prog 9 ts) : ∃ s : ByteArray, ts = [.str s] ∧ s.size ≤ 9223372036854775807 := h.str_inv Tryz.underlying9
theorem shape_ints {ts : List T} (h : Shape Tryz.prog 77 ts) : ∃ l : List Int, ts = [intsT l] ∧ short l := by
  obtain ⟨rs, rfl, hl, hr⟩ := h.slice_inv Tryz.underlying77
  obtain ⟨l, rfl⟩ := rows_map (fun a : Int => [I a]) fun r hr' => shape_int (hr r hr')
  exact ⟨l, by rw [cells3]; rfl, short_of hl⟩
theorem shape_texts {ts : List T} (h : Shape Tryz.prog 44 ts) : ∃ l : List ByteArray, ts = [textsT l] ∧ short l ∧ ∀ x ∈ l, x.size ≤ 9223372036854775807 := by
  obtain ⟨rs, rfl, hl, hr⟩ := h.slice_inv Tryz.underlying44
  obtain ⟨l, rfl, hq⟩ := rows_all (fun s : ByteArray => [T.str s]) (fun s => s.size ≤ 9223372036854775807) fun r hr' => shape_str (hr r hr')
  exact ⟨l, by rw [cells9]; rfl, short_of hl, hq⟩
theorem shape_tags {ts : List T} (h : Shape Tryz.prog 22 ts) : ∃ l : List Tg, ts = [.rows 3 (l.map Tg.row)] ∧ short l := by
  obtain ⟨rs, rfl, hl, hr⟩ := h.slice_inv Tryz.underlying22
  obtain ⟨l, rfl⟩ := rows_map Tg.row fun r hr' => by
    obtain ⟨pss, rfl, hl, hp⟩ := (hr r hr').strct_inv Tryz.underlying191
    match pss, hl, hp with
    | [p0, p1, p2], _, hp =>
      obtain ⟨a, rfl⟩ := shape_int (hp 0 _ p0 rfl rfl)
      obtain ⟨b, rfl⟩ := shape_int (hp 1 _ p1 rfl rfl)
      obtain ⟨c, rfl⟩ := shape_int (hp 2 _ p2 rfl rfl)
      exact ⟨⟨a, b, c⟩, rfl⟩
  exact ⟨l, by rw [cells191], short_of hl⟩
theorem shape_nodes {ts : List T} (h : Shape Tryz.prog 26 ts) : ∃ l : List Nd, ts = [nodesT l] ∧ short l ∧ ∀ x ∈ l, x.fine := by
  obtain ⟨rs, rfl, hl, hr⟩ := h.slice_inv Tryz.underlying26
  obtain ⟨l, rfl, hq⟩ := rows_all Nd.row Nd.fine fun r hr' => by
    obtain ⟨pss, rfl, hl, hp⟩ := (hr r hr').strct_inv Tryz.underlying122
    match pss, hl, hp with
    | [p0, p1, p2, p3, p4], _, hp =>
      obtain ⟨a, rfl⟩ := shape_int (hp 0 _ p0 rfl rfl)
      obtain ⟨b, rfl⟩ := shape_int (hp 1 _ p1 rfl rfl)
      obtain ⟨c, rfl⟩ := shape_int (hp 2 _ p2 rfl rfl)
      obtain ⟨s, rfl, hs⟩ := shape_str (hp 3 _ p3 rfl rfl)
      obtain ⟨l, rfl, hl⟩ := shape_ints (hp 4 _ p4 rfl rfl)
      exact ⟨⟨a, b, c, s, l⟩, rfl, hs, hl⟩
  exact ⟨l, by rw [cells122]; rfl, short_of hl, hq⟩
structure ShM (t : TypeId) (ts : List T) : Prop where
  ty : t = 28 → ∃ x : Ty, ts = x.row ∧ x.fine
  fd : t = 107 → ∃ x : Fd, ts = x.row ∧ x.fine
  vl : t = 47 → ∃ x : Vl, ts = x.row ∧ x.fine
  tys : t = 24 → ∃ l : List Ty, ts = [typesT l] ∧ short l ∧ ∀ x ∈ l, x.fine
  fds : t = 23 → ∃ l : List Fd, ts = [fieldsT l] ∧ short l ∧ ∀ x ∈ l, x.fine
  vls : t = 45 → ∃ l : List Vl, ts = [valsT l] ∧ short l ∧ ∀ x ∈ l, x.fine
theorem shape_all {t : TypeId} {ts : List T} (h : Shape Tryz.prog t ts) : ShM t ts := by
  induction h with
  | bool b h => constructor <;> (intro e; subst e; first | (rw [Tryz.underlying28] at h; cases h) | (rw [Tryz.underlying107] at h; cases h) | (rw [Tryz.underlying47] at h; cases h) | (rw [Tryz.underlying24] at h; cases h) | (rw [Tryz.underlying23] at h; cases h) | (rw [Tryz.underlying45] at h; cases h))
  | int n h hw => constructor <;> (intro e; subst e; first | (rw [Tryz.underlying28] at h; cases h) | (rw [Tryz.underlying107] at h; cases h) | (rw [Tryz.underlying47] at h; cases h) | (rw [Tryz.underlying24] at h; cases h) | (rw [Tryz.underlying23] at h; cases h) | (rw [Tryz.underlying45] at h; cases h))
  | str s h hw => constructor <;> (intro e; subst e; first | (rw [Tryz.underlying28] at h; cases h) | (rw [Tryz.underlying107] at h; cases h) | (rw [Tryz.underlying47] at h; cases h) | (rw [Tryz.underlying24] at h; cases h) | (rw [Tryz.underlying23] at h; cases h) | (rw [Tryz.underlying45] at h; cases h))
  | slice rs h hl hr ih =>
    constructor
    · intro e; subst e; rw [Tryz.underlying28] at h; cases h
    · intro e; subst e; rw [Tryz.underlying107] at h; cases h
    · intro e; subst e; rw [Tryz.underlying47] at h; cases h
    · intro e; subst e; rw [Tryz.underlying24] at h; cases h
      obtain ⟨l, rfl, hq⟩ := rows_all Ty.row Ty.fine fun r hr' => (ih r hr').ty rfl
      exact ⟨l, by rw [cells28]; rfl, short_of hl, hq⟩
    · intro e; subst e; rw [Tryz.underlying23] at h; cases h
      obtain ⟨l, rfl, hq⟩ := rows_all Fd.row Fd.fine fun r hr' => (ih r hr').fd rfl
      exact ⟨l, by rw [cells107]; rfl, short_of hl, hq⟩
    · intro e; subst e; rw [Tryz.underlying45] at h; cases h
      obtain ⟨l, rfl, hq⟩ := rows_all Vl.row Vl.fine fun r hr' => (ih r hr').vl rfl
      exact ⟨l, by rw [cells47]; rfl, short_of hl, hq⟩
  | strct pss h hl hp ih =>
    constructor
    · intro e; subst e; rw [Tryz.underlying28] at h; cases h
      match pss, hl, hp, ih with
      | [p0, p1, p2, p3, p4, p5, p6, p7], _, hp, ih =>
        obtain ⟨a0, rfl⟩ := shape_int (hp 0 _ p0 rfl rfl)
        obtain ⟨a1, rfl, h1⟩ := shape_str (hp 1 _ p1 rfl rfl)
        obtain ⟨a2, rfl, h2⟩ := shape_tags (hp 2 _ p2 rfl rfl)
        obtain ⟨a3, rfl, h3, g3⟩ := (ih 3 _ p3 rfl rfl).fds rfl
        obtain ⟨a4, rfl⟩ := (hp 4 _ p4 rfl rfl).bool_inv Tryz.underlying4
        obtain ⟨a5, rfl⟩ := shape_int (hp 5 _ p5 rfl rfl)
        obtain ⟨a6, rfl, h6, g6⟩ := (ih 6 _ p6 rfl rfl).tys rfl
        obtain ⟨a7, rfl, h7, g7⟩ := shape_nodes (hp 7 _ p7 rfl rfl)
        exact ⟨.mk a0 a1 a2 a3 a4 a5 a6 a7, by rw [Ty.row, rowsF_map, rowsY_map]; rfl, h1, h2, h3, (fineF_iff _).2 g3, h6, (fineY_iff _).2 g6, h7, g7⟩
    · intro e; subst e; rw [Tryz.underlying107] at h; cases h
      match pss, hl, hp, ih with
      | [p0, p1, p2, p3, p4, p5], _, hp, ih =>
        obtain ⟨a0, rfl, h0⟩ := shape_str (hp 0 _ p0 rfl rfl)
        obtain ⟨a1, rfl⟩ := shape_int (hp 1 _ p1 rfl rfl)
        obtain ⟨a2, rfl, h2⟩ := (ih 2 _ p2 rfl rfl).ty rfl
        obtain ⟨a3, rfl⟩ := shape_int (hp 3 _ p3 rfl rfl)
        obtain ⟨a4, rfl, h4, g4⟩ := (ih 4 _ p4 rfl rfl).vls rfl
        obtain ⟨a5, rfl⟩ := shape_int (hp 5 _ p5 rfl rfl)
        exact ⟨.mk a0 a1 a2 a3 a4 a5, by rw [Fd.row, rowsV_map]; simp [List.flatten, valsT], h0, h2, h4, (fineV_iff _).2 g4⟩
    · intro e; subst e; rw [Tryz.underlying47] at h; cases h
      match pss, hl, hp, ih with
      | [p0, p1, p2, p3, p4, p5], _, hp, ih =>
        obtain ⟨a0, rfl⟩ := shape_int (hp 0 _ p0 rfl rfl)
        obtain ⟨a1, rfl⟩ := shape_int (hp 1 _ p1 rfl rfl)
        obtain ⟨a2, rfl⟩ := shape_int (hp 2 _ p2 rfl rfl)
        obtain ⟨a3, rfl, h3⟩ := shape_str (hp 3 _ p3 rfl rfl)
        obtain ⟨a4, rfl, h4, g4⟩ := shape_texts (hp 4 _ p4 rfl rfl)
        obtain ⟨a5, rfl, h5, g5⟩ := (ih 5 _ p5 rfl rfl).vls rfl
        exact ⟨.mk a0 a1 a2 a3 a4 a5, by rw [Vl.row, rowsV_map]; rfl, h3, h4, g4, h5, (fineV_iff _).2 g5⟩
    · intro e; subst e; rw [Tryz.underlying24] at h; cases h
    · intro e; subst e; rw [Tryz.underlying23] at h; cases h
    · intro e; subst e; rw [Tryz.underlying45] at h; cases h
theorem shape_ty {ts : List T} (h : Shape Tryz.prog 28 ts) : ∃ x : Ty, ts = x.row ∧ x.fine := (shape_all h).ty rfl
theorem shape_vl {ts : List T} (h : Shape Tryz.prog 47 ts) : ∃ x : Vl, ts = x.row ∧ x.fine := (shape_all h).vl rfl
theorem tyC_row (t : Ty) : t.row.map A.t = tyC t := by
  cases t; rw [Ty.row, rowsF_map, rowsY_map]; rfl
theorem vlC_row (v : Vl) : v.row.map A.t = vlC v := by
  cases v; rw [Vl.row, rowsV_map]; rfl
end Go.Proofs.YtdpbobkcbakpfaaGreatDoor

namespace Go.Proofs.YtdpbobkcbakpfaaGreatDoor
open Go Go.Ab Go.ChangeShapes Go.WideShapes Go.ChangeAt Go.RowKit
set_option maxRecDepth 100000
theorem band {a b : Bool} (ha : a = true) (hb : b = true) : (a && b) = true := by rw [ha, hb]; rfl
noncomputable abbrev PG : Program := Tryz.pinned.checked.prog
theorem own : ownKnob Tryz.prog.godebug = none := by kernel_rfl
theorem laidOut : laidOutB Tryz.prog = true := by kernel_rfl
theorem pLaidOut : laidOutB PG = true := laidOut
theorem pMapsRowed : mapsRowed PG = true := by kernel_rfl
theorem pStops : (PG.stops == []) = true := by kernel_rfl
theorem pStopKnobs : (PG.stopKnobs == []) = true := by kernel_rfl
theorem pPlainKeys : PG.plainKeys = true := by kernel_rfl
theorem pHeard : PG.stopsHeard = true := by kernel_rfl
theorem pMayEnter : PG.mayEnter = true := by kernel_rfl
theorem pLifts : (Rows.limitsChecksRow.lifted == PG.liftsFinal) = true := by kernel_rfl
theorem pMake : (PG.make == some Rows.limitsChecksRow.make) = true := by kernel_rfl
theorem globHolds {w : World} (h : w.ShapedOpen Tryz.prog) : ∃ m, w.cell? ⟨globB, 0, none⟩ = some (.int .i64 m) :=
  Go.Proofs.cell_of_shapedOpen_int (zero := #[.int .i64 0]) (t := 3) h (of_decide_eq_true (by kernel_rfl)) (by kernel_rfl) rfl (by kernel_rfl) (by kernel_rfl) Tryz.underlying3
def tyTypes : List TypeId := [28, 9, 3, 22, 191, 23, 107, 4, 24, 26, 122, 77, 45, 47, 44]
theorem trees : treeTypes Tryz.prog tyTypes = true := by kernel_rfl
def type0 : Value := .agg #[.int .i64 0, .string ⟨#[]⟩, .slice none 0 0, .slice none 0 0, .bool false, .int .i64 0, .slice none 0 0, .slice none 0 0]
end Go.Proofs.YtdpbobkcbakpfaaGreatDoor

namespace Go.Proofs.YtdpbobkcbakpfaaGreatDoor
open Go Go.Ab Go.ChangeShapes Go.WideShapes Go.ChangeAt Go.RowKit
set_option maxRecDepth 100000
namespace lawChecks
theorem reads3 : (Tryz.f3.params.toList.all fun t => Tryz.prog.readableRec t && decide (t < Tryz.prog.types.size)) = true := by kernel_rfl
theorem shapes (tss : List (List T)) (h : ShapeAll Tryz.prog Tryz.f3.params.toList tss) : PSp Tryz.prog 3 (argsD Tryz.prog Tryz.f3.params.toList tss) (.one (.t (.bool true))) := by
  rw [Tryz.params3] at h ⊢
  match tss, h with
  | [x, y], h =>
    obtain ⟨h1, h2, _⟩ := h
    obtain ⟨t, rfl, ht⟩ := shape_ty h1
    obtain ⟨s, rfl, hs⟩ := shape_str h2
    have e : argsD Tryz.prog [28, 9] [t.row, [T.str s]] = [.agg (tyC t), .one (.t (.str s))] := by
      simp [argsD, argD, Tryz.underlying28, Tryz.underlying9, tyC_row]
    show PSp Tryz.prog 3 (argsD Tryz.prog [28, 9] [t.row, [T.str s]]) _
    rw [e]
    exact P3 awakeP t s ht hs
theorem contract (H : Type) (enc : TypeId × Value → H) (W : World) (base : Nat) (args : Array Value) (ds gs : List (DataW H)) (before : List MemPlace)
    (hval : ∀ (j : Nat) t v, Tryz.f3.params[j]? = some t → args[j]? = some v → Value.okWide Tryz.prog W .any base t v)
    (hW : DataW.Whole enc Tryz.prog Tryz.f3.params.toList Rows.limitsChecksSpec.vars false W args.toList ds gs before) (hsh : W.ShapedOpen Tryz.prog) :
    Calls Tryz.prog 3 args W fun e W' => ∃ v, e = .returned v ∧ Rows.limitsChecksSpec.post enc Tryz.prog Tryz.f3 false true false false W args v W' :=
  law_contract (l := tyTypes) trees (by kernel_rfl) laidOut reads3 shapes rfl Tryz.underlying4 rfl (fun H ds hl => by
    match ds, hl with
    | [d1, d2], _ => rfl) W base args ds gs before hval hW (globHolds hsh)
noncomputable def world (os : Os) : World := World.laidAll Tryz.prog os Rows.limitsChecksRow.laid
def args0 : Array Value := #[type0, .string ⟨#[]⟩]
theorem laid_met (os : Os) : laidMetH Tryz.prog Rows.limitsChecksRow.laid ((world os).forCall (fun _ _ => 0) ⟨#[], args0, []⟩).memory := by
  rw [MakeChecks.laidMetH_plain _ _ _ (by kernel_rfl)]
  exact laidMet_laidAll _ (by kernel_rfl) (by kernel_rfl)
theorem reads (os : Os) {H : Type} (enc : TypeId × Value → H) : DataW.whole enc Tryz.prog ((world os).forCall (fun _ _ => 0) ⟨#[], args0, []⟩).memory Tryz.f3.params.toList (OpenSpec.ofChange Rows.limitsChecksSpec).vars false args0.toList 8 = some ([.agg [.lit (.int .i64 0), .lit (.string []), .nil, .nil, .lit (.bool false), .lit (.int .i64 0), .nil, .nil], .lit (.string [])], [], []) := by kernel_rfl
theorem witness1 (os : Os) : ((world os).forCall (fun _ _ => 0) ⟨#[], args0, []⟩).Shaped Tryz.prog := World.shaped_of_ZipB (by kernel_rfl) (by kernel_rfl)
theorem pre (os : Os) (H : Type) (enc : TypeId × Value → H) : (OpenSpec.ofChange Rows.limitsChecksSpec).preRow enc Tryz.prog Tryz.f3 Rows.limitsChecksRow.domain false Rows.limitsChecksRow.laid ((world os).forCall (fun _ _ => 0) ⟨#[], args0, []⟩).memory args0 :=
  OpenSpec.preRow_of_cond 8 (reads os enc) (by kernel_rfl) (fun k hk => by cases hk) (by kernel_rfl) (laid_met os)
theorem okIn (os : Os) : Input.okWideB Tryz.prog ((world os).forCall (fun _ _ => 0) ⟨#[], args0, []⟩) 3 ⟨#[], args0, []⟩ = true := by kernel_rfl
theorem lifted (os : Os) (started : os.Started) (H : Type) (enc : TypeId × Value → H) (F : Stop.Interp) :
    ReturnsInHanded {} Tryz.checked os 3 .any ((OpenSpec.ofChange Rows.limitsChecksSpec).preRow enc Tryz.prog Tryz.f3 Rows.limitsChecksRow.domain false Rows.limitsChecksRow.laid) (((OpenSpec.ofChange Rows.limitsChecksSpec).at F).post enc Tryz.prog Tryz.f3 false true false false) := by
  refine returnsInHanded_of_row (C := Tryz.checked) (s := OpenSpec.ofChange Rows.limitsChecksSpec) own started (by kernel_rfl) Tryz.func3
    ⟨world os, fun _ _ => 0, ⟨#[], args0, []⟩, World.laidAll_os _ _ _, witness1 os, rfl, (Input.okWide_of_okWideB (okIn os)).2, pre os H enc, by
      simp only [Assume.holds]
      refine ⟨?_, ?_, ?_, ?_, ?_, ?_⟩ <;> first | (intro h; cases h; done) | (intro d h; cases h; done)⟩ ?_
  intro W base args ds gs before hval hW _ _ _ _ hsh _
  exact contract H enc W base args ds gs before hval hW hsh
theorem wf : Rows.limitsChecksRow.wf (OpenSpec.ofChange (OpenSpec.ofChange Rows.limitsChecksSpec).bare) = true := by kernel_rfl
theorem inPlace : (Rows.limitsChecksRow.inPlace == PG.inPlace 3) = true := by kernel_rfl
theorem unfollowed : (Rows.limitsChecksRow.unfollowed == PG.unfollowed 3) = true := by kernel_rfl
theorem recurses : (Rows.limitsChecksRow.recurses == PG.recurses 3) = true := by kernel_rfl
theorem named : (Rows.limitsChecksRow.named == PG.varsNamed 3) = true := by kernel_rfl
theorem tie3 : namedTie PG Rows.limitsChecksRow.named (OpenSpec.ofChange Rows.limitsChecksSpec).bare.vars = true := by kernel_rfl
theorem closed : joinedFacts PG 3 Tryz.f3 (OpenSpec.ofChange Rows.limitsChecksSpec).bare Rows.limitsChecksRow = true := by
  unfold joinedFacts
  refine band (band (band (band (band (band (band (band (band (band (band (band (band (band (band (band (band (band (band (band (band (band (band (band (band (band (band (band (band (band (band wf pLaidOut) pMapsRowed) ?_) tie3) ?_) pStops) ?_) pStopKnobs) inPlace) unfollowed) recurses) named) ?_) ?_) ?_) ?_) ?_) ?_) ?_) ?_) ?_) ?_) ?_) pHeard) pMayEnter) pLifts) pMake) ?_) ?_) ?_) ?_
  all_goals kernel_rfl
theorem said : Rows.LimitsChecksSaid :=
  OpenClaim.holds_of_cond 3 Tryz.f3 rfl rfl rfl rfl rfl rfl rfl ⟨rfl, rfl, rfl, rfl, rfl⟩ rfl rfl rfl rfl rfl (by kernel_rfl) Tryz.func3 closed
    (of_decide_eq_true (by kernel_rfl)) (by unfold Func.isWrapper; first | (rw [if_pos (by decide +kernel)]; kernel_rfl) | (rw [if_neg (by decide +kernel)]; exact ⟨rfl, rfl⟩))
    (fun os started H enc _ F => by rw [OpenClaim.pre_eq_preRow]; exact lifted os started H enc F)
theorem plain (f : FuncId) (fn : Func) (hf : Tryz.pinned.checked.prog.funcNamed "examiner/examinerlaw04.LimitsChecks" = some f) (hfn : Tryz.pinned.checked.prog.funcs[f]? = some fn) :
    false = Tryz.pinned.checked.prog.looks [] ∧ ∀ (j : Nat) t, fn.params[j]? = some t → Tryz.pinned.checked.prog.wantsStandIn t = false := by
  obtain rfl : f = 3 := Option.some.inj ((show Tryz.prog.funcNamed "examiner/examinerlaw04.LimitsChecks" = some 3 by kernel_rfl).symm.trans hf) |>.symm
  obtain rfl : fn = Tryz.f3 := (Option.some.inj (Tryz.func3.symm.trans hfn)).symm
  refine ⟨by kernel_rfl, fun j t ht => ?_⟩
  rw [Tryz.params3] at ht
  have : t = 28 ∨ t = 9 := by simpa using Array.mem_of_getElem? ht
  rcases this with rfl | rfl
  · exact (show Tryz.prog.wantsStandIn 28 = false by kernel_rfl)
  · exact (show Tryz.prog.wantsStandIn 9 = false by kernel_rfl)
theorem card : Rows.LimitsChecksCardSaid :=
  Claim7.holds_tied_plain_at .later [] _ _ _ _ said (fun _ h => by cases h) (by kernel_rfl) (fun _ h => by cases h) limitsChecks_row_tie rfl ⟨rfl, rfl⟩ (by kernel_rfl) rfl plain (by kernel_rfl)
end lawChecks
#print axioms lawChecks.card
end Go.Proofs.YtdpbobkcbakpfaaGreatDoor

