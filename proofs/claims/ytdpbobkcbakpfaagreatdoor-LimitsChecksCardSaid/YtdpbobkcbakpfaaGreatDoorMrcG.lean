/- Texts of this proof, laid one behind the other (Nt, Nt2, Nt3, Nt4, Nt5, Vc, Vo, Pz, Vw, Vx, Ty1, Ty2, Rs). -/
import Derived.Test.YtdpbobkcbakpfaaGreatDoorMrcF
namespace Go.Proofs.YtdpbobkcbakpfaaGreatDoor
open Go Go.Ab
set_option maxRecDepth 100000
set_option maxHeartbeats 4000000
def tyC (t : Ty) : List A := [.t (I t.kind), .t (.str t.name), .t (tagsT t.tags), .t (fieldsT t.fields), .t (.bool t.opn), .t (I t.root), .t (typesT t.of), .t (nodesT t.limits)]
def fdC (f : Fd) : List A := [.t (.str f.name), .t (I f.num), .t (I f.ty.kind), .t (.str f.ty.name), .t (tagsT f.ty.tags), .t (fieldsT f.ty.fields), .t (.bool f.ty.opn), .t (I f.ty.root), .t (typesT f.ty.of), .t (nodesT f.ty.limits), .t (I f.pres), .t (valsT f.dflt), .t (I f.grp)]
def vlC (v : Vl) : List A := [.t (I v.kind), .t (I v.n), .t (I v.e), .t (.str v.s), .t (textsT v.names), .t (valsT v.items)]
def ndC (x : Nd) : List A := [.t (I x.k), .t (I x.lo), .t (I x.hi), .t (.str x.s), .t (intsT x.args)]
theorem tyC_eq (t : Ty) : t.row.map A.t = tyC t := by rw [Ty.row_eq]; rfl
theorem fdC_eq (f : Fd) : f.row.map A.t = fdC f := by rw [Fd.row_eq]; rfl
theorem vlC_eq (v : Vl) : v.row.map A.t = vlC v := by rw [Vl.row_eq]; rfl
theorem ndC_eq (x : Nd) : x.row.map A.t = ndC x := rfl
def Ty.isZ (t : Ty) : Bool := t.kind == 0 && seqB t.name (bs []) && (t.tags.length : Int) == 0 && (t.fields.length : Int) == 0 && !t.opn && t.root == 0 && (t.of.length : Int) == 0 && (t.limits.length : Int) == 0
def Fd.alone (f : Fd) : Bool := f.pres == 0 && (f.dflt.length : Int) == 0 && f.grp == 0
def Fd.fits (k : Int) (f : Fd) : Bool :=
  if k == 3 then f.alone && f.ty.isZ else if k == 14 then f.alone && f.ty.isZ && f.num == 0 else if k == 15 then f.alone && f.num == 0 && seqB f.name (bs [])
  else if k == 13 then f.num == 0 && f.pres == 0 && (f.dflt.length : Int) == 0 else f.num == 0 && (f.pres == 2 || (f.dflt.length : Int) == 0)
attribute [local simp] tagsT fieldsT typesT nodesT valsT textsT intsT tyC fdC vlC ndC
attribute [local simp] c214r0 c214r1 c214 in
theorem P214 (t : Ty) : PSp Tryz.prog 214 [.agg (tyC t)] (.one (.t (.bool t.isZ))) := by
  refine k214.pureK (by simp) (by simp [D.closed, A.closed]) rfl ?_
  simp -implicitDefEqProofs [-guardOk, -gval, pureEnd, Ty.isZ, seqB]
attribute [local simp] c175r0 c175r1 c175r2 c175r3 c175r4 c175r5 c175r6 c175r7 c175r8 c175r9 c175r10 c175r11 c175 in
theorem P175 (k : Int) (f : Fd) : PSp Tryz.prog 175 [.one (.t (I k)), .agg (fdC f)] (.one (.t (.bool (f.fits k)))) := by
  refine k175.pureK (by simp) (by simp [D.closed, A.closed]) rfl ?_
  obtain ⟨a, hb⟩ : ∃ a, (f.pres == 0 && (f.dflt.length : Int) == 0 && f.grp == 0) = a := ⟨_, rfl⟩
  have ha : f.alone = a := hb
  rcases eqCases k 3 with rfl | q3
  · cases a
    · simp -implicitDefEqProofs [-guardOk, -gval, hb, ha, Fd.fits, pureEnd]
    · simp -implicitDefEqProofs [-guardOk, -gval, hb]
      refine callK.tree (P214 _) rfl ?_
      simp -implicitDefEqProofs [-guardOk, -gval, Fd.fits, ha, pureEnd]
  · rcases eqCases k 14 with rfl | q14
    · cases a
      · simp -implicitDefEqProofs [-guardOk, -gval, q3, hb, ha, Fd.fits, pureEnd]
      · simp -implicitDefEqProofs [-guardOk, -gval, q3, hb]
        refine callK.tree (P214 _) rfl ?_
        cases hz : f.ty.isZ
        · simp -implicitDefEqProofs [-guardOk, -gval, q3, Fd.fits, ha, hz, pureEnd]
        · simp -implicitDefEqProofs [-guardOk, -gval, q3, Fd.fits, ha, hz, pureEnd]
    · rcases eqCases k 15 with rfl | q15
      · simp -implicitDefEqProofs [-guardOk, -gval, q3, q14, Fd.fits, ha, hb, seqB, pureEnd]
      · rcases eqCases k 13 with rfl | q13
        · simp -implicitDefEqProofs [-guardOk, -gval, q3, q14, q15, Fd.fits, hb, pureEnd]
        · simp -implicitDefEqProofs [-guardOk, -gval, q3, q14, q15, q13, Fd.fits, hb, pureEnd]
          intro h; simp [h]
end Go.Proofs.YtdpbobkcbakpfaaGreatDoor

namespace Go.Proofs.YtdpbobkcbakpfaaGreatDoor
open Go Go.Ab
set_option maxRecDepth 100000
set_option maxHeartbeats 4000000
attribute [local simp] tagsT fieldsT typesT nodesT valsT textsT intsT tyC fdC vlC ndC
def Look (f : FuncId) (h : Hp) (xs : List D) (r : D) : Prop := ∀ n, ISp Tryz.prog f h n xs r h
attribute [local simp] c174r0 c174r1 c174 in
theorem K174 (t : Ty) (f : Fd) (h : Hp) (id : Nat) (hid : h id = some (.arr 0 false 8 [tyC t])) : Look 174 h [.agg (fdC f), .one (.ptr ⟨id, 0, 8, 0, 0⟩)] (.one (.t (.bool (!f.fits t.kind)))) := fun n => by
  refine ISp.ok fun ho => ?_
  have hlt := ltOf ho hid
  refine k174.ispK (by simp) ?_
  obtain ⟨o1, o2, o3, o4⟩ := objF hid
  have hne : ¬ id = n := by omega
  simp -implicitDefEqProofs [-guardOk, -gval, o1, o2, o3, hne]
  refine callK.tree (P175 _ f) rfl ?_
  simp -implicitDefEqProofs [-guardOk, -gval]
  exact impEnd_t (.inr rfl) (by simp) (fun j hj => by simp [Hp.set]; omega) ho
attribute [local simp] c176r0 c176r1 c176 in
theorem P176 (f : Fd) : PSp Tryz.prog 176 [.agg (fdC f)] (.one (.t (.bool (f.grp != 0)))) := by
  refine k176.pureK (by simp) (by simp [D.closed, A.closed]) rfl ?_
  simp -implicitDefEqProofs [-guardOk, -gval, pureEnd]
attribute [local simp] c183r0 c183r1 c183 in
theorem P183 (f : Fd) : PSp Tryz.prog 183 [.agg (fdC f)] (.one (.t (.bool (!(decide (-1152921504606846976 ≤ f.num) && decide (f.num ≤ 1152921504606846976)))))) := by
  refine k183.pureK (by simp) (by simp [D.closed, A.closed]) rfl ?_
  simp -implicitDefEqProofs [-guardOk, -gval]
  refine callK.tree (P184 _) rfl ?_
  simp -implicitDefEqProofs [-guardOk, -gval, pureEnd]
attribute [local simp] c216r0 c216r1 c216 in
theorem P216 (f : Fd) : PSp Tryz.prog 216 [.agg (fdC f)] (.one (.t (.bool (f.pres == 2 && (f.dflt.length : Int) != 1)))) := by
  refine k216.pureK (by simp) (by simp [D.closed, A.closed]) rfl ?_
  simp -implicitDefEqProofs [-guardOk, -gval, pureEnd]
attribute [local simp] c220r0 c220r1 c220 in
theorem P220 (f : Fd) (hf : f.name.size ≤ 9223372036854775807) : PSp Tryz.prog 220 [.agg (fdC f)] (.one (.t (.bool (!nameOk f.name)))) := by
  refine k220.pureK (by simp) (by simp [D.closed, A.closed]) rfl ?_
  simp -implicitDefEqProofs [-guardOk, -gval]
  refine callK.tree (P219 _ hf) rfl ?_
  simp -implicitDefEqProofs [-guardOk, -gval, pureEnd]
attribute [local simp] c221r0 c221r1 c221 in
theorem K221 (t : Ty) (f g : Fd) (h : Hp) (id jd : Nat) (hid : h id = some (.arr 0 false 13 [fdC f])) (hjd : h jd = some (.arr 0 false 8 [tyC t])) : Look 221 h [.agg (fdC g), .one (.ptr ⟨id, 0, 13, 0, 0⟩), .one (.ptr ⟨jd, 0, 8, 0, 0⟩)] (.one (.t (.bool (seqB g.name f.name || (t.kind == 3 && g.num == f.num))))) := fun n => by
  refine ISp.ok fun ho => ?_
  have hlt := ltOf ho hid
  have hlt2 := ltOf ho hjd
  refine k221.ispK (by simp) ?_
  obtain ⟨o1, o2, o3, o4⟩ := objF hid
  obtain ⟨p1, p2, p3, p4⟩ := objF hjd
  have hne : ¬ id = n := by omega
  have hne2 : ¬ jd = n := by omega
  rcases Bool.eq_false_or_eq_true (g.name.toList == f.name.toList) with hb | hb
  · simp -implicitDefEqProofs [-guardOk, -gval, o1, o2, o3, hne, p1, p2, p3, hne2, hb]
    exact impEnd_t (.inr rfl) (by simp [seqB, hb]) (fun j hj => by simp [Hp.set]; omega) ho
  · simp -implicitDefEqProofs [-guardOk, -gval, o1, o2, o3, hne, p1, p2, p3, hne2, hb]
    exact impEnd_t (.inr rfl) (by simp [seqB, hb]) (fun j hj => by simp [Hp.set]; omega) ho
attribute [local simp] c256r0 c256r1 c256r2 c256r3 c256r4 c256r5 c256r6 c256b7 c256r7 c256 in
theorem P256 (l : List ByteArray) (s : ByteArray) (hl : short l) : PSp Tryz.prog 256 [.one (.t (textsT l)), .one (.t (.str s))] (.one (.t (I (idxOf l fun x => seqB s x)))) := by
  refine k256.pureK (by simp) rfl rfl ?_
  simp -implicitDefEqProofs [-guardOk, -gval, textsT]
  refine loopIdx l (fun x => seqB s x) [0, 1, 7] [] (fun i st => st.tmps 8 = .one (.t (I i))) hl ⟨by simp, by simp, by simp⟩ ?_ ?_
  · intro i y st hi hiI hw hg hy hany hx hk hh
    simp at hk
    simp -implicitDefEqProofs [-guardOk, -gval, hx, hk, hiI, hi, rowAtM hg, hw, pureEnd]
    exact ⟨fun e => by simp [idxOf, hany (by simp [seqB, e])], fun e => by simp [seqB, e]⟩
  · intro st hany hx hk hh
    simp at hk
    simp -implicitDefEqProofs [-guardOk, -gval, hx, hk, pureEnd, idxOf, hany]
attribute [local simp] c218r0 c218r1 c218 in
theorem P218 (l : List ByteArray) (s : ByteArray) (hl : short l) : PSp Tryz.prog 218 [.one (.t (textsT l)), .one (.t (.str s))] (.one (.t (.bool (l.any fun x => seqB s x)))) := by
  refine k218.pureK (by simp) rfl rfl ?_
  simp -implicitDefEqProofs [-guardOk, -gval, textsT]
  refine callK.tree (P256 l s hl) rfl ?_
  simp -implicitDefEqProofs [-guardOk, -gval, pureEnd, idxOf_any]
end Go.Proofs.YtdpbobkcbakpfaaGreatDoor

namespace Go.Proofs.YtdpbobkcbakpfaaGreatDoor
open Go Go.Ab
set_option maxRecDepth 100000
set_option maxHeartbeats 4000000
attribute [local simp] tagsT fieldsT typesT nodesT valsT textsT intsT tyC fdC vlC ndC
theorem any173 (l : List Fd) (hl : short l) (p : Fd → Bool) (clo : FuncId) (hc : callable Tryz.prog clo = true) (hp : ∀ x ∈ l, PSp Tryz.prog clo [.agg (fdC x)] (.one (.t (.bool (p x))))) (h : Hp) (n : Nat) :
    ISp Tryz.prog 173 h n [.one (.t (fieldsT l)), .one (.fn clo [])] (.one (.t (.bool (l.any p)))) h :=
  C173 l hl p clo [] h n hc fun x hx new K hn hK => callK.tree (by rw [fdC_eq]; exact hp x hx) (by simp [D.flatT, flatA]) hK
theorem any173c (l : List Fd) (hl : short l) (p : Fd → Bool) (clo : FuncId) (caps : List Pt) (hc : callable Tryz.prog clo = true) (h : Hp) (hp : ∀ x ∈ l, Look clo h (.agg (fdC x) :: caps.map fun q => .one (.ptr q)) (.one (.t (.bool (p x))))) (n : Nat) :
    ISp Tryz.prog 173 h n [.one (.t (fieldsT l)), .one (.fn clo caps)] (.one (.t (.bool (l.any p)))) h :=
  C173 l hl p clo caps h n hc fun x hx new K hn hK => callK.imp (by rw [fdC_eq]; exact hp x hx new) hK
def hasLim (k : Int) : Bool := (k == 11 || k == 12) || (k == 2 || k == 4 || k == 5 || k == 6 || k == 15)
attribute [local simp] c254r0 c254r1 c254r2 c254r3 c254r4 c254r5 c254r6 c254b7 c254r7 c254 in
theorem P254 (l : List Int) (n : Int) (hl : short l) : PSp Tryz.prog 254 [.one (.t (intsT l)), .one (.t (I n))] (.one (.t (I (idxOf l fun x => n == x)))) := by
  refine k254.pureK (by simp) rfl rfl ?_
  simp -implicitDefEqProofs [-guardOk, -gval]
  refine loopIdx l (fun x => n == x) [0, 1, 7] [] (fun i st => st.tmps 8 = .one (.t (I i))) hl ⟨by simp, by simp, by simp⟩ ?_ ?_
  · intro i y st hi hiI hw hg hy hany hx hk hh
    simp at hk
    simp -implicitDefEqProofs [-guardOk, -gval, hx, hk, hiI, hi, rowAtM hg, hw, pureEnd]
    exact fun e => by simp [idxOf, hany (by simp [e])]
  · intro st hany hx hk hh
    simp at hk
    simp -implicitDefEqProofs [-guardOk, -gval, hx, hk, pureEnd, idxOf, hany]
attribute [local simp] c215r0 c215r1 c215 in
theorem P215 (l : List Int) (n : Int) (hl : short l) : PSp Tryz.prog 215 [.one (.t (intsT l)), .one (.t (I n))] (.one (.t (.bool (l.any fun x => n == x)))) := by
  refine k215.pureK (by simp) rfl rfl ?_
  simp -implicitDefEqProofs [-guardOk, -gval]
  refine callK.tree (P254 l n hl) rfl ?_
  simp -implicitDefEqProofs [-guardOk, -gval, pureEnd, idxOf_any]
attribute [local simp] c178r0 c178r1 c178 in
theorem P178 (k : Int) : PSp Tryz.prog 178 [.one (.t (I k))] (.one (.t (.bool (hasLim k)))) := by
  refine k178.pureK (by simp) rfl rfl ?_
  simp -implicitDefEqProofs [-guardOk, -gval]
  refine callK.tree (P177 _) rfl ?_
  cases hb : (k == 11 || k == 12) with
  | true => simp -implicitDefEqProofs [-guardOk, -gval, pureEnd, hasLim, hb]
  | false =>
    simp -implicitDefEqProofs [-guardOk, -gval]
    refine callK.pure (P215 [2, 4, 5, 6, 15] k (by simp [short])) (by simp) (by simp) ?_
    simp -implicitDefEqProofs [-guardOk, -gval, pureEnd, hasLim, hb, Bool.or_assoc]
def ne0 (x : Int) : Option Int := if x != 0 then some x else none
def firstE (l : List Int) : Int := (l.findSome? ne0).getD 0
attribute [local simp] c179r0 c179r1 c179r2 c179r3 c179r4 c179r5 c179r6 c179b7 c179r7 c179 in
theorem P179 (l : List Int) (hl : short l) : PSp Tryz.prog 179 [.one (.t (intsT l))] (.one (.t (I (firstE l)))) := by
  refine k179.pureK (by simp) rfl rfl ?_
  simp -implicitDefEqProofs [-guardOk, -gval]
  refine loopFind l ne0 [5, 6] [] (fun i st => st.tmps 7 = .one (.t (I i))) hl ⟨by simp, by simp, by simp⟩ ?_ ?_
  · intro i y st hi hiI hw hg hy hany hx hk hh
    simp at hk
    rcases eqCases y 0 with e | e
    · simp -implicitDefEqProofs [-guardOk, -gval, hx, hk, hiI, hi, rowAtM hg, hw, e, ne0]
    · simp -implicitDefEqProofs [-guardOk, -gval, hx, hk, hiI, hi, rowAtM hg, e, pureEnd]
      simp [firstE, hany y (by simp [e, ne0])]
  · intro st hany hx hk hh
    simp at hk
    simp -implicitDefEqProofs [-guardOk, -gval, hx, hk, pureEnd, firstE, hany]
def Ty.shape1 (t : Ty) : Bool := ((t.kind == 11 || t.kind == 12) && (t.of.length : Int) != 1) || ((t.kind == 3 || t.kind == 13) && decide (t.root < 1))
def Ty.shape2 (t : Ty) : Bool := t.kind == 14 && ((seqB t.name (bs []) && decide ((t.fields.length : Int) > 0)) || (!seqB t.name (bs []) && (t.fields.length : Int) != 2 && (t.fields.length : Int) != 3))
def Ty.inShape (t : Ty) : Bool := !t.shape1 && !t.shape2 && !(t.fields.any fun f => f.pres == 2 && (f.dflt.length : Int) != 1) && isTreeF t.limits
theorem bb (a : Bool) : a = true ∨ a = false := by cases a <;> simp
def TB (t : Ty) (i : Nat) (st : St) : Prop := st.tmps i = .one (.ptr ⟨0, 0, 8, 0, 0⟩) ∧ st.heap 0 = some (.arr 0 false 8 [tyC t])
attribute [local simp] c180r0 c180r1 c180r2 c180t3 c180r3 c180r4 c180r5 c180t7 c180t8 c180r6 c180r7 c180t11 c180t12 c180 in
theorem shape_rest (t : Ty) (hl : short t.fields) (ha : ∀ x ∈ t.limits, x.args.length ≤ 1000000) (st : St) (h1 : TB t 1 st) :
    awpK Tryz.prog 67 (pureEnd [.tmp 2] (.one (.t (.bool (!t.shape2 && !(t.fields.any fun f => f.pres == 2 && (f.dflt.length : Int) != 1) && isTreeF t.limits))))) c180t11 [] st := by
  obtain ⟨h1, h2⟩ := h1
  obtain ⟨o1, o2, o3, o4⟩ := objF h2
  obtain ⟨a, e0⟩ : ∃ a, (t.kind == 14) = a := ⟨_, rfl⟩
  obtain ⟨b, e1⟩ : ∃ b, (t.name.toList == (bs []).toList) = b := ⟨_, rfl⟩
  obtain ⟨c, e2⟩ : ∃ c, decide (0 < t.fields.length) = c := ⟨_, rfl⟩
  have e2' : decide ((t.fields.length : Int) > 0) = c := by rw [← e2]; congr 1; simp
  obtain ⟨d, e3⟩ : ∃ c, ((t.fields.length : Int) == 2) = c := ⟨_, rfl⟩
  obtain ⟨e, e4⟩ : ∃ c, ((t.fields.length : Int) == 3) = c := ⟨_, rfl⟩
  have s2 : t.shape2 = (a && ((b && c) || (!b && !d && !e))) := by
    simp only [Ty.shape2, seqB, e0, e1, e2', bne, e3, e4]
  rw [s2]
  have hany := any173 t.fields hl (fun f => f.pres == 2 && (f.dflt.length : Int) != 1) 216 (by kernel_rfl) (fun x hx => P216 x)
  generalize (t.fields.any fun f => f.pres == 2 && (f.dflt.length : Int) != 1) = q at *
  have tree := isTreeP t.limits ha
  rcases bb a with rfl | rfl
  · rcases bb b with rfl | rfl
    · rcases bb c with rfl | rfl
      · simp -implicitDefEqProofs [-guardOk, -gval, h1, o1, o2, o3, e0, e1, e2, pureEnd]
      · simp -implicitDefEqProofs [-guardOk, -gval, h1, o1, o2, o3, e0, e1, e2]
        refine callK.imp (hany _ _) ?_
        cases q
        · simp -implicitDefEqProofs [-guardOk, -gval, h1, o1, o2, o3]
          refine callK.tree tree rfl ?_
          simp -implicitDefEqProofs [-guardOk, -gval, pureEnd]
        · simp -implicitDefEqProofs [-guardOk, -gval, pureEnd]
    · rcases bb d with rfl | rfl
      · simp -implicitDefEqProofs [-guardOk, -gval, h1, o1, o2, o3, e0, e1, e3, bne]
        refine callK.imp (hany _ _) ?_
        cases q
        · simp -implicitDefEqProofs [-guardOk, -gval, h1, o1, o2, o3]
          refine callK.tree tree rfl ?_
          simp -implicitDefEqProofs [-guardOk, -gval, pureEnd]
        · simp -implicitDefEqProofs [-guardOk, -gval, pureEnd]
      · rcases bb e with rfl | rfl
        · simp -implicitDefEqProofs [-guardOk, -gval, h1, o1, o2, o3, e0, e1, e3, e4, bne]
          refine callK.imp (hany _ _) ?_
          cases q
          · simp -implicitDefEqProofs [-guardOk, -gval, h1, o1, o2, o3]
            refine callK.tree tree rfl ?_
            simp -implicitDefEqProofs [-guardOk, -gval, pureEnd]
          · simp -implicitDefEqProofs [-guardOk, -gval, pureEnd]
        · simp -implicitDefEqProofs [-guardOk, -gval, h1, o1, o2, o3, e0, e1, e3, e4, bne, pureEnd]
  · simp -implicitDefEqProofs [-guardOk, -gval, h1, o1, o2, o3, e0]
    refine callK.imp (hany _ _) ?_
    cases q
    · simp -implicitDefEqProofs [-guardOk, -gval, h1, o1, o2, o3]
      refine callK.tree tree rfl ?_
      simp -implicitDefEqProofs [-guardOk, -gval, pureEnd]
    · simp -implicitDefEqProofs [-guardOk, -gval, pureEnd]
attribute [local simp] c180r0 c180r1 c180r2 c180t3 c180r3 c180r4 c180r5 c180t7 c180t8 c180r6 c180r7 c180t12 c180 in
theorem P180 (t : Ty) (hl : short t.fields) (ha : ∀ x ∈ t.limits, x.args.length ≤ 1000000) : PSp Tryz.prog 180 [.agg (tyC t)] (.one (.t (.bool t.inShape))) := by
  refine k180.pureK (by simp) (by simp [D.closed, A.closed]) rfl ?_
  obtain ⟨a, e0⟩ : ∃ a, (t.kind == 11 || t.kind == 12) = a := ⟨_, rfl⟩
  obtain ⟨b, e1⟩ : ∃ b, ((t.of.length : Int) != 1) = b := ⟨_, rfl⟩
  obtain ⟨c, e2⟩ : ∃ c, (t.kind == 3) = c := ⟨_, rfl⟩
  obtain ⟨d, e3⟩ : ∃ d, (t.kind == 13) = d := ⟨_, rfl⟩
  obtain ⟨e, e4⟩ : ∃ e, decide (t.root < 1) = e := ⟨_, rfl⟩
  have s1 : t.inShape = (!((a && b) || ((c || d) && e)) && (!t.shape2 && !(t.fields.any fun f => f.pres == 2 && (f.dflt.length : Int) != 1) && isTreeF t.limits)) := by
    simp only [Ty.inShape, Ty.shape1, e0, e1, e2, e3, e4, Bool.and_assoc]
  rw [s1]
  have rest := shape_rest t hl ha
  generalize (!t.shape2 && !(t.fields.any fun f => f.pres == 2 && (f.dflt.length : Int) != 1) && isTreeF t.limits) = R at *
  simp -implicitDefEqProofs [-guardOk, -gval]
  refine callK.tree (P177 _) rfl ?_
  rw [e0]
  rcases bb a with rfl | rfl <;> rcases bb b with rfl | rfl <;> rcases bb c with rfl | rfl <;> rcases bb d with rfl | rfl <;> rcases bb e with rfl | rfl
  all_goals simp -implicitDefEqProofs [-guardOk, -gval, e1, e2, e3, e4, pureEnd]
  all_goals exact rest _ ⟨by simp, by simp [Hp.set]⟩
end Go.Proofs.YtdpbobkcbakpfaaGreatDoor

namespace Go.Proofs.YtdpbobkcbakpfaaGreatDoor
open Go Go.Ab
set_option maxRecDepth 100000
set_option maxHeartbeats 4000000
attribute [local simp] tagsT fieldsT typesT nodesT valsT textsT intsT tyC fdC vlC ndC
theorem loopRec {P : Program} {n : Nat} {A : Exit → St → Prop} {ks : List KF} {st : St} {x : ACode} {α σ ρ : Type} (l : List α) (G : Nat → List α → σ → ρ) (R : ρ) (s0 : σ) (kt kh : List Nat) (X : Nat → σ → St → Prop) (hs : short l) (hR : G 0 l s0 = R) (h0 : X 0 s0 st ∧ KeepT kt st.tmps st.tmps ∧ KeepH kh st.heap st.heap st.nx)
    (round : ∀ i y s st', i < l.length → (i : Int) < (l.length : Int) → IntKind.i64.wrap ((i : Int) + 1) = ((i + 1 : Nat) : Int) → l[i]? = some y → y ∈ l → G i (y :: l.drop (i + 1)) s = R →
      X i s st' → KeepT kt st.tmps st'.tmps → KeepH kh st.heap st'.heap st'.nx → awpK P n A x (.post (fun st'' => ∃ s', G (i + 1) (l.drop (i + 1)) s' = R ∧ X (i + 1) s' st'' ∧ KeepT kt st.tmps st''.tmps ∧ KeepH kh st.heap st''.heap st''.nx) :: ks) st')
    (last : ∀ s st', G l.length [] s = R → X l.length s st' → KeepT kt st.tmps st'.tmps → KeepH kh st.heap st'.heap st'.nx → awpK P n A x (.post (fun _ => False) :: ks) st') : W P n (.loop x) (kont P n A ks) st := by
  refine W.loop (fun k st' => ∃ i s, k = l.length - i ∧ i ≤ l.length ∧ G i (l.drop i) s = R ∧ X i s st' ∧ KeepT kt st.tmps st'.tmps ∧ KeepH kh st.heap st'.heap st'.nx) l.length ⟨0, s0, by omega, by omega, by simpa using hR, h0⟩ ?_
  rintro k st' ⟨i, s, rfl, hi, hg, hJ, hT, hH⟩
  rcases Nat.lt_or_ge i l.length with h | h
  · have hy : l[i]? = some l[i] := List.getElem?_eq_getElem h
    rw [List.drop_eq_getElem_cons h] at hg
    refine post_mono (round i _ s st' h (by omega) (wrapS h hs) hy (List.getElem_mem h) hg hJ hT hH) fun st'' ⟨s', hq⟩ => ⟨l.length - (i + 1), by omega, i + 1, s', rfl, by omega, hq⟩
  · have : i = l.length := by omega
    subst this
    rw [List.drop_length] at hg
    exact post_mono (last s st' hg hJ hT hH) fun st'' h => h.elim
theorem hset_hset {h : Hp} {i : Nat} {a b : O} : (h.set i a).set i b = h.set i b := by funext j; simp only [Hp.set]; split <;> rfl
attribute [local simp] hset_hset D.isPt D.pt
def strNames : List ByteArray := [bs [78, 117, 109, 101, 114, 105, 99, 83, 116, 114, 105, 110, 103], bs [80, 114, 105, 110, 116, 97, 98, 108, 101, 83, 116, 114, 105, 110, 103], bs [86, 105, 115, 105, 98, 108, 101, 83, 116, 114, 105, 110, 103], bs [73, 65, 53, 83, 116, 114, 105, 110, 103]]
def strType (s : ByteArray) : Bool := strNames.any fun x => seqB s x
def Ty.nameErr (t : Ty) : Int :=
  if t.kind == 6 then (if strType t.name then 0 else 7) else if t.kind == 15 then (if nameOk t.name then 0 else 7)
  else if t.kind == 14 && !seqB t.name (bs []) && !nameOk t.name then 7 else if t.fields.any (fun f => !nameOk f.name) then 7 else 0
attribute [local simp] c181r0 c181r1 c181r2 c181r3 c181r4 c181r5 c181r6 c181r7 c181r8 c181t9 c181t10 c181t11 c181t12 c181t13 c181r9 c181t15 c181 in
theorem P181 (t : Ty) (hl : short t.fields) (hn : t.name.size ≤ 9223372036854775807) (hf : ∀ f ∈ t.fields, f.name.size ≤ 9223372036854775807) : PSp Tryz.prog 181 [.agg (tyC t)] (.one (.t (I t.nameErr))) := by
  refine k181.pureK (by simp) (by simp [D.closed, A.closed]) rfl ?_
  have hany := any173 t.fields hl (fun f => !nameOk f.name) 220 (by kernel_rfl) (fun x hx => P220 x (hf x hx))
  have e0 : t.nameErr = if t.kind == 6 then (if strType t.name then 0 else 7) else if t.kind == 15 then (if nameOk t.name then 0 else 7)
    else if t.kind == 14 && !seqB t.name (bs []) && !nameOk t.name then 7 else if t.fields.any (fun f => !nameOk f.name) then 7 else 0 := rfl
  rw [e0]
  generalize (t.fields.any fun f => !nameOk f.name) = q at *
  have pn := P219 t.name hn
  rcases eqCases t.kind 6 with q6 | q6
  · simp -implicitDefEqProofs [-guardOk, -gval, q6]
    refine callK.pure (P218 strNames t.name (by simp [short, strNames])) (by simp) (by simp [strNames]) ?_
    have e1 : (strNames.any fun x => seqB t.name x) = strType t.name := rfl
    rw [e1]
    cases strType t.name
    · simp -implicitDefEqProofs [-guardOk, -gval]
      refine callK.tree (P171 _ _) rfl ?_
      simp -implicitDefEqProofs [-guardOk, -gval, pureEnd]
    · simp -implicitDefEqProofs [-guardOk, -gval]
      refine callK.tree (P171 _ _) rfl ?_
      simp -implicitDefEqProofs [-guardOk, -gval, pureEnd]
  · rcases eqCases t.kind 15 with q15 | q15
    · simp -implicitDefEqProofs [-guardOk, -gval, q15]
      refine callK.tree pn rfl ?_
      cases nameOk t.name
      · simp -implicitDefEqProofs [-guardOk, -gval]
        refine callK.tree (P171 _ _) rfl ?_
        simp -implicitDefEqProofs [-guardOk, -gval, pureEnd]
      · simp -implicitDefEqProofs [-guardOk, -gval]
        refine callK.tree (P171 _ _) rfl ?_
        simp -implicitDefEqProofs [-guardOk, -gval, pureEnd]
    · rcases eqCases t.kind 14 with q14 | q14
      · obtain ⟨z, hz⟩ : ∃ z, (t.name.toList == (bs []).toList) = z := ⟨_, rfl⟩
        have hz' : seqB t.name (bs []) = z := hz
        rw [hz']
        cases z
        · simp -implicitDefEqProofs [-guardOk, -gval, q14, hz]
          refine callK.tree pn rfl ?_
          cases nameOk t.name
          · simp -implicitDefEqProofs [-guardOk, -gval, pureEnd]
          · simp -implicitDefEqProofs [-guardOk, -gval]
            refine callK.imp (hany _ _) ?_
            cases q
            · simp -implicitDefEqProofs [-guardOk, -gval]
              refine callK.tree (P171 _ _) rfl ?_
              simp -implicitDefEqProofs [-guardOk, -gval, pureEnd]
            · simp -implicitDefEqProofs [-guardOk, -gval]
              refine callK.tree (P171 _ _) rfl ?_
              simp -implicitDefEqProofs [-guardOk, -gval, pureEnd]
        · simp -implicitDefEqProofs [-guardOk, -gval, q14, hz]
          refine callK.imp (hany _ _) ?_
          cases q
          · simp -implicitDefEqProofs [-guardOk, -gval]
            refine callK.tree (P171 _ _) rfl ?_
            simp -implicitDefEqProofs [-guardOk, -gval, pureEnd]
          · simp -implicitDefEqProofs [-guardOk, -gval]
            refine callK.tree (P171 _ _) rfl ?_
            simp -implicitDefEqProofs [-guardOk, -gval, pureEnd]
      · simp -implicitDefEqProofs [-guardOk, -gval, q6, q15, q14]
        refine callK.imp (hany _ _) ?_
        cases q
        · simp -implicitDefEqProofs [-guardOk, -gval]
          refine callK.tree (P171 _ _) rfl ?_
          simp -implicitDefEqProofs [-guardOk, -gval, pureEnd]
        · simp -implicitDefEqProofs [-guardOk, -gval]
          refine callK.tree (P171 _ _) rfl ?_
          simp -implicitDefEqProofs [-guardOk, -gval, pureEnd]
def dup (k : Int) (f g : Fd) : Bool := seqB g.name f.name || (k == 3 && g.num == f.num)
def dupAt (k : Int) (l : List Fd) (i : Nat) : Bool := match l[i]? with | some f => (l.take i).any (dup k f) | none => false
def Ty.doubleErr (t : Ty) : Int := if t.kind == 15 || t.kind == 14 then 0 else if (List.range t.fields.length).any (dupAt t.kind t.fields) then 13 else 0
attribute [local simp] c182r0 c182r1 c182r2 c182t3 c182r3 c182r4 c182r5 c182r6 c182r7 c182t9 c182t10 c182r8 c182t12 c182t13 c182b14 c182t15 c182r9 c182t17 c182t18 c182 in
theorem double17 (t : Ty) (hl : short t.fields) (R : Int) (hR : R = if (List.range t.fields.length).any (dupAt t.kind t.fields) then 13 else 0) (st : St) (h1 : TB t 1 st) (_hnx : 0 < st.nx) :
    awpK Tryz.prog 28 (pureEnd [.tmp 2] (.one (.t (I R)))) c182t17 [] st := by
  obtain ⟨h1, h2⟩ := h1
  obtain ⟨o1, o2, o3, o4⟩ := objF h2
  simp -implicitDefEqProofs [-guardOk, -gval, h1, o1, o2, o3]
  refine loopAll (List.range t.fields.length) (dupAt t.kind t.fields) [1, 14, 15] [0] (fun i st => st.tmps 16 = .one (.t (I i))) (by simpa [short] using hl) ⟨by simp, by simp, by simp []⟩ ?_ ?_
  · intro i y st' hi hiI hw hg hy hany hx hk hh
    obtain rfl := range_at hg
    simp [h1] at hk hh
    have hi' : y < t.fields.length := by simpa using hi
    have hiI' : (y : Int) < (t.fields.length : Int) := by omega
    have hf : t.fields[y]? = some t.fields[y] := List.getElem?_eq_getElem hi'
    have hd : dupAt t.kind t.fields y = (t.fields.take y).any (dup t.kind t.fields[y]) := by simp [dupAt, hf]
    rw [hd] at hany ⊢
    generalize t.fields[y] = f at *
    have hne : ¬ 0 = st'.nx + 1 + 3 := by omega
    obtain ⟨o1, o2, o3, o4⟩ := objF (hh.1.trans h2)
    simp -implicitDefEqProofs [-guardOk, -gval, h1, hx, hk, hiI', hi', rowAtM hf, Fd.row_eq, o1, o2, o3, -List.getElem_map]
    have hle : y ≤ t.fields.length := by omega
    obtain ⟨fo, hfo⟩ : ∃ fo, fo = st'.nx + 1 + 3 := ⟨_, rfl⟩
    rw [← hfo] at hne ⊢
    refine ⟨hle, ?_⟩
    have hr : (T.rows 13 (List.take y (List.map Fd.row t.fields))) = fieldsT (t.fields.take y) := by simp [List.map_take]
    have hlook : ∀ x ∈ t.fields.take y, Look 221 (st'.heap.set fo (.arr 0 false 13 [fdC f])) [.agg (fdC x), .one (.ptr ⟨fo, 0, 13, 0, 0⟩), .one (.ptr ⟨0, 0, 8, 0, 0⟩)] (.one (.t (.bool (dup t.kind f x)))) := fun x _ =>
      K221 t f x _ fo 0 (by simp [Hp.set]) (by simp only [Hp.set]; rw [if_neg hne]; exact hh.1.trans h2)
    have hc := any173c (t.fields.take y) (by simp [short] at hl ⊢; omega) (dup t.kind f) 221 [⟨fo, 0, 13, 0, 0⟩, ⟨0, 0, 8, 0, 0⟩] (by kernel_rfl) _ hlook
    simp only [fdC, tagsT, fieldsT, typesT, nodesT, valsT] at hc
    rw [List.map_take] at hc
    refine callK.imp (hc _) ?_
    cases hb : (t.fields.take y).any (dup t.kind f) with
    | true =>
      simp -implicitDefEqProofs [-guardOk, -gval, pureEnd]
      rw [hR, if_pos (hany hb)]
    | false =>
      simp -implicitDefEqProofs [-guardOk, -gval, hx, hk, hw]
      refine ⟨by simpa using hb, ?_⟩
      simp only [Hp.set]; rw [if_neg hne]; exact hh.1
  · intro st' hany hx hk hh
    simp [h1] at hk hh hx
    simp -implicitDefEqProofs [-guardOk, -gval, hx, hk, pureEnd]
    rw [hR, hany]; rfl
attribute [local simp] c182r0 c182r1 c182r2 c182t3 c182r3 c182r4 c182r5 c182r6 c182r7 c182t9 c182t10 c182r8 c182t12 c182t13 c182b14 c182t15 c182r9 c182t18 c182 in
theorem P182 (t : Ty) (hl : short t.fields) : PSp Tryz.prog 182 [.agg (tyC t)] (.one (.t (I t.doubleErr))) := by
  refine k182.pureK (by simp) (by simp [D.closed, A.closed]) rfl ?_
  have rest := double17 t hl _ rfl
  have e0 : t.doubleErr = if t.kind == 15 || t.kind == 14 then 0 else if (List.range t.fields.length).any (dupAt t.kind t.fields) then 13 else 0 := rfl
  rw [e0]
  generalize (if (List.range t.fields.length).any (dupAt t.kind t.fields) then (13 : Int) else 0) = R at *
  rcases eqCases t.kind 15 with q | q
  · simp -implicitDefEqProofs [-guardOk, -gval, q, pureEnd]
  · rcases eqCases t.kind 14 with q' | q'
    · simp -implicitDefEqProofs [-guardOk, -gval, q', pureEnd]
    · simp -implicitDefEqProofs [-guardOk, -gval, q, q']
      exact rest _ ⟨by simp, by simp [Hp.set]⟩ (by simp)
def groupedF (root : Int) : Nat → List Fd → Int × Int → Bool
  | _, [], _ => true
  | i, f :: r, (last, before) => if f.grp == 0 || (decide ((i : Int) ≥ root) && (f.grp == IntKind.i64.wrap (last + 1) || (f.grp == last && before == last))) then groupedF root (i + 1) r (if last < f.grp then f.grp else last, f.grp) else false
attribute [local simp] c185r0 c185r1 c185r2 c185r3 c185r4 c185r5 c185r6 c185r7 c185t8 c185r8 c185t10 c185t11 c185r9 c185t13 c185t14 c185b15 c185t16 c185r10 c185t18 c185t19 c185 in
theorem P185 (t : Ty) (hl : short t.fields) : PSp Tryz.prog 185 [.agg (tyC t)] (.one (.t (.bool (groupedF t.root 0 t.fields (0, 0))))) := by
  refine k185.pureK (by simp) (by simp [D.closed, A.closed]) rfl ?_
  simp -implicitDefEqProofs [-guardOk, -gval]
  refine loopRec t.fields (groupedF t.root) _ (0, 0) [1, 9, 10] [0] (fun i s st => st.tmps 11 = .one (.t (I i)) ∧ st.tmps 3 = .one (.t (I s.1)) ∧ st.tmps 4 = .one (.t (I s.2))) hl rfl ⟨by simp, by simp, by simp [Hp.set]⟩ ?_ ?_
  · rintro i f ⟨last, before⟩ st hi hiI hw hg hy hR ⟨h11, h3, h4⟩ hk hh
    simp [Hp.set] at hk hh h3 h4
    have hne : ¬ 0 = st.nx + 1 + 3 := by omega
    obtain ⟨o1, o2, o3, o4⟩ := objF hh.1
    generalize groupedF t.root 0 t.fields (0, 0) = R at *
    obtain ⟨b0, e0⟩ : ∃ b, (f.grp == 0) = b := ⟨_, rfl⟩
    obtain ⟨b1, e1⟩ : ∃ b, decide ((i : Int) ≥ t.root) = b := ⟨_, rfl⟩
    obtain ⟨b2, e2⟩ : ∃ b, (f.grp == IntKind.i64.wrap (last + 1)) = b := ⟨_, rfl⟩
    obtain ⟨b3, e3⟩ : ∃ b, (f.grp == last) = b := ⟨_, rfl⟩
    obtain ⟨b4, e4⟩ : ∃ b, (before == last) = b := ⟨_, rfl⟩
    have e1' : decide (t.root ≤ (i : Int)) = b1 := e1
    simp only [groupedF, e0, e1, e2, e3, e4] at hR
    rcases bb b0 with rfl | rfl
    · simp at hR
      simp -implicitDefEqProofs [-guardOk, -gval, hk, h11, h3, h4, hiI, hi, rowAtM hg, Fd.row_eq, o1, o2, o3, e0, e1, e2, e3, e4, -List.getElem_map]
      exact ⟨_, _, hR, ⟨by simpa using hw, rfl, rfl⟩, by simp [Hp.set, hh.1]⟩
    · rcases bb b1 with rfl | rfl
      · rcases bb b2 with rfl | rfl
        · simp at hR
          simp -implicitDefEqProofs [-guardOk, -gval, hk, h11, h3, h4, hiI, hi, rowAtM hg, Fd.row_eq, o1, o2, o3, e0, e1, e2, e3, e4, -List.getElem_map]
          exact ⟨_, _, hR, ⟨by simpa using hw, rfl, rfl⟩, by simp [Hp.set, hh.1]⟩
        · rcases bb b3 with rfl | rfl
          · rcases bb b4 with rfl | rfl
            · simp at hR
              simp -implicitDefEqProofs [-guardOk, -gval, hk, h11, h3, h4, hiI, hi, rowAtM hg, Fd.row_eq, o1, o2, o3, e0, e1, e2, e3, e4, -List.getElem_map]
              exact ⟨_, _, hR, ⟨by simpa using hw, rfl, rfl⟩, by simp [Hp.set, hh.1]⟩
            · simp at hR
              simp -implicitDefEqProofs [-guardOk, -gval, hk, h11, h3, h4, hiI, hi, rowAtM hg, Fd.row_eq, o1, o2, o3, e0, e1, e2, e3, e4, -List.getElem_map, pureEnd]
              exact hR
          · simp at hR
            simp -implicitDefEqProofs [-guardOk, -gval, hk, h11, h3, h4, hiI, hi, rowAtM hg, Fd.row_eq, o1, o2, o3, e0, e1, e2, e3, e4, -List.getElem_map, pureEnd]
            exact hR
      · simp at hR
        simp -implicitDefEqProofs [-guardOk, -gval, hk, h11, h3, h4, hiI, hi, rowAtM hg, Fd.row_eq, o1, o2, o3, e0, e1, e2, e3, e4, -List.getElem_map, pureEnd]
        exact hR
  · rintro ⟨last, before⟩ st hR ⟨h11, h3, h4⟩ hk hh
    simp [Hp.set] at hk hh h3 h4
    simp only [groupedF] at hR
    rw [← hR]
    simp -implicitDefEqProofs [-guardOk, -gval, hk, h11, pureEnd]
end Go.Proofs.YtdpbobkcbakpfaaGreatDoor

namespace Go.Proofs.YtdpbobkcbakpfaaGreatDoor
open Go Go.Ab
set_option maxRecDepth 100000
set_option maxHeartbeats 4000000
attribute [local simp] tagsT fieldsT typesT nodesT valsT textsT intsT tyC fdC vlC ndC hset_hset D.isPt D.pt
def isGrp (k : Int) : Bool := k == 9 || k == 10 || k == 13
def isLst (k : Int) : Bool := k == 11 || k == 12
def isNum (n : Int) : Bool := decide (-1152921504606846976 ≤ n) && decide (n ≤ 1152921504606846976)
def Ty.badF (t : Ty) : Bool := t.fields.any (fun f => !f.fits t.kind) || (t.fields.take t.root.toNat).any fun f => f.grp != 0
def formBad1 (a b c d e o p q : Bool) : Bool := (!a && !b) || (!c && d) || (!e && (o || p)) || (e && !o && q)
def Ty.formBad (t : Ty) : Bool :=
  formBad1 (t.kind == 6 || t.kind == 14 || t.kind == 15) (seqB t.name (bs [])) (isGrp t.kind || t.kind == 3 || t.kind == 14 || t.kind == 15) (decide (0 < t.fields.length)) (isGrp t.kind || t.kind == 3) t.opn (t.root != 0) (t.root != (t.fields.length : Int)) ||
    (!isLst t.kind && decide (0 < t.of.length)) || (!hasLim t.kind && decide (0 < t.limits.length)) || t.badF
def Ty.partsErr2 (t : Ty) : Int := firstE [if !isGrp t.kind || groupedF t.root 0 t.fields (0, 0) then 0 else 14, if t.kind != 3 || !(t.fields.any fun f => !isNum f.num) then 0 else 3]
def Ty.partsErr1 (t : Ty) : Int := firstE [if t.inShape then 0 else 6, t.nameErr, t.doubleErr]
def Ty.partsErr (t : Ty) : Int := if t.formBad then 5 else if t.partsErr1 != 0 then t.partsErr1 else t.partsErr2
attribute [local simp] c147r0 c147r1 c147r2 c147r3 c147r4 c147r5 c147r6 c147r7 c147t8 c147r8 c147r9 c147r10 c147t12 c147t13 c147r11 c147r12 c147t17 c147t18 c147t19 c147t20 c147t21 c147t22 c147 in
theorem parts17 (t : Ty) (R : Int) (a c e : Bool) (st : St) (h1 : TB t 1 st) (h3 : st.tmps 3 = .one (.t (.bool a))) (h4 : st.tmps 4 = .one (.t (.bool e))) (h5 : st.tmps 5 = .one (.t (.bool c))) (w : Bool) (h6 : st.tmps 6 = .one (.t (.bool w)))
    (hR : (formBad1 a (seqB t.name (bs [])) c (decide (0 < t.fields.length)) e t.opn (t.root != 0) (t.root != (t.fields.length : Int)) || (!isLst t.kind && decide (0 < t.of.length)) || (!hasLim t.kind && decide (0 < t.limits.length)) || w) = true → R = 5)
    (rest : (formBad1 a (seqB t.name (bs [])) c (decide (0 < t.fields.length)) e t.opn (t.root != 0) (t.root != (t.fields.length : Int)) || (!isLst t.kind && decide (0 < t.of.length)) || (!hasLim t.kind && decide (0 < t.limits.length)) || w) = false → ∀ st : St, TB t 1 st → awpK Tryz.prog 165 (pureEnd [.tmp 2] (.one (.t (I R)))) c147t16 [] st) :
    awpK Tryz.prog 165 (pureEnd [.tmp 2] (.one (.t (I R)))) c147t17 [] st := by
  obtain ⟨h1, h2⟩ := h1
  obtain ⟨o1, o2, o3, o4⟩ := objF h2
  obtain ⟨b, e0⟩ : ∃ b, (t.name.toList == (bs []).toList) = b := ⟨_, rfl⟩
  obtain ⟨d, e1⟩ : ∃ b, decide (0 < t.fields.length) = b := ⟨_, rfl⟩
  obtain ⟨p, e2⟩ : ∃ b, (t.root == 0) = b := ⟨_, rfl⟩
  obtain ⟨q, e3⟩ : ∃ b, (t.root == (t.fields.length : Int)) = b := ⟨_, rfl⟩
  obtain ⟨m, e4⟩ : ∃ b, decide (0 < t.of.length) = b := ⟨_, rfl⟩
  obtain ⟨v, e5⟩ : ∃ b, decide (0 < t.limits.length) = b := ⟨_, rfl⟩
  have e0' : seqB t.name (bs []) = b := e0
  simp only [e0', e1, bne, e2, e3, e4, e5] at hR rest
  obtain ⟨x1, f1⟩ : ∃ x, (!a && !b) = x := ⟨_, rfl⟩
  obtain ⟨x2, f2⟩ : ∃ x, (!c && d) = x := ⟨_, rfl⟩
  obtain ⟨y2, f3⟩ : ∃ x, (x1 || x2) = x := ⟨_, rfl⟩
  obtain ⟨x3, f4⟩ : ∃ x, (t.opn || !p) = x := ⟨_, rfl⟩
  obtain ⟨x4, f5⟩ : ∃ x, (!e && x3) = x := ⟨_, rfl⟩
  obtain ⟨y3, f6⟩ : ∃ x, (y2 || x4) = x := ⟨_, rfl⟩
  obtain ⟨x5, f7⟩ : ∃ x, (e && !t.opn) = x := ⟨_, rfl⟩
  obtain ⟨x6, f8⟩ : ∃ x, (x5 && !q) = x := ⟨_, rfl⟩
  obtain ⟨y4, f9⟩ : ∃ x, (y3 || x6) = x := ⟨_, rfl⟩
  have ef : formBad1 a b c d e t.opn (!p) (!q) = y4 := by simp only [formBad1, f1, f2, f4, f5, f7, f8, f3, f6, f9]
  rw [ef] at hR rest
  simp -implicitDefEqProofs [-guardOk, -gval, h1, h3, h4, h5, h6, o1, o2, o3, e0, e1, e2, e3, e4, e5, bne, f1, f2, f3, f4, f5, f6, f7, f8, f9, -Bool.not_or, -Bool.not_and]
  have iv1 : isLst t.kind = (t.kind == 11 || t.kind == 12) := rfl
  refine ⟨fun h => by simp [h], fun h h' => by simp [h, h'], fun h => by simp [h], fun h => by simp [h], fun h => by simp [h], ?_⟩
  have fin : ∀ z, (z || w) = true → R = 5 → True := fun _ _ _ => trivial
  rcases bb y4 with rfl | rfl
  · have := hR (by simp)
    subst this
    simp -implicitDefEqProofs [-guardOk, -gval, pureEnd]
  · simp -implicitDefEqProofs [-guardOk, -gval]
    refine callK.tree (P177 _) rfl ?_
    rw [← iv1]
    obtain ⟨l, g1⟩ : ∃ l, isLst t.kind = l := ⟨_, rfl⟩
    rw [g1] at hR rest ⊢
    have step : ∀ st : St, (!l && m) = false → True := fun _ _ => trivial
    rcases bb l with rfl | rfl
    · simp -implicitDefEqProofs [-guardOk, -gval, h1, h6, o1, o2, o3]
      refine callK.tree (P178 _) rfl ?_
      rcases bb (hasLim t.kind) with g2 | g2
      · rw [g2] at hR rest ⊢
        cases w
        · simp -implicitDefEqProofs [-guardOk, -gval, h6]
          exact rest (by simp) _ ⟨by simp [h1], by simp [h2]⟩
        · have := hR (by simp)
          subst this
          simp -implicitDefEqProofs [-guardOk, -gval, h6, pureEnd]
      · rw [g2] at hR rest ⊢
        cases v
        · cases w
          · simp -implicitDefEqProofs [-guardOk, -gval, h1, h6, o1, o2, o3, e5]
            exact rest (by simp) _ ⟨by simp [h1], by simp [h2]⟩
          · have := hR (by simp)
            subst this
            simp -implicitDefEqProofs [-guardOk, -gval, h1, h6, o1, o2, o3, e5, pureEnd]
        · have := hR (by simp)
          subst this
          simp -implicitDefEqProofs [-guardOk, -gval, h1, h6, o1, o2, o3, e5, pureEnd]
    · cases m
      · simp -implicitDefEqProofs [-guardOk, -gval, h1, h6, o1, o2, o3, e4]
        refine callK.tree (P178 _) rfl ?_
        rcases bb (hasLim t.kind) with g2 | g2
        · rw [g2] at hR rest ⊢
          cases w
          · simp -implicitDefEqProofs [-guardOk, -gval, h6]
            exact rest (by simp) _ ⟨by simp [h1], by simp [h2]⟩
          · have := hR (by simp)
            subst this
            simp -implicitDefEqProofs [-guardOk, -gval, h6, pureEnd]
        · rw [g2] at hR rest ⊢
          cases v
          · cases w
            · simp -implicitDefEqProofs [-guardOk, -gval, h1, h6, o1, o2, o3, e5]
              exact rest (by simp) _ ⟨by simp [h1], by simp [h2]⟩
            · have := hR (by simp)
              subst this
              simp -implicitDefEqProofs [-guardOk, -gval, h1, h6, o1, o2, o3, e5, pureEnd]
          · have := hR (by simp)
            subst this
            simp -implicitDefEqProofs [-guardOk, -gval, h1, h6, o1, o2, o3, e5, pureEnd]
      · have := hR (by simp)
        subst this
        simp -implicitDefEqProofs [-guardOk, -gval, h1, o1, o2, o3, e4, pureEnd]
attribute [local simp] c147r0 c147r1 c147r2 c147r3 c147r4 c147r5 c147r6 c147r7 c147t8 c147r8 c147r9 c147r10 c147t12 c147t13 c147r11 c147r12 c147t16 c147t17 c147t18 c147t19 c147t20 c147t21 c147t22 c147 in
theorem parts16 (t : Ty) (hl : short t.fields) (ha : ∀ x ∈ t.limits, x.args.length ≤ 1000000) (hn : t.name.size ≤ 9223372036854775807) (hf : ∀ f ∈ t.fields, f.name.size ≤ 9223372036854775807) (st : St) (h1 : TB t 1 st) :
    awpK Tryz.prog 165 (pureEnd [.tmp 2] (.one (.t (I (if t.partsErr1 != 0 then t.partsErr1 else t.partsErr2))))) c147t16 [] st := by
  obtain ⟨h1, h2⟩ := h1
  obtain ⟨o1, o2, o3, o4⟩ := objF h2
  simp -implicitDefEqProofs [-guardOk, -gval, h1, o1, o2, o3]
  refine callK.treeD (P180 t hl ha) rfl ?_
  simp -implicitDefEqProofs [-guardOk, -gval]
  refine callK.treeD (P171 _ _) rfl ?_
  simp -implicitDefEqProofs [-guardOk, -gval, h1, o1, o2, o3]
  refine callK.treeD (P181 t hl hn hf) rfl ?_
  simp -implicitDefEqProofs [-guardOk, -gval, h1, o1, o2, o3]
  refine callK.treeD (P182 t hl) rfl ?_
  simp -implicitDefEqProofs [-guardOk, -gval]
  have e1 : t.partsErr1 = firstE [if t.inShape then 0 else 6, t.nameErr, t.doubleErr] := rfl
  have e2 : t.partsErr2 = firstE [if !isGrp t.kind || groupedF t.root 0 t.fields (0, 0) then 0 else 14, if t.kind != 3 || !(t.fields.any fun f => !isNum f.num) then 0 else 3] := rfl
  refine callK.draw (P179 [if t.inShape then 0 else 6, t.nameErr, t.doubleErr] (by simp [short])) (by simp) (by simp) (.inl rfl) ?_
  rw [← e1]
  generalize t.partsErr1 = r1 at *
  rcases eqCases r1 0 with q0 | q0
  · have hany := any173 t.fields hl (fun f => !isNum f.num) 183 (by kernel_rfl) (fun x hx => P183 x)
    rw [q0]
    have ig : isGrp t.kind = (t.kind == 9 || t.kind == 10 || t.kind == 13) := rfl
    have p185 := P185 t hl
    generalize groupedF t.root 0 t.fields (0, 0) = gr at *
    generalize (t.fields.any fun f => !isNum f.num) = q at *
    have fin : ∀ a b : Int, PSp Tryz.prog 179 [.one (.t (intsT [a, b]))] (.one (.t (I (firstE [a, b])))) := fun a b => P179 [a, b] (by simp [short])
    rcases eqCases t.kind 3 with q3 | q3
    · rw [ig, q3] at e2
      simp -implicitDefEqProofs [-guardOk, -gval, h1, o1, o2, o3, q3]
      refine callK.imp (hany _ _) ?_
      simp -implicitDefEqProofs [-guardOk, -gval, h1, o1, o2, o3, q3]
      refine callK.tree (P172 _) rfl ?_
      simp -implicitDefEqProofs [-guardOk, -gval]
      refine callK.tree (P171 _ _) rfl ?_
      simp -implicitDefEqProofs [-guardOk, -gval]
      refine callK.tree (P171 _ _) rfl ?_
      simp -implicitDefEqProofs [-guardOk, -gval]
      refine callK.pure (fin 0 (if q then 3 else 0)) (by simp) (by cases q <;> simp) ?_
      simp -implicitDefEqProofs [-guardOk, -gval, pureEnd, e2]
      cases q <;> simp
    · have h3 : (t.kind != 3) = true := q3.2.2.2.2.1
      rw [h3, Bool.true_or] at e2
      simp -implicitDefEqProofs [-guardOk, -gval, h1, o1, o2, o3, q3]
      refine callK.tree (P172 _) rfl ?_
      rw [← ig]
      obtain ⟨g, hg⟩ : ∃ g, isGrp t.kind = g := ⟨_, rfl⟩
      rw [hg] at e2 ⊢
      cases g
      · simp -implicitDefEqProofs [-guardOk, -gval]
        refine callK.tree (P171 _ _) rfl ?_
        simp -implicitDefEqProofs [-guardOk, -gval]
        refine callK.tree (P171 _ _) rfl ?_
        simp -implicitDefEqProofs [-guardOk, -gval]
        refine callK.pure (fin 0 0) (by simp) (by simp) ?_
        simp -implicitDefEqProofs [-guardOk, -gval, pureEnd, e2]
      · simp -implicitDefEqProofs [-guardOk, -gval, h1, o1, o2, o3]
        refine callK.tree p185 rfl ?_
        simp -implicitDefEqProofs [-guardOk, -gval]
        refine callK.tree (P171 _ _) rfl ?_
        simp -implicitDefEqProofs [-guardOk, -gval]
        refine callK.tree (P171 _ _) rfl ?_
        simp -implicitDefEqProofs [-guardOk, -gval]
        refine callK.pure (fin (if gr then 0 else 14) 0) (by simp) (by simp) ?_
        simp -implicitDefEqProofs [-guardOk, -gval, pureEnd, e2]
  · simp -implicitDefEqProofs [-guardOk, -gval, q0, pureEnd]
attribute [local simp] c147r0 c147r1 c147r2 c147r3 c147r4 c147r5 c147r6 c147r7 c147t8 c147r8 c147r9 c147r10 c147t12 c147t13 c147r11 c147r12 c147t16 c147t18 c147t19 c147t20 c147t21 c147t22 c147 in
theorem P147 (t : Ty) (hl : short t.fields) (ha : ∀ x ∈ t.limits, x.args.length ≤ 1000000) (hn : t.name.size ≤ 9223372036854775807) (hf : ∀ f ∈ t.fields, f.name.size ≤ 9223372036854775807) (hr0 : 0 ≤ t.root) (hr1 : t.root ≤ t.fields.length) :
    PSp Tryz.prog 147 [.agg (tyC t)] (.one (.t (I t.partsErr))) := by
  refine k147.pureK (by simp) (by simp [D.closed, A.closed]) rfl ?_
  have e0 : t.partsErr = if t.formBad then 5 else (if t.partsErr1 != 0 then t.partsErr1 else t.partsErr2) := rfl
  have r17 := parts17 t t.partsErr (t.kind == 6 || t.kind == 14 || t.kind == 15) (isGrp t.kind || t.kind == 3 || t.kind == 14 || t.kind == 15) (isGrp t.kind || t.kind == 3)
  have r16 := parts16 t hl ha hn hf
  have ig : isGrp t.kind = (t.kind == 9 || t.kind == 10 || t.kind == 13) := rfl
  obtain ⟨a, ea⟩ : ∃ x, (t.kind == 6 || t.kind == 14 || t.kind == 15) = x := ⟨_, rfl⟩
  obtain ⟨g, eg⟩ : ∃ x, isGrp t.kind = x := ⟨_, rfl⟩
  obtain ⟨e, ee⟩ : ∃ x, (g || t.kind == 3) = x := ⟨_, rfl⟩
  obtain ⟨e', ee'⟩ : ∃ x, (e || t.kind == 14) = x := ⟨_, rfl⟩
  obtain ⟨c, ec⟩ : ∃ x, (e' || t.kind == 15) = x := ⟨_, rfl⟩
  rw [ea, eg, ee, ee', ec] at r17
  have ebad : t.badF = (t.fields.any (fun f => !f.fits t.kind) || (t.fields.take t.root.toNat).any fun f => f.grp != 0) := rfl
  have eform : t.formBad = (formBad1 a (seqB t.name (bs [])) c (decide (0 < t.fields.length)) e t.opn (t.root != 0) (t.root != (t.fields.length : Int)) || (!isLst t.kind && decide (0 < t.of.length)) || (!hasLim t.kind && decide (0 < t.limits.length)) || t.badF) := by
    simp only [Ty.formBad, ea, eg, ee, ee', ec]
  have go : ∀ st : St, TB t 1 st → st.tmps 3 = .one (.t (.bool a)) → st.tmps 4 = .one (.t (.bool e)) → st.tmps 5 = .one (.t (.bool c)) → st.tmps 6 = .one (.t (.bool t.badF)) → awpK Tryz.prog 165 (pureEnd [.tmp 2] (.one (.t (I t.partsErr)))) c147t17 [] st := fun st k1 k3 k4 k5 k6 =>
    r17 st k1 k3 k4 k5 _ k6 (fun h => by rw [← eform] at h; rw [e0, if_pos h]) fun h st' k => by rw [← eform] at h; rw [e0, h]; exact r16 st' k
  simp -implicitDefEqProofs [-guardOk, -gval, ea]
  refine callK.tree (P172 _) rfl ?_
  rw [← ig, eg]
  simp -implicitDefEqProofs [-guardOk, -gval, ee, ee', ec, -Bool.not_or]
  have hb : (noHp.set 0 (O.arr 0 false 8 [tyC t])) 0 = some (O.arr 0 false 8 [tyC t]) := by simp [Hp.set]
  have hc := any173c t.fields hl (fun f => !f.fits t.kind) 174 [⟨0, 0, 8, 0, 0⟩] (by kernel_rfl) _ fun x hx => K174 t x _ 0 hb
  simp only [tyC, tagsT, fieldsT, typesT, nodesT] at hc
  refine callK.imp (hc _) ?_
  generalize (t.fields.any fun f => !f.fits t.kind) = b1 at *
  cases b1
  · obtain ⟨rn, hrn⟩ : ∃ n : Nat, t.root = (n : Int) := ⟨t.root.toNat, by omega⟩
    have h5 : ¬ ((t.fields.length : Int) < (rn : Int)) := by omega
    have h6 : rn ≤ t.fields.length := by omega
    have h7 : t.root.toNat = rn := by omega
    simp -implicitDefEqProofs [-guardOk, -gval, hrn, h5, h6]
    have hany := any173 (t.fields.take rn) (by simp [short] at hl ⊢; omega) (fun f => f.grp != 0) 176 (by kernel_rfl) (fun x hx => P176 x)
    rw [h7] at ebad
    simp only [fieldsT, List.map_take] at hany
    refine callK.imp (hany _ _) ?_
    simp -implicitDefEqProofs [-guardOk, -gval]
    exact go _ ⟨by simp, by simp [Hp.set, hrn]⟩ (by simp) (by simp) (by simp) (by simp [ebad])
  · simp -implicitDefEqProofs [-guardOk, -gval]
    exact go _ ⟨by simp, by simp [Hp.set]⟩ (by simp) (by simp) (by simp) (by simp [ebad])
end Go.Proofs.YtdpbobkcbakpfaaGreatDoor

namespace Go.Proofs.YtdpbobkcbakpfaaGreatDoor
open Go Go.Ab
set_option maxRecDepth 100000
set_option maxHeartbeats 4000000
attribute [local simp] tagsT fieldsT typesT nodesT valsT textsT intsT tyC fdC vlC ndC hset_hset D.isPt D.pt
def cmpI (a b : Int) : Int := if a < b then -1 else if a > b then 1 else 0
def cmpStr (a b : ByteArray) : Int := if Op.bytesLess a.toList b.toList then -1 else if !(Op.bytesLess a.toList b.toList || a.toList == b.toList) then 1 else 0
def cmpTexts : List ByteArray → List ByteArray → Int
  | [], [] => 0
  | [], _ :: _ => -1
  | _ :: _, [] => 1
  | x :: xs, y :: ys => if cmpStr x y != 0 then cmpStr x y else cmpTexts xs ys
mutual
def Vl.cmp : Vl → Vl → Int
  | .mk k n e s ns is, b => firstE [cmpI k b.kind, cmpI n b.n, cmpI e b.e, Lib.compareBytes s.data.toList b.s.data.toList, cmpTexts ns b.names, cmpVals is b.items]
def cmpVals : List Vl → List Vl → Int
  | [], [] => 0
  | [], _ :: _ => -1
  | _ :: _, [] => 1
  | x :: xs, y :: ys => if x.cmp y != 0 then x.cmp y else cmpVals xs ys
end
attribute [local simp] c294r0 c294r1 c294 in
theorem P294 (s : ByteArray) : PSp Tryz.prog 294 [.one (.t (.str s))] (.one (.t (.bool false))) := by
  refine k294.pureK (by simp) rfl rfl ?_
  simp -implicitDefEqProofs [-guardOk, -gval, pureEnd]
attribute [local simp] c268r0 c268r1 c268r2 c268r3 c268r4 c268r5 c268r6 c268r7 c268r8 c268r9 c268r10 c268r11 c268r12 c268r13 c268 in
theorem P268 (a b : Int) : PSp Tryz.prog 268 [.one (.t (I a)), .one (.t (I b))] (.one (.t (I (cmpI a b)))) := by
  refine k268.pureK (by simp) rfl rfl ?_
  simp -implicitDefEqProofs [-guardOk, -gval]
  refine callK.tree (P284 _) rfl ?_
  simp -implicitDefEqProofs [-guardOk, -gval]
  refine callK.tree (P284 _) rfl ?_
  simp -implicitDefEqProofs [-guardOk, -gval]
  refine ⟨fun h => ?_, fun h => ⟨fun h' => ?_, fun h' => ?_⟩⟩
  · simp -implicitDefEqProofs [-guardOk, -gval, pureEnd, cmpI, h]
  · simp -implicitDefEqProofs [-guardOk, -gval, pureEnd, cmpI, h']
    omega
  · have : a = b := by omega
    subst this
    simp -implicitDefEqProofs [-guardOk, -gval, pureEnd, cmpI]
attribute [local simp] c286r0 c286r1 c286r2 c286r3 c286r4 c286r5 c286r6 c286r7 c286r8 c286r9 c286r10 c286r11 c286r12 c286r13 c286 in
theorem P286 (a b : ByteArray) : PSp Tryz.prog 286 [.one (.t (.str a)), .one (.t (.str b))] (.one (.t (I (cmpStr a b)))) := by
  refine k286.pureK (by simp) rfl rfl ?_
  obtain ⟨x, hx⟩ : ∃ x, Op.bytesLess a.toList b.toList = x := ⟨_, rfl⟩
  obtain ⟨y, hy⟩ : ∃ x, (a.toList == b.toList) = x := ⟨_, rfl⟩
  simp -implicitDefEqProofs [-guardOk, -gval]
  refine callK.tree (P294 _) rfl ?_
  simp -implicitDefEqProofs [-guardOk, -gval]
  refine callK.tree (P294 _) rfl ?_
  cases x
  · cases y
    · simp -implicitDefEqProofs [-guardOk, -gval, hx, hy, pureEnd, cmpStr]
    · simp -implicitDefEqProofs [-guardOk, -gval, hx, hy, pureEnd, cmpStr]
  · simp -implicitDefEqProofs [-guardOk, -gval, hx, pureEnd, cmpStr]
attribute [local simp] c267r0 c267r1 c267r2 c267r3 c267r4 c267r5 c267r6 c267t7 c267t8 c267r7 c267t10 c267t11 c267b12 c267t13 c267r8 c267t15 c267t16 c267 in
theorem P267 (l : List Int) (hl : short l) : PSp Tryz.prog 267 [.one (.t (intsT l))] (.one (.t (I (firstE l)))) := by
  refine k267.pureK (by simp) rfl rfl ?_
  simp -implicitDefEqProofs [-guardOk, -gval]
  refine loopFind l ne0 [3, 6, 7] [] (fun i st => st.tmps 8 = .one (.t (I i))) hl ⟨by simp, by simp, by simp⟩ ?_ ?_
  · intro i y st hi hiI hw hg hy hany hx hk hh
    simp at hk
    rcases eqCases y 0 with e | e
    · simp -implicitDefEqProofs [-guardOk, -gval, hx, hk, hiI, hi, rowAtM hg, hw, e, ne0]
    · simp -implicitDefEqProofs [-guardOk, -gval, hx, hk, hiI, hi, rowAtM hg, e, pureEnd]
      simp [firstE, hany y (by simp [e, ne0])]
  · intro st hany hx hk hh
    simp at hk
    simp -implicitDefEqProofs [-guardOk, -gval, hx, hk, pureEnd, firstE, hany]
attribute [local simp] c270r0 c270r1 c270r2 c270r3 c270r4 c270r5 c270t6 c270r6 c270r7 c270r8 c270r9 c270t11 c270t12 c270t13 c270t14 c270t15 c270r10 c270t17 c270t18 c270b19 c270t20 c270r11 c270r12 c270t23 c270r13 c270t25 c270t26 c270 in
theorem P270 (a b : List ByteArray) (ha : short a) (_hb : short b) : PSp Tryz.prog 270 [.one (.t (textsT a)), .one (.t (textsT b))] (.one (.t (I (cmpTexts a b)))) := by
  refine k270.pureK (by simp) rfl rfl ?_
  simp -implicitDefEqProofs [-guardOk, -gval]
  refine loopRec a (fun i r (_ : Unit) => cmpTexts r (b.drop i)) (cmpTexts a b) () [0, 1, 9, 10] [] (fun i _ st => st.tmps 11 = .one (.t (I i))) ha (by simp) ⟨by simp, by simp, by simp⟩ ?_ ?_
  · intro i y _ st hi hiI hw hg hy hR hx hk hh
    simp at hk
    generalize cmpTexts a b = R at *
    rcases Nat.lt_or_ge i b.length with h | h
    · have hg2 : b[i]? = some b[i] := List.getElem?_eq_getElem h
      rw [List.drop_eq_getElem_cons h, cmpTexts] at hR
      generalize b[i] = z at *
      have h' : ¬ ((b.length : Int) ≤ (i : Int)) := by omega
      have h'' : (i : Int) < (b.length : Int) := by omega
      simp -implicitDefEqProofs [-guardOk, -gval, hx, hk, hiI, hi, rowAtM hg, rowAtM hg2, h', h'', h]
      refine callK.tree (P286 _ _) rfl ?_
      rcases eqCases (cmpStr y z) 0 with e | e
      · rw [e] at hR ⊢
        simp at hR
        simp -implicitDefEqProofs [-guardOk, -gval, hx, hk, hw]
        exact hR
      · simp -implicitDefEqProofs [-guardOk, -gval, e, pureEnd]
        simpa [e] using hR
    · rw [List.drop_eq_nil_of_le h, cmpTexts] at hR
      have h' : (b.length : Int) ≤ (i : Int) := by omega
      simp -implicitDefEqProofs [-guardOk, -gval, hx, hk, hiI, hi, rowAtM hg, h', pureEnd, hR]
  · intro _ st hR hx hk hh
    simp at hk
    generalize cmpTexts a b = R at *
    rcases Nat.lt_or_ge a.length b.length with h | h
    · rw [List.drop_eq_getElem_cons h, cmpTexts] at hR
      have h' : (a.length : Int) < (b.length : Int) := by omega
      simp -implicitDefEqProofs [-guardOk, -gval, hx, hk, h, pureEnd, hR]
    · rw [List.drop_eq_nil_of_le h, cmpTexts] at hR
      have h' : ¬ a.length < b.length := by omega
      simp -implicitDefEqProofs [-guardOk, -gval, hx, hk, h', pureEnd, hR]
theorem hset_at {h : Hp} {i : Nat} {o : O} : (h.set i o) i = some o := by simp [Hp.set]
theorem hset_ne {h : Hp} {i j : Nat} {o : O} (e : ¬ j = i) : (h.set i o) j = h j := by simp [Hp.set, e]
attribute [local simp] c271r0 c271r1 c271r2 c271r3 c271r4 c271r5 c271t6 c271r6 c271r7 c271r8 c271r9 c271t11 c271t12 c271t13 c271t14 c271t15 c271r10 c271t17 c271t18 c271b19 c271t20 c271r11 c271r12 c271t23 c271r13 c271t25 c271t26 c271 in
theorem P271 (a b : List Vl) (ha : short a) (_hb : short b) (IH : ∀ x ∈ a, ∀ y ∈ b, PSp Tryz.prog 230 [.agg (vlC x), .agg (vlC y)] (.one (.t (I (x.cmp y))))) : PSp Tryz.prog 271 [.one (.t (valsT a)), .one (.t (valsT b)), .one (.fn 230 [])] (.one (.t (I (cmpVals a b)))) := by
  refine k271.pureK (by simp) (by simp [D.closed, A.closed]) rfl ?_
  simp -implicitDefEqProofs [-guardOk, -gval]
  refine loopRec a (fun i r (_ : Unit) => cmpVals r (b.drop i)) (cmpVals a b) () [0, 1, 2, 11, 12] [] (fun i _ st => st.tmps 13 = .one (.t (I i))) ha (by simp) ⟨by simp, by simp, by simp⟩ ?_ ?_
  · intro i y _ st hi hiI hw hg hy hR hx hk hh
    simp at hk
    generalize cmpVals a b = R at *
    rcases Nat.lt_or_ge i b.length with h | h
    · have hg2 : b[i]? = some b[i] := List.getElem?_eq_getElem h
      have hz : b[i] ∈ b := List.getElem_mem h
      rw [List.drop_eq_getElem_cons h, cmpVals] at hR
      generalize b[i] = z at *
      have h' : ¬ ((b.length : Int) ≤ (i : Int)) := by omega
      have h'' : (i : Int) < (b.length : Int) := by omega
      simp -implicitDefEqProofs [-guardOk, -gval, hx, hk, hiI, hi, rowAtM hg, rowAtM hg2, h', h'', h, Vl.row_eq, -List.getElem_map]
      refine ⟨230, [], ⟨rfl, rfl⟩, by kernel_rfl, ?_⟩
      refine callK.tree (IH y hy z hz) rfl ?_
      rcases eqCases (y.cmp z) 0 with e | e
      · rw [e] at hR ⊢
        simp at hR
        simp -implicitDefEqProofs [-guardOk, -gval, hx, hk, hw]
        exact hR
      · simp -implicitDefEqProofs [-guardOk, -gval, e, pureEnd]
        simpa [e] using hR
    · rw [List.drop_eq_nil_of_le h, cmpVals] at hR
      have h' : (b.length : Int) ≤ (i : Int) := by omega
      simp -implicitDefEqProofs [-guardOk, -gval, hx, hk, hiI, hi, rowAtM hg, h', pureEnd, hR, Vl.row_eq, -List.getElem_map]
  · intro _ st hR hx hk hh
    simp at hk
    generalize cmpVals a b = R at *
    rcases Nat.lt_or_ge a.length b.length with h | h
    · rw [List.drop_eq_getElem_cons h, cmpVals] at hR
      have h' : (a.length : Int) < (b.length : Int) := by omega
      simp -implicitDefEqProofs [-guardOk, -gval, hx, hk, h, pureEnd, hR]
    · rw [List.drop_eq_nil_of_le h, cmpVals] at hR
      have h' : ¬ a.length < b.length := by omega
      simp -implicitDefEqProofs [-guardOk, -gval, hx, hk, h', pureEnd, hR]
theorem Vl.cmp_eq (a b : Vl) : a.cmp b = firstE [cmpI a.kind b.kind, cmpI a.n b.n, cmpI a.e b.e, Lib.compareBytes a.s.data.toList b.s.data.toList, cmpTexts a.names b.names, cmpVals a.items b.items] := by
  cases a; rw [Vl.cmp]; rfl
attribute [local simp] c230r0 c230r1 c230 in
theorem step230 (a b : Vl) (ha : a.fine) (hb : b.fine) (IH : ∀ x ∈ a.items, ∀ y ∈ b.items, PSp Tryz.prog 230 [.agg (vlC x), .agg (vlC y)] (.one (.t (I (x.cmp y))))) : PSp Tryz.prog 230 [.agg (vlC a), .agg (vlC b)] (.one (.t (I (a.cmp b)))) := by
  rw [Vl.cmp_eq]
  rw [Vl.fine_iff] at ha hb
  refine k230.pureK (by simp) (by simp [D.closed, A.closed]) rfl ?_
  have p271 := P271 a.items b.items ha.2.2.2.1 hb.2.2.2.1 IH
  have p270 := P270 a.names b.names ha.2.1 hb.2.1
  simp -implicitDefEqProofs [-guardOk, -gval]
  refine callK.treeD (P268 _ _) rfl ?_
  simp -implicitDefEqProofs [-guardOk, -gval]
  refine callK.treeD (P268 _ _) rfl ?_
  simp -implicitDefEqProofs [-guardOk, -gval]
  refine callK.treeD (P268 _ _) rfl ?_
  simp -implicitDefEqProofs [-guardOk, -gval]
  refine callK.treeD (compareP _ _) rfl ?_
  simp -implicitDefEqProofs [-guardOk, -gval]
  refine callK.treeD p270 rfl ?_
  simp -implicitDefEqProofs [-guardOk, -gval]
  refine callK.draw p271 (by simp) (by simp) (.inl rfl) ?_
  simp -implicitDefEqProofs [-guardOk, -gval]
  refine callK.draw (P267 [cmpI a.kind b.kind, cmpI a.n b.n, cmpI a.e b.e, Lib.compareBytes a.s.data.toList b.s.data.toList, cmpTexts a.names b.names, cmpVals a.items b.items] (by simp [short])) (by simp) (by simp) (.inl rfl) ?_
  simp -implicitDefEqProofs [-guardOk, -gval, pureEnd]
theorem P230 : ∀ a : Vl, a.fine → ∀ b : Vl, b.fine → PSp Tryz.prog 230 [.agg (vlC a), .agg (vlC b)] (.one (.t (I (a.cmp b)))) := by
  refine Vl.ind fun a IH ha b hb => step230 a b ha hb fun x hx y hy => ?_
  rw [Vl.fine_iff] at ha hb
  exact IH x hx (ha.2.2.2.2 x hx) y (hb.2.2.2.2 y hy)
def sortedV : List Vl → Bool
  | [] => true
  | [_] => true
  | x :: y :: r => !(decide (y.cmp x < 0)) && sortedV (y :: r)
def descAt (l : List Vl) (j : Nat) : Bool := match l[l.length - 1 - j]?, l[l.length - 2 - j]? with | some y, some x => decide (y.cmp x < 0) | _, _ => false
attribute [local simp] c229r0 c229r1 c229r2 c229r4 c229r5 c229r3 c229b6 c229r6 c229 in
theorem P229 (l : List Vl) (hl : short l) (hf : ∀ x ∈ l, x.fine) : PSp Tryz.prog 229 [.one (.t (valsT l)), .one (.fn 230 [])] (.one (.t (.bool (!(List.range (l.length - 1)).any (descAt l))))) := by
  refine k229.pureK (by simp) (by simp [D.closed, A.closed]) rfl ?_
  have hw0 : IntKind.i64.wrap ((l.length : Int) - 1) = (l.length : Int) - 1 := wrap_i64 (by omega) (by simp [short] at hl; omega)
  simp -implicitDefEqProofs [-guardOk, -gval, hw0]
  refine loopAll (List.range (l.length - 1)) (descAt l) [0, 1] [] (fun i st => st.tmps 5 = .one (.t (I ((l.length : Int) - 1 - i)))) (by simp [short] at hl ⊢; omega) ⟨by simp, by simp, by simp⟩ ?_ ?_
  · intro i y st hi hiI hw hg hy hany hx hk hh
    obtain rfl := range_at hg
    simp at hk hi
    have q1 : l[l.length - 1 - y]? = some l[l.length - 1 - y] := List.getElem?_eq_getElem (by omega)
    have q2 : l[l.length - 2 - y]? = some l[l.length - 2 - y] := List.getElem?_eq_getElem (by omega)
    have m1 := hf _ (List.mem_of_getElem? q1)
    have m2 := hf _ (List.mem_of_getElem? q2)
    obtain ⟨k1, hk1⟩ : ∃ k, l.length - 1 - y = k := ⟨_, rfl⟩
    obtain ⟨k2, hk2⟩ : ∃ k, l.length - 2 - y = k := ⟨_, rfl⟩
    have e1 : ((l.length : Int) - 1 - y) = (k1 : Int) := by omega
    have e2 : IntKind.i64.wrap ((k1 : Int) - 1) = (k2 : Int) := by simp [short] at hl; exact nat_wrap k2 (by omega) (by omega)
    have hd : descAt l y = decide ((l[l.length - 1 - y]).cmp (l[l.length - 2 - y]) < 0) := by simp [descAt, q1, q2]
    rw [hd] at hany ⊢
    generalize l[l.length - 1 - y] = u at *
    generalize l[l.length - 2 - y] = v at *
    rw [hk1] at q1
    rw [hk2] at q2
    rw [e1] at hx
    have h0 : (0 : Int) < (k1 : Int) := by omega
    have b1 : (k1 : Int) < (l.length : Int) := by omega
    have b2 : (k2 : Int) < (l.length : Int) := by omega
    have c1 : k1 < l.length := by omega
    have c2 : k2 < l.length := by omega
    have c0 : 0 < k1 := by omega
    simp -implicitDefEqProofs [-guardOk, -gval, hx, hk, c0, e2, b1, b2, c1, c2, rowAtM q1, rowAtM q2, Vl.row_eq, -List.getElem_map]
    refine ⟨230, [], ⟨rfl, rfl⟩, by kernel_rfl, ?_⟩
    refine callK.treeD (P230 u m1 v m2) rfl ?_
    rcases ltCases (u.cmp v) 0 with q | q
    · simp -implicitDefEqProofs [-guardOk, -gval, q, pureEnd]
      simpa using hany (by simp [q])
    · have e3 : (k2 : Int) = (l.length : Int) - 1 - ((y : Int) + 1) := by omega
      have q' := q.1
      simp -implicitDefEqProofs [-guardOk, -gval, q', hx, hk, e2]
      exact ⟨q.2, e3⟩
  · intro st hany hx hk hh
    simp at hk
    simp only [List.length_range] at hx
    obtain ⟨z, hz⟩ : ∃ z : Int, (l.length : Int) - 1 - ((l.length - 1 : Nat) : Int) = z := ⟨_, rfl⟩
    rw [hz] at hx
    have e3 : ¬ 0 < z := by omega
    rw [hany]
    simp -implicitDefEqProofs [-guardOk, -gval, hx, e3, pureEnd]
end Go.Proofs.YtdpbobkcbakpfaaGreatDoor

namespace Go.Proofs.YtdpbobkcbakpfaaGreatDoor
open Go Go.Ab
set_option maxRecDepth 100000
set_option maxHeartbeats 4000000
attribute [local simp] tagsT fieldsT typesT nodesT valsT textsT intsT tyC fdC vlC ndC hset_hset D.isPt D.pt
def hasN (k : Int) : Bool := k == 1 || k == 2 || k == 14 || k == 8
def hasE (k : Int) : Bool := k == 8
def hasS (k : Int) : Bool := k == 3 || k == 4 || k == 5 || k == 6 || k == 13
def hasNm (k : Int) : Bool := k == 9 || k == 12
def hasIt (k : Int) : Bool := k == 7 || k == 10 || k == 11 || k == 9 || k == 12 || k == 13
def hasD (k : Int) : D := .agg [.t (.bool (hasN k)), .t (.bool (hasE k)), .t (.bool (hasS k)), .t (.bool (hasNm k)), .t (.bool (hasIt k))]
attribute [local simp] c222r0 c222r1 c222r2 c222r3 c222r4 c222r5 c222r6 c222r7 c222r8 c222r9 c222r10 c222r11 c222r12 c222r13 c222r14 c222r15 c222r16 c222r17 c222r18 c222r19 c222r20 c222r21 c222r22 c222 in
theorem P222 (k : Int) : PSp Tryz.prog 222 [.one (.t (I k))] (hasD k) := by
  refine k222.pureK (by simp) rfl rfl ?_
  rcases eqCases k 1 with rfl | q1
  · simp -implicitDefEqProofs [-guardOk, -gval, hasD, hasN, hasE, hasS, hasNm, hasIt, pureEnd]
  · rcases eqCases k 2 with rfl | q2
    · simp -implicitDefEqProofs [-guardOk, -gval, hasD, hasN, hasE, hasS, hasNm, hasIt, pureEnd]
    · rcases eqCases k 14 with rfl | q14
      · simp -implicitDefEqProofs [-guardOk, -gval, hasD, hasN, hasE, hasS, hasNm, hasIt, pureEnd]
      · rcases eqCases k 3 with rfl | q3
        · simp -implicitDefEqProofs [-guardOk, -gval, hasD, hasN, hasE, hasS, hasNm, hasIt, pureEnd]
        · rcases eqCases k 4 with rfl | q4
          · simp -implicitDefEqProofs [-guardOk, -gval, hasD, hasN, hasE, hasS, hasNm, hasIt, pureEnd]
          · rcases eqCases k 5 with rfl | q5
            · simp -implicitDefEqProofs [-guardOk, -gval, hasD, hasN, hasE, hasS, hasNm, hasIt, pureEnd]
            · rcases eqCases k 6 with rfl | q6
              · simp -implicitDefEqProofs [-guardOk, -gval, hasD, hasN, hasE, hasS, hasNm, hasIt, pureEnd]
              · rcases eqCases k 7 with rfl | q7
                · simp -implicitDefEqProofs [-guardOk, -gval, hasD, hasN, hasE, hasS, hasNm, hasIt, pureEnd]
                · rcases eqCases k 10 with rfl | q10
                  · simp -implicitDefEqProofs [-guardOk, -gval, hasD, hasN, hasE, hasS, hasNm, hasIt, pureEnd]
                  · rcases eqCases k 11 with rfl | q11
                    · simp -implicitDefEqProofs [-guardOk, -gval, hasD, hasN, hasE, hasS, hasNm, hasIt, pureEnd]
                    · rcases eqCases k 8 with rfl | q8
                      · simp -implicitDefEqProofs [-guardOk, -gval, hasD, hasN, hasE, hasS, hasNm, hasIt, pureEnd]
                      · rcases eqCases k 9 with rfl | q9
                        · simp -implicitDefEqProofs [-guardOk, -gval, hasD, hasN, hasE, hasS, hasNm, hasIt, pureEnd]
                        · rcases eqCases k 12 with rfl | q12
                          · simp -implicitDefEqProofs [-guardOk, -gval, hasD, hasN, hasE, hasS, hasNm, hasIt, pureEnd]
                          · rcases eqCases k 13 with rfl | q13
                            · simp -implicitDefEqProofs [-guardOk, -gval, hasD, hasN, hasE, hasS, hasNm, hasIt, pureEnd]
                            · simp -implicitDefEqProofs [-guardOk, -gval, hasD, hasN, hasE, hasS, hasNm, hasIt, pureEnd, q1, q2, q14, q3, q4, q5, q6, q7, q10, q11, q8, q9, q12, q13]
def oidBad (i : Nat) (x x0 : Vl) : Bool := !(decide (0 ≤ x.n) && decide (x.n ≤ 1152921504606846976)) || ((i : Int) == 0 && decide (x.n > 2)) || ((i : Int) == 1 && x0.kind == 2 && decide (x0.n < 2) && decide (x.n > 39))
def oidBadAt (l : List Vl) (i : Nat) : Bool := match l[i]?, l[0]? with | some x, some x0 => x.kind == 2 && oidBad i x x0 | _, _ => false
def isOid (l : List Vl) : Bool := !(List.range l.length).any (oidBadAt l)
attribute [local simp] c261r0 c261r1 c261r2 c261r3 c261r4 c261t5 c261r5 c261r6 c261t8 c261t9 c261t10 c261r7 c261t12 c261t13 c261b14 c261t15 c261r8 c261t17 c261 in
theorem P261 (l : List Vl) (hl : short l) : PSp Tryz.prog 261 [.one (.t (valsT l))] (.one (.t (.bool (isOid l)))) := by
  refine k261.pureK (by simp) rfl rfl ?_
  simp -implicitDefEqProofs [-guardOk, -gval]
  refine loopAll (List.range l.length) (oidBadAt l) [0, 5, 6] [] (fun i st => st.tmps 7 = .one (.t (I i))) (by simpa [short] using hl) ⟨by simp, by simp, by simp⟩ ?_ ?_
  · intro i y st hi hiI hw hg hy hany hx hk hh
    obtain rfl := range_at hg
    simp at hk hi
    have hi' : (y : Int) < (l.length : Int) := by omega
    have q1 : l[y]? = some l[y] := List.getElem?_eq_getElem hi
    have q2 : l[0]? = some l[0] := List.getElem?_eq_getElem (by omega)
    have c0 : 0 < l.length := by omega
    have c0' : (0 : Int) < (l.length : Int) := by omega
    have hd : oidBadAt l y = ((l[y]).kind == 2 && oidBad y l[y] l[0]) := by simp [oidBadAt, q1, q2]
    rw [hd] at hany ⊢
    have e0 : isOid l = !(List.range l.length).any (oidBadAt l) := rfl
    rw [e0]
    generalize l[y] = x at *
    generalize l[0] = x0 at *
    rcases eqCases x.kind 2 with q | q
    · obtain ⟨a, ea⟩ : ∃ a, (decide (0 ≤ x.n) && decide (x.n ≤ 1152921504606846976)) = a := ⟨_, rfl⟩
      obtain ⟨b, eb⟩ : ∃ a, decide (x.n > 2) = a := ⟨_, rfl⟩
      obtain ⟨c, ec⟩ : ∃ a, decide (x0.n < 2) = a := ⟨_, rfl⟩
      obtain ⟨d, ed⟩ : ∃ a, decide (x.n > 39) = a := ⟨_, rfl⟩
      obtain ⟨e, ee⟩ : ∃ a, (x0.kind == 2) = a := ⟨_, rfl⟩
      have eb' : decide (2 < x.n) = b := eb
      have ed' : decide (39 < x.n) = d := ed
      simp only [oidBad, ea, eb, ec, ed, ee] at hany ⊢
      simp -implicitDefEqProofs [-guardOk, -gval, hx, hk, hi', hi, q, rowAtM q1, Vl.row_eq, -List.getElem_map]
      refine callK.tree (P170 _ _ _) rfl ?_
      rw [ea]
      have w1 : IntKind.i64.wrap 1 = 1 := wrap_i64 (by omega) (by omega)
      have w2 : IntKind.i64.wrap 2 = 2 := wrap_i64 (by omega) (by omega)
      have eqy : y = 0 ∨ y = 1 ∨ ((y : Int) == 0) = false ∧ ((y : Int) == 1) = false ∧ ¬ y = 0 ∧ ¬ y = 1 ∧ ¬ (y : Int) = 0 ∧ ¬ (y : Int) = 1 := by
        rcases y with - | - | y
        · exact .inl rfl
        · exact .inr (.inl rfl)
        · refine .inr (.inr ⟨by simp; omega, by simp; omega, by omega, by omega, by omega, by omega⟩)
      rcases bb a with rfl | rfl
      · rcases eqy with rfl | rfl | qy
        · rcases bb b with rfl | rfl
          · simp -implicitDefEqProofs [-guardOk, -gval, hk, c0, rowAtM q2, Vl.row_eq, -List.getElem_map, pureEnd, eb']
            simpa using hany (by simp [q])
          · simp -implicitDefEqProofs [-guardOk, -gval, hx, hk, w1, c0, rowAtM q2, Vl.row_eq, -List.getElem_map, eb']
        · rcases bb e with rfl | rfl
          · rcases bb c with rfl | rfl
            · rcases bb d with rfl | rfl
              · simp -implicitDefEqProofs [-guardOk, -gval, hk, c0, rowAtM q2, Vl.row_eq, -List.getElem_map, pureEnd, ee, ec, ed']
                simpa using hany (by simp [q])
              · simp -implicitDefEqProofs [-guardOk, -gval, hx, hk, w2, c0, rowAtM q2, Vl.row_eq, -List.getElem_map, ee, ec, ed']
            · simp -implicitDefEqProofs [-guardOk, -gval, hx, hk, w2, c0, rowAtM q2, Vl.row_eq, -List.getElem_map, ee, ec]
          · simp -implicitDefEqProofs [-guardOk, -gval, hx, hk, w2, c0, rowAtM q2, Vl.row_eq, -List.getElem_map, ee]
        · simp -implicitDefEqProofs [-guardOk, -gval, hx, hk, hw, c0, rowAtM q2, Vl.row_eq, -List.getElem_map, qy]
      · simp -implicitDefEqProofs [-guardOk, -gval, hk, c0, rowAtM q2, Vl.row_eq, -List.getElem_map, pureEnd]
        simpa using hany (by simp [q])
    · simp -implicitDefEqProofs [-guardOk, -gval, hx, hk, hi', hi, hw, q, rowAtM q1, Vl.row_eq, -List.getElem_map]
  · intro st hany hx hk hh
    simp at hk
    simp only [List.length_range] at hx
    have e0 : isOid l = !(List.range l.length).any (oidBadAt l) := rfl
    rw [e0, hany]
    simp -implicitDefEqProofs [-guardOk, -gval, hx, hk, pureEnd]
def Vl.inRange (v : Vl) : Bool :=
  if v.kind == 1 then decide (0 ≤ v.n) && decide (v.n ≤ 1) else if v.kind == 2 then isNum v.n
  else if v.kind == 8 then (v.n == 0 && v.e == 0) || (isNum v.n && v.n.tmod 2 != 0 && (decide (-1000 ≤ v.e) && decide (v.e ≤ 1000)))
  else if v.kind == 14 then decide (0 ≤ v.n) && decide (v.n ≤ 4) else if v.kind == 7 then isOid v.items else true
attribute [local simp] c223r0 c223r1 c223r2 c223r3 c223r4 c223r5 c223r6 c223r7 c223r8 c223r9 c223r10 c223r11 c223t12 c223t13 c223t14 c223t15 c223t16 c223t17 c223r12 c223t19 c223 in
theorem P223 (v : Vl) (hl : short v.items) : PSp Tryz.prog 223 [.agg (vlC v)] (.one (.t (.bool v.inRange))) := by
  refine k223.pureK (by simp) (by simp [D.closed, A.closed]) rfl ?_
  have p184 : ∀ n, PSp Tryz.prog 184 [.one (.t (I n))] (.one (.t (.bool (isNum n)))) := P184
  rcases eqCases v.kind 1 with q1 | q1
  · simp -implicitDefEqProofs [-guardOk, -gval, q1]
    refine callK.tree (P170 _ _ _) rfl ?_
    simp -implicitDefEqProofs [-guardOk, -gval, pureEnd, Vl.inRange, q1]
  · rcases eqCases v.kind 2 with q2 | q2
    · simp -implicitDefEqProofs [-guardOk, -gval, q2]
      refine callK.tree (p184 _) rfl ?_
      simp -implicitDefEqProofs [-guardOk, -gval, pureEnd, Vl.inRange, q2]
    · rcases eqCases v.kind 8 with q8 | q8
      · obtain ⟨a, ea⟩ : ∃ a, (v.n == 0) = a := ⟨_, rfl⟩
        obtain ⟨b, eb⟩ : ∃ a, (v.e == 0) = a := ⟨_, rfl⟩
        obtain ⟨c, ec⟩ : ∃ a, isNum v.n = a := ⟨_, rfl⟩
        obtain ⟨d, ed⟩ : ∃ a, (v.n.tmod 2 == 0) = a := ⟨_, rfl⟩
        obtain ⟨e, ee⟩ : ∃ a, (decide (-1000 ≤ v.e) && decide (v.e ≤ 1000)) = a := ⟨_, rfl⟩
        obtain ⟨f, ef⟩ : ∃ x, (a && b) = x := ⟨_, rfl⟩
        have hR : v.inRange = (f || (c && !d && e)) := by
          simp only [Vl.inRange, q8, ea, eb, ec, bne, ed, ee, ef]; rfl
        rw [hR]
        simp -implicitDefEqProofs [-guardOk, -gval, q8, ea, eb, ef]
        rcases bb f with rfl | rfl
        · simp -implicitDefEqProofs [-guardOk, -gval, pureEnd]
        · simp -implicitDefEqProofs [-guardOk, -gval]
          refine callK.tree (p184 _) rfl ?_
          rw [ec]
          rcases bb c with rfl | rfl
          · simp -implicitDefEqProofs [-guardOk, -gval, ed, bne]
            rcases bb d with rfl | rfl
            · simp -implicitDefEqProofs [-guardOk, -gval, pureEnd]
            · simp -implicitDefEqProofs [-guardOk, -gval]
              refine callK.tree (P170 _ _ _) rfl ?_
              rw [ee]
              simp -implicitDefEqProofs [-guardOk, -gval, pureEnd]
          · simp -implicitDefEqProofs [-guardOk, -gval, pureEnd]
      · rcases eqCases v.kind 14 with q14 | q14
        · simp -implicitDefEqProofs [-guardOk, -gval, q14]
          refine callK.tree (P170 _ _ _) rfl ?_
          simp -implicitDefEqProofs [-guardOk, -gval, pureEnd, Vl.inRange, q14]
        · rcases eqCases v.kind 7 with q7 | q7
          · simp -implicitDefEqProofs [-guardOk, -gval, q7]
            refine callK.tree (P261 v.items hl) rfl ?_
            simp -implicitDefEqProofs [-guardOk, -gval, pureEnd, Vl.inRange, q7]
          · simp -implicitDefEqProofs [-guardOk, -gval, q1, q2, q8, q14, q7, pureEnd, Vl.inRange]
attribute [local simp] c262r0 c262r1 c262 in
theorem P262 (v : Vl) : PSp Tryz.prog 262 [.agg (vlC v)] (.one (.t (.bool (v.kind == 2)))) := by
  refine k262.pureK (by simp) (by simp [D.closed, A.closed]) rfl ?_
  simp -implicitDefEqProofs [-guardOk, -gval, pureEnd]
attribute [local simp] c264r0 c264r1 c264 in
theorem K264 (v : Vl) (h : Hp) (id : Nat) (hid : h id = some (.arr 0 false 1 [[.fn 262 []]])) : Look 264 h [.agg (vlC v), .one (.ptr ⟨id, 0, 1, 0, 0⟩)] (.one (.t (.bool (!(v.kind == 2))))) := fun n => by
  refine ISp.ok fun ho => ?_
  have hlt := ltOf ho hid
  refine k264.ispK (by simp) ?_
  obtain ⟨o1, o2, o3, o4⟩ := objF hid
  have hne : ¬ id = n := by omega
  simp -implicitDefEqProofs [-guardOk, -gval, o1, o2, o3, hne]
  refine ⟨262, [], ⟨rfl, rfl⟩, by kernel_rfl, ?_⟩
  refine callK.tree (P262 v) rfl ?_
  simp -implicitDefEqProofs [-guardOk, -gval]
  exact impEnd_t (.inr rfl) (by simp) (fun j hj => by simp [Hp.set]; omega) ho
theorem any263c (l : List Vl) (hl : short l) (p : Vl → Bool) (clo : FuncId) (caps : List Pt) (hc : callable Tryz.prog clo = true) (h : Hp) (hp : ∀ x ∈ l, Look clo h (.agg (vlC x) :: caps.map fun q => .one (.ptr q)) (.one (.t (.bool (p x))))) (n : Nat) :
    ISp Tryz.prog 263 h n [.one (.t (valsT l)), .one (.fn clo caps)] (.one (.t (.bool (l.any p)))) h :=
  C263 l hl p clo caps h n hc fun x hx new K hn hK => callK.imp (by rw [vlC_eq]; exact hp x hx new) hK
def Vl.shaped (v : Vl) : Bool :=
  if v.kind == 7 then decide ((v.items.length : Int) ≥ 2) && !v.items.any (fun x => !(x.kind == 2)) else if v.kind == 9 then (v.names.length : Int) == (v.items.length : Int)
  else if v.kind == 12 then (v.names.length : Int) == 1 && (v.items.length : Int) == 1 else if v.kind == 13 then (v.items.length : Int) == 1 && (!seqB v.s (bs []) || (match v.items[0]? with | some x => x.kind == 5 | none => false)) else true
attribute [local simp] c224r0 c224r1 c224r2 c224r3 c224r4 c224r5 c224r6 c224r7 c224r8 c224r9 c224r10 c224r11 c224t12 c224t13 c224t14 c224t15 c224t16 c224r12 c224t18 c224t19 c224t20 c224 in
theorem P224 (v : Vl) (hl : short v.items) : PSp Tryz.prog 224 [.agg (vlC v)] (.one (.t (.bool v.shaped))) := by
  refine k224.pureK (by simp) (by simp [D.closed, A.closed]) rfl ?_
  rcases eqCases v.kind 7 with q7 | q7
  · have e0 : v.shaped = (decide ((v.items.length : Int) ≥ 2) && !v.items.any (fun x => !(x.kind == 2))) := by simp only [Vl.shaped, q7]; rfl
    rw [e0]
    rcases leCases 2 (v.items.length : Int) with q | q
    · simp -implicitDefEqProofs [-guardOk, -gval, q7, q]
      have hc := any263c v.items hl (fun x => !(x.kind == 2)) 264 [⟨6, 0, 1, 0, 0⟩] (by kernel_rfl) ((noHp.set 0 (O.arr 0 false 6 [vlC v])).set 6 (O.arr 0 false 1 [[A.fn 262 []]])) fun x _ => K264 x _ 6 (by simp [Hp.set])
      simp only [vlC, textsT, valsT, q7] at hc
      refine callK.imp (hc _) ?_
      generalize v.items.any (fun x => !(x.kind == 2)) = w
      simp -implicitDefEqProofs [-guardOk, -gval, pureEnd]
    · simp -implicitDefEqProofs [-guardOk, -gval, q7, q, pureEnd]
  · rcases eqCases v.kind 9 with q9 | q9
    · simp -implicitDefEqProofs [-guardOk, -gval, q9, pureEnd, Vl.shaped]
    · rcases eqCases v.kind 12 with q12 | q12
      · simp -implicitDefEqProofs [-guardOk, -gval, q12, pureEnd, Vl.shaped]
      · rcases eqCases v.kind 13 with q13 | q13
        · obtain ⟨a, ea⟩ : ∃ a, ((v.items.length : Int) == 1) = a := ⟨_, rfl⟩
          obtain ⟨b, eb⟩ : ∃ a, (v.s.toList == (bs []).toList) = a := ⟨_, rfl⟩
          have eb' : seqB v.s (bs []) = b := eb
          rcases bb a with rfl | rfl
          · rcases bb b with rfl | rfl
            · have hl1 : v.items.length = 1 := by have := ea; simp at this; omega
              have g : v.items[0]? = some (v.items[0]'(by omega)) := List.getElem?_eq_getElem (by omega)
              have hp : 0 < v.items.length := by omega
              generalize hgx : v.items[0]'(by omega) = x at g
              simp -implicitDefEqProofs [-guardOk, -gval, q13, ea, eb, hp, rowAtM g, Vl.row_eq, -List.getElem_map, pureEnd, Vl.shaped, eb', hgx]
            · simp -implicitDefEqProofs [-guardOk, -gval, q13, ea, eb, eb', pureEnd, Vl.shaped]
          · simp -implicitDefEqProofs [-guardOk, -gval, q13, ea, pureEnd, Vl.shaped]
        · simp -implicitDefEqProofs [-guardOk, -gval, q7, q9, q12, q13, pureEnd, Vl.shaped]
attribute [local simp] c228r0 c228r1 c228 in
theorem P228 (s : ByteArray) (hs : s.size ≤ 9223372036854775807) : PSp Tryz.prog 228 [.one (.t (.str s))] (.one (.t (.bool (!nameOk s)))) := by
  refine k228.pureK (by simp) rfl rfl ?_
  simp -implicitDefEqProofs [-guardOk, -gval]
  refine callK.tree (P219 s hs) rfl ?_
  simp -implicitDefEqProofs [-guardOk, -gval, pureEnd]
end Go.Proofs.YtdpbobkcbakpfaaGreatDoor

namespace Go.Proofs.YtdpbobkcbakpfaaGreatDoor
open Go Go.Ab
set_option maxRecDepth 100000
set_option maxHeartbeats 4000000
theorem chars_any (s : ByteArray) (p : Int → Bool) : (chars s).any p = s.data.toList.any fun b => p (b.toNat : Int) := by
  simp [chars, List.any_map, Function.comp_def]
theorem all_drop {α : Type} (p : α → Bool) : ∀ l : List α, (∀ x ∈ l.dropWhile p, p x = true) → ∀ x ∈ l, p x = true
  | [], _, x, hx => by simp at hx
  | a :: r, h, x, hx => by
    cases ha : p a with
    | true =>
      rw [List.dropWhile_cons_of_pos ha] at h
      rcases List.mem_cons.1 hx with e | e
      · rw [e]; exact ha
      · exact all_drop p r h x e
    | false =>
      rw [List.dropWhile_cons_of_neg (by simp [ha])] at h
      have := h a (List.mem_cons_self ..)
      rw [ha] at this; cases this
theorem drop_nil {α : Type} (p : α → Bool) : ∀ l : List α, (∀ x ∈ l, p x = true) → l.dropWhile p = []
  | [], _ => rfl
  | a :: r, h => by
    rw [List.dropWhile_cons_of_pos (h a (List.mem_cons_self ..))]
    exact drop_nil p r fun x hx => h x (List.mem_cons_of_mem _ hx)
theorem drop_nil_iff {α : Type} (p : α → Bool) (l : List α) : l.dropWhile p = [] ↔ ∀ x ∈ l, p x = true :=
  ⟨fun h => all_drop p l (by rw [h]; simp), drop_nil p l⟩
theorem trimS_nil (l cs : List UInt8) : Lib.trimS l cs = [] ↔ ∀ b ∈ l, cs.contains b = true := by
  rw [Lib.trimS, Lib.trimLeftS, Lib.trimRightS, drop_nil_iff]
  constructor
  · intro h b hb
    exact all_drop (cs.contains ·) l.reverse (fun x hx => h x (by simpa using hx)) b (by simpa using hb)
  · intro h x hx
    have hx' : x ∈ l.reverse.dropWhile (cs.contains ·) := by simpa using hx
    exact h x (by simpa using (List.dropWhile_sublist _).mem hx')
theorem trim01_any (s : ByteArray) : (Lib.trimS s.data.toList [48, 49] == (bs []).toList) = !(chars s).any fun c => !(c == 48 || c == 49) := by
  have e : (bs []).toList = [] := by simp [bs]
  rw [e, chars_any, Bool.eq_iff_iff, beq_iff_eq, trimS_nil]
  simp only [Bool.not_eq_true', List.any_eq_false]
  have h : ∀ b : UInt8, ([48, 49] : List UInt8).contains b = ((b.toNat : Int) == 48 || (b.toNat : Int) == 49) := fun b => by
    have h48 : (b == (48 : UInt8)) = (((b.toNat : Int)) == 48) := by
      rw [Bool.eq_iff_iff]; simp only [beq_iff_eq]
      constructor
      · rintro rfl; rfl
      · intro h; apply UInt8.toNat_inj.1; simpa using (by omega : b.toNat = 48)
    have h49 : (b == (49 : UInt8)) = (((b.toNat : Int)) == 49) := by
      rw [Bool.eq_iff_iff]; simp only [beq_iff_eq]
      constructor
      · rintro rfl; rfl
      · intro h; apply UInt8.toNat_inj.1; simpa using (by omega : b.toNat = 49)
    rw [List.contains_cons, List.contains_cons, List.contains_nil, h48, h49, Bool.or_false]
  constructor
  · intro k b hb
    have := k b hb
    rw [h] at this
    simp [this]
  · intro k b hb
    rw [h]
    have := k b hb
    simp at this ⊢
    omega
theorem decode_high (s : ByteArray) (pos : Nat) (h : pos < s.size) (ha : 128 ≤ (s[pos]'h).toNat) : 127 < (Utf8.decode s pos).1 := by
  have e : s.get! (pos + 0) = s[pos]'h := by
    show s.get! pos = _
    simp [ByteArray.get!, getElem!_pos, h]
    rfl
  simp only [Utf8.decode, e]
  rw [if_neg (by omega)]
  have hr : 127 < Utf8.runeError := by decide
  split
  · split <;> simp_all; omega
  · split
    · split
      · simp_all; omega
      · simp_all
    · split
      · split
        · simp_all; omega
        · simp_all
      · exact hr
theorem idx_from (s : ByteArray) : ∀ (f pos : Nat), s.size ≤ pos + f → (0 ≤ Lib.idxFuncFrom (fun x => decide (127 < x)) true s f pos ↔ ∃ j, ∃ h : j < s.size, pos ≤ j ∧ 127 < (s[j]'h).toNat)
  | 0, pos, hf => by
    simp only [Lib.idxFuncFrom]
    constructor
    · intro h; omega
    · rintro ⟨j, h, h1, _⟩; omega
  | f + 1, pos, hf => by
    rw [Lib.idxFuncFrom]
    rcases Nat.lt_or_ge pos s.size with h | h
    · rw [if_pos h]
      rcases Nat.lt_or_ge (s[pos]'h).toNat 128 with hb | hb
      · rw [Go.decode_ascii s pos h hb]
        have : ¬ 127 < (s[pos]'h).toNat := by omega
        simp only [this, decide_false, Bool.false_eq_true, if_false]
        rw [idx_from s f (pos + 1) (by omega)]
        constructor
        · rintro ⟨j, hj, h1, h2⟩; exact ⟨j, hj, by omega, h2⟩
        · rintro ⟨j, hj, h1, h2⟩
          refine ⟨j, hj, ?_, h2⟩
          rcases Nat.eq_or_lt_of_le h1 with e | e
          · subst e; omega
          · omega
      · have := decode_high s pos h hb
        rw [if_pos (by simpa using this)]
        exact ⟨fun _ => ⟨pos, h, Nat.le_refl _, by omega⟩, fun _ => by omega⟩
    · rw [if_neg (by omega)]
      constructor
      · intro h; omega
      · rintro ⟨j, hj, h1, _⟩; omega
theorem idx127 (s : ByteArray) : decide (0 ≤ Lib.idxFunc (fun x => decide (127 < x)) true s) = (chars s).any fun c => decide (127 < c) := by
  rw [Bool.eq_iff_iff, decide_eq_true_iff, Lib.idxFunc, idx_from s s.size 0 (by omega), chars_any, List.any_eq_true]
  constructor
  · rintro ⟨j, hj, _, h⟩
    refine ⟨s[j]'hj, ?_, by simp; omega⟩
    have : s[j]'hj = s.data.toList[j]'(by simpa using hj) := by simp; rfl
    rw [this]; exact List.getElem_mem _
  · rintro ⟨b, hb, h⟩
    obtain ⟨j, hj, rfl⟩ := List.getElem_of_mem hb
    have hj' : j < s.size := by simpa using hj
    refine ⟨j, hj', Nat.zero_le _, ?_⟩
    have : s[j]'hj' = s.data.toList[j]'hj := by simp; rfl
    rw [this]
    simp at h ⊢
    omega
end Go.Proofs.YtdpbobkcbakpfaaGreatDoor

namespace Go.Proofs.YtdpbobkcbakpfaaGreatDoor
open Go Go.Ab
set_option maxRecDepth 100000
set_option maxHeartbeats 4000000
attribute [local simp] tagsT fieldsT typesT nodesT valsT textsT intsT tyC fdC vlC ndC hset_hset D.isPt D.pt
def Vl.formBad (v : Vl) : Bool := (!hasN v.kind && v.n != 0) || (!hasE v.kind && v.e != 0) || (!hasS v.kind && !seqB v.s (bs [])) || (!hasNm v.kind && decide (0 < v.names.length)) || (!hasIt v.kind && decide (0 < v.items.length))
def Vl.isText (v : Vl) : Bool := v.kind == 4 || v.kind == 5 || v.kind == 6
def Vl.large (v : Vl) : Bool := (v.isText && decide (200 < v.s.size)) || decide ((if v.kind == 9 then 16 else 40) < v.items.length)
def Vl.typeBad (v : Vl) : Bool := (v.kind == 4 && (chars v.s).any fun c => !(c == 48 || c == 49)) || (v.kind == 6 && (chars v.s).any fun c => decide (127 < c))
def Vl.nameBad (v : Vl) : Bool := ((v.kind == 3 || (v.kind == 13 && !seqB v.s (bs []))) && !nameOk v.s) || v.names.any fun s => !nameOk s
def dblAt (l : List ByteArray) (i : Nat) : Bool := match l[i]? with | some s => (l.take i).any fun x => seqB s x | none => false
def Vl.own7 (v : Vl) : Int := if (List.range v.names.length).any (dblAt v.names) then 13 else if v.kind != 11 || !(List.range (v.items.length - 1)).any (descAt v.items) then 0 else 14
def Vl.own6 (v : Vl) : Int := if v.nameBad then 7 else v.own7
def Vl.own5 (v : Vl) : Int := if v.typeBad then 17 else v.own6
def Vl.own4 (v : Vl) : Int := if v.shaped then v.own5 else 6
def Vl.own3 (v : Vl) : Int := if v.large then 2 else v.own4
def Vl.own2 (v : Vl) : Int := if v.inRange then v.own3 else 3
def Vl.own1 (v : Vl) : Int := if v.formBad then 5 else v.own2
def Vl.ownErr (v : Vl) : Int := if decide (0 ≤ v.kind) && decide (v.kind ≤ 14) then v.own1 else 4
def VB (v : Vl) (i : Nat) (st : St) : Prop := st.tmps i = .one (.ptr ⟨0, 0, 6, 0, 0⟩) ∧ st.heap 0 = some (.arr 0 false 6 [vlC v])
attribute [local simp] c186r0 c186r1 c186r2 c186t3 c186r3 c186r4 c186r5 c186t7 c186r6 c186r7 c186t10 c186r8 c186r9 c186r10 c186r11 c186t15 c186r12 c186r13 c186t18 c186r14 c186r15 c186t21 c186r16 c186r17 c186r18 c186r19 c186t26 c186r20 c186r21 c186t29 c186r22 c186r23 c186r24 c186r25 c186r26 c186t35 c186t36 c186r27 c186t38 c186t39 c186b40 c186t41 c186r28 c186t43 c186t44 c186t45 c186t46 c186t47 c186t48 c186t49 c186t50 c186t51 c186t52 c186t53 c186t54 c186t55 c186t56 c186 in
theorem own43 (v : Vl) (hv : v.fine) (st : St) (h1 : VB v 1 st) (_hnx : 0 < st.nx) : awpK Tryz.prog 173 (pureEnd [.tmp 2] (.one (.t (I v.own7)))) c186t43 [] st := by
  rw [Vl.fine_iff] at hv
  obtain ⟨f1, f2, f3, f4, f5⟩ := hv
  obtain ⟨h1, h2⟩ := h1
  obtain ⟨o1, o2, o3, o4⟩ := objF h2
  have e0 : v.own7 = if (List.range v.names.length).any (dblAt v.names) then 13 else if v.kind != 11 || !(List.range (v.items.length - 1)).any (descAt v.items) then 0 else 14 := rfl
  generalize v.own7 = R at *
  simp -implicitDefEqProofs [-guardOk, -gval, h1, o1, o2, o3]
  refine loopAll (List.range v.names.length) (dblAt v.names) [1, 150, 151] [0] (fun i st => st.tmps 152 = .one (.t (I i))) (by simpa [short] using f2) ⟨by simp, by simp, by simp []⟩ ?_ ?_
  · intro i y st' hi hiI hw hg hy hany hx hk hh
    obtain rfl := range_at hg
    simp [h1] at hk hh hi
    have hi' : (y : Int) < (v.names.length : Int) := by omega
    have q1 : v.names[y]? = some v.names[y] := List.getElem?_eq_getElem hi
    have hd : dblAt v.names y = (v.names.take y).any fun x => seqB v.names[y] x := by simp [dblAt, q1]
    rw [hd] at hany ⊢
    obtain ⟨o1, o2, o3, o4⟩ := objF (hh.1.trans h2)
    have hle : y ≤ v.names.length := by omega
    generalize v.names[y] = s at *
    simp -implicitDefEqProofs [-guardOk, -gval, h1, hx, hk, hi', hi, rowAtM q1, o1, o2, o3, hle]
    have pc := P218 (v.names.take y) s (by simp [short] at f2 ⊢; omega)
    simp only [textsT, List.map_take] at pc
    refine callK.tree pc rfl ?_
    cases hb : (v.names.take y).any fun x => seqB s x with
    | true =>
      simp -implicitDefEqProofs [-guardOk, -gval, pureEnd]
      rw [e0, if_pos (hany hb)]
    | false =>
      simp -implicitDefEqProofs [-guardOk, -gval, hx, hk, hw]
      exact ⟨by simpa using hb, hh.1⟩
  · intro st' hany hx hk hh
    simp [h1] at hk hh
    simp only [List.length_range] at hx
    obtain ⟨o1, o2, o3, o4⟩ := objF (hh.1.trans h2)
    rw [hany] at e0
    rcases eqCases v.kind 11 with q | q
    · simp -implicitDefEqProofs [-guardOk, -gval, hx, hk, q, o1, o2, o3]
      rw [q] at e0
      refine callK.pure (P229 v.items f4 f5) (by simp) (by simp) ?_
      generalize (List.range (v.items.length - 1)).any (descAt v.items) = w at *
      simp -implicitDefEqProofs [-guardOk, -gval]
      refine callK.tree (P171 _ _) rfl ?_
      simp -implicitDefEqProofs [-guardOk, -gval, pureEnd, e0]
    · simp -implicitDefEqProofs [-guardOk, -gval, hx, hk, q, o1, o2, o3]
      refine callK.tree (P171 _ _) rfl ?_
      simp -implicitDefEqProofs [-guardOk, -gval, pureEnd, e0, q]
theorem own_rest {v : Vl} (hv : v.fine) : v.s.size ≤ 9223372036854775807 ∧ short v.names ∧ short v.items ∧ ∀ x ∈ v.names, x.size ≤ 9223372036854775807 := by
  rw [Vl.fine_iff] at hv; exact ⟨hv.1, hv.2.1, hv.2.2.2.1, hv.2.2.1⟩
attribute [local simp] c186r0 c186r1 c186r2 c186t3 c186r3 c186r4 c186r5 c186t7 c186r6 c186r7 c186t10 c186r8 c186r9 c186r10 c186r11 c186t15 c186r12 c186r13 c186t18 c186r14 c186r15 c186t21 c186r16 c186r17 c186r18 c186r19 c186t26 c186r20 c186r21 c186t29 c186r22 c186r23 c186r24 c186r25 c186r26 c186t35 c186t36 c186r27 c186t38 c186t39 c186b40 c186t41 c186r28 c186t44 c186t45 c186t46 c186t47 c186t48 c186t49 c186t50 c186t51 c186t52 c186t53 c186t54 c186t55 c186t56 c186 in
theorem own44 (v : Vl) (hv : v.fine) (st : St) (h1 : VB v 1 st) (_hnx : 0 < st.nx) : awpK Tryz.prog 173 (pureEnd [.tmp 2] (.one (.t (I v.own6)))) c186t44 [] st := by
  obtain ⟨f1, f2, f4, f3⟩ := own_rest hv
  have rest := own43 v hv
  obtain ⟨h1, h2⟩ := h1
  obtain ⟨o1, o2, o3, o4⟩ := objF h2
  obtain ⟨a, ea⟩ : ∃ a, (v.kind == 3) = a := ⟨_, rfl⟩
  obtain ⟨b, eb⟩ : ∃ a, (v.kind == 13) = a := ⟨_, rfl⟩
  obtain ⟨c, ec⟩ : ∃ a, (v.s.toList == (bs []).toList) = a := ⟨_, rfl⟩
  obtain ⟨d, ed⟩ : ∃ x, (b && !c) = x := ⟨_, rfl⟩
  obtain ⟨e, ee⟩ : ∃ x, (a || d) = x := ⟨_, rfl⟩
  have e0 : v.own6 = if (e && !nameOk v.s) || v.names.any (fun s => !nameOk s) then 7 else v.own7 := by
    simp only [Vl.own6, Vl.nameBad, seqB, ea, eb, ec, ed, ee]
  have hany : ∀ h n, ISp Tryz.prog 227 h n [.one (.t (textsT v.names)), .one (.fn 228 [])] (.one (.t (.bool (v.names.any fun s => !nameOk s)))) h := fun h n =>
    C227 v.names f2 (fun s => !nameOk s) 228 [] h n (by kernel_rfl) fun x hx new K hn hK => callK.tree (P228 x (f3 x hx)) (by simp [D.flatT, flatA]) hK
  simp only [textsT] at hany
  rw [e0]
  generalize (v.names.any fun s => !nameOk s) = w at *
  simp -implicitDefEqProofs [-guardOk, -gval, h1, o1, o2, o3, ea, eb, ec, ed, ee]
  refine ⟨fun h => by simp [h], ?_, ?_⟩
  · intro he
    rw [he]
    refine callK.tree (P219 _ f1) rfl ?_
    cases hn : nameOk v.s with
    | true =>
      simp -implicitDefEqProofs [-guardOk, -gval, h1, o1, o2, o3]
      refine callK.imp (hany _ _) ?_
      cases w
      · simp -implicitDefEqProofs [-guardOk, -gval]
        exact rest _ ⟨by simp [h1], by simp [h2]⟩ (by simp)
      · simp -implicitDefEqProofs [-guardOk, -gval, pureEnd]
    | false => simp -implicitDefEqProofs [-guardOk, -gval, pureEnd]
  · intro he
    rw [he]
    simp -implicitDefEqProofs [-guardOk, -gval]
    refine callK.imp (hany _ _) ?_
    cases w
    · simp -implicitDefEqProofs [-guardOk, -gval]
      exact rest _ ⟨by simp [h1], by simp [h2]⟩ (by simp)
    · simp -implicitDefEqProofs [-guardOk, -gval, pureEnd]
theorem u8_eq (b : UInt8) (k : Nat) (hk : k < 256) : (b == UInt8.ofNat k) = ((b.toNat : Int) == (k : Int)) := by
  rw [Bool.eq_iff_iff]; simp only [beq_iff_eq]
  constructor
  · rintro rfl; simp; omega
  · intro h; apply UInt8.toNat_inj.1; simp; omega
attribute [local simp] c186r0 c186r1 c186r2 c186t3 c186r3 c186r4 c186r5 c186t7 c186r6 c186r7 c186t10 c186r8 c186r9 c186r10 c186r11 c186t15 c186r12 c186r13 c186t18 c186r14 c186r15 c186t21 c186r16 c186r17 c186r18 c186r19 c186t26 c186r20 c186r21 c186t29 c186r22 c186r23 c186r24 c186r25 c186r26 c186t35 c186t36 c186r27 c186t38 c186t39 c186b40 c186t41 c186r28 c186t43 c186t45 c186t46 c186t47 c186t48 c186t49 c186t50 c186t51 c186t52 c186t53 c186t54 c186t55 c186t56 c186 in
theorem own47 (v : Vl) (hv : v.fine) (st : St) (h1 : VB v 1 st) (_hnx : 0 < st.nx) : awpK Tryz.prog 173 (pureEnd [.tmp 2] (.one (.t (I v.own5)))) c186t47 [] st := by
  obtain ⟨f1, f2, f4, f3⟩ := own_rest hv
  have rest := own44 v hv
  obtain ⟨h1, h2⟩ := h1
  obtain ⟨o1, o2, o3, o4⟩ := objF h2
  have e0 : v.own5 = if (v.kind == 4 && (chars v.s).any fun c => !(c == 48 || c == 49)) || (v.kind == 6 && (chars v.s).any fun c => decide (127 < c)) then 17 else v.own6 := rfl
  rw [e0]
  have t1 := trim01_any v.s
  have t2 := idx127 v.s
  generalize ((chars v.s).any fun c => !(c == 48 || c == 49)) = x at *
  generalize ((chars v.s).any fun c => decide (127 < c)) = y at *
  rcases eqCases v.kind 4 with q4 | q4
  · simp -implicitDefEqProofs [-guardOk, -gval, h1, o1, o2, o3, q4]
    refine callK.tree (trim01 _ f1) rfl ?_
    simp -implicitDefEqProofs [-guardOk, -gval, h1, o1, o2, o3, q4, t1]
    cases x
    · simp -implicitDefEqProofs [-guardOk, -gval]
      exact rest _ ⟨by simp [h1], by simp [h2]⟩ (by simp)
    · simp -implicitDefEqProofs [-guardOk, -gval, pureEnd]
  · rcases eqCases v.kind 6 with q6 | q6
    · simp -implicitDefEqProofs [-guardOk, -gval, h1, o1, o2, o3, q6]
      refine callK.pure (indexFuncP v.s) (by simp) (by simp) ?_
      simp -implicitDefEqProofs [-guardOk, -gval, t2]
      cases y
      · simp -implicitDefEqProofs [-guardOk, -gval]
        exact rest _ ⟨by simp [h1], by simp [h2]⟩ (by simp)
      · simp -implicitDefEqProofs [-guardOk, -gval, pureEnd]
    · simp -implicitDefEqProofs [-guardOk, -gval, h1, o1, o2, o3, q4, q6]
      exact rest _ ⟨by simp [h1], by simp [h2]⟩ (by simp)
attribute [local simp] c186r0 c186r1 c186r2 c186t3 c186r3 c186r4 c186r5 c186t7 c186r6 c186r7 c186t10 c186r8 c186r9 c186r10 c186r11 c186t15 c186r12 c186r13 c186t18 c186r14 c186r15 c186t21 c186r16 c186r17 c186r18 c186r19 c186t26 c186r20 c186r21 c186t29 c186r22 c186r23 c186r24 c186r25 c186r26 c186t35 c186t36 c186r27 c186t38 c186t39 c186b40 c186t41 c186r28 c186t43 c186t44 c186t45 c186t46 c186t48 c186t49 c186t50 c186t51 c186t52 c186t53 c186t54 c186t55 c186t56 c186 in
theorem own48 (v : Vl) (hv : v.fine) (st : St) (h1 : VB v 1 st) (_hnx : 0 < st.nx) : awpK Tryz.prog 173 (pureEnd [.tmp 2] (.one (.t (I v.own4)))) c186t48 [] st := by
  obtain ⟨f1, f2, f4, f3⟩ := own_rest hv
  have rest := own47 v hv
  obtain ⟨h1, h2⟩ := h1
  obtain ⟨o1, o2, o3, o4⟩ := objF h2
  have e0 : v.own4 = if v.shaped then v.own5 else 6 := rfl
  rw [e0]
  simp -implicitDefEqProofs [-guardOk, -gval, h1, o1, o2, o3]
  refine callK.tree (P224 v f4) rfl ?_
  cases v.shaped
  · simp -implicitDefEqProofs [-guardOk, -gval, pureEnd]
  · simp -implicitDefEqProofs [-guardOk, -gval]
    exact rest _ ⟨by simp [h1], by simp [h2]⟩ (by simp)
attribute [local simp] c186r0 c186r1 c186r2 c186t3 c186r3 c186r4 c186r5 c186t7 c186r6 c186r7 c186t10 c186r8 c186r9 c186r10 c186r11 c186t15 c186r12 c186r13 c186t18 c186r14 c186r15 c186t21 c186r16 c186r17 c186r18 c186r19 c186t26 c186r20 c186r21 c186t29 c186r22 c186r23 c186r24 c186r25 c186r26 c186t35 c186t36 c186r27 c186t38 c186t39 c186b40 c186t41 c186r28 c186t43 c186t44 c186t45 c186t46 c186t47 c186t49 c186t50 c186t51 c186t52 c186t53 c186t54 c186t55 c186t56 c186 in
theorem own52 (v : Vl) (hv : v.fine) (st : St) (h1 : VB v 1 st) (_hnx : 0 < st.nx) : awpK Tryz.prog 173 (pureEnd [.tmp 2] (.one (.t (I v.own3)))) c186t52 [] st := by
  obtain ⟨f1, f2, f4, f3⟩ := own_rest hv
  have rest := own48 v hv
  obtain ⟨h1, h2⟩ := h1
  obtain ⟨o1, o2, o3, o4⟩ := objF h2
  obtain ⟨tx, et⟩ : ∃ x, (v.kind == 4 || v.kind == 5 || v.kind == 6) = x := ⟨_, rfl⟩
  obtain ⟨a, ea⟩ : ∃ x, decide (200 < v.s.size) = x := ⟨_, rfl⟩
  have ea' : decide ((200 : Int) < (v.s.size : Int)) = a := by rw [← ea]; congr 1; simp; omega
  obtain ⟨b, eb⟩ : ∃ x, (tx && a) = x := ⟨_, rfl⟩
  have e0 : v.own3 = if b || decide ((if v.kind == 9 then 16 else 40) < v.items.length) then 2 else v.own4 := by
    simp only [Vl.own3, Vl.large, Vl.isText, et, ea, eb]
  rw [e0]
  rcases eqCases v.kind 9 with q9 | q9
  · have hb : b = false := by rw [← eb, ← et, q9]; rfl
    subst hb
    rcases ltCases 16 (v.items.length : Int) with q | q
    · have q' : 16 < v.items.length := by omega
      simp -implicitDefEqProofs [-guardOk, -gval, h1, o1, o2, o3, q9, q, q', pureEnd]
    · have q' : ¬ 16 < v.items.length := by omega
      simp -implicitDefEqProofs [-guardOk, -gval, h1, o1, o2, o3, q9, q, q']
      exact rest _ ⟨by simp [h1], by simp [h2]⟩ (by simp)
  · rcases bb b with rfl | rfl
    · simp -implicitDefEqProofs [-guardOk, -gval, h1, o1, o2, o3, et, ea', eb, q9, pureEnd]
    · rcases ltCases 40 (v.items.length : Int) with q | q
      · have q' : 40 < v.items.length := by omega
        simp -implicitDefEqProofs [-guardOk, -gval, h1, o1, o2, o3, et, ea', eb, q9, q, q', pureEnd]
      · have q' : ¬ 40 < v.items.length := by omega
        simp -implicitDefEqProofs [-guardOk, -gval, h1, o1, o2, o3, et, ea', eb, q9, q, q']
        exact rest _ ⟨by simp [h1], by simp [h2]⟩ (by simp)
attribute [local simp] c186r0 c186r1 c186r2 c186t3 c186r3 c186r4 c186r5 c186t7 c186r6 c186r7 c186t10 c186r8 c186r9 c186r10 c186r11 c186t15 c186r12 c186r13 c186t18 c186r14 c186r15 c186t21 c186r16 c186r17 c186r18 c186r19 c186t26 c186r20 c186r21 c186t29 c186r22 c186r23 c186r24 c186r25 c186r26 c186t35 c186t36 c186r27 c186t38 c186t39 c186b40 c186t41 c186r28 c186t43 c186t44 c186t45 c186t46 c186t47 c186t48 c186t49 c186t50 c186t51 c186t53 c186t54 c186t55 c186t56 c186 in
theorem own53 (v : Vl) (hv : v.fine) (st : St) (h1 : VB v 1 st) (_hnx : 0 < st.nx) : awpK Tryz.prog 173 (pureEnd [.tmp 2] (.one (.t (I v.own2)))) c186t53 [] st := by
  obtain ⟨f1, f2, f4, f3⟩ := own_rest hv
  have rest := own52 v hv
  obtain ⟨h1, h2⟩ := h1
  obtain ⟨o1, o2, o3, o4⟩ := objF h2
  have e0 : v.own2 = if v.inRange then v.own3 else 3 := rfl
  rw [e0]
  simp -implicitDefEqProofs [-guardOk, -gval, h1, o1, o2, o3]
  refine callK.tree (P223 v f4) rfl ?_
  cases v.inRange
  · simp -implicitDefEqProofs [-guardOk, -gval, pureEnd]
  · simp -implicitDefEqProofs [-guardOk, -gval]
    exact rest _ ⟨by simp [h1], by simp [h2]⟩ (by simp)
end Go.Proofs.YtdpbobkcbakpfaaGreatDoor

namespace Go.Proofs.YtdpbobkcbakpfaaGreatDoor
open Go Go.Ab
set_option maxRecDepth 100000
set_option maxHeartbeats 4000000
attribute [local simp] tagsT fieldsT typesT nodesT valsT textsT intsT tyC fdC vlC ndC hset_hset D.isPt D.pt
attribute [local simp] c186r0 c186r1 c186r2 c186t3 c186r3 c186r4 c186r5 c186t7 c186r6 c186r7 c186t10 c186r8 c186r9 c186r10 c186r11 c186t15 c186r12 c186r13 c186t18 c186r14 c186r15 c186t21 c186r16 c186r17 c186r18 c186r19 c186t26 c186r20 c186r21 c186t29 c186r22 c186r23 c186r24 c186r25 c186r26 c186t35 c186t36 c186r27 c186t38 c186t39 c186b40 c186t41 c186r28 c186t43 c186t44 c186t45 c186t46 c186t47 c186t48 c186t49 c186t50 c186t51 c186t52 c186t54 c186t55 c186t56 c186 in
theorem own55 (v : Vl) (hv : v.fine) (st : St) (h1 : VB v 1 st) (hnx : 0 < st.nx) : awpK Tryz.prog 173 (pureEnd [.tmp 2] (.one (.t (I v.own1)))) c186t55 [] st := by
  obtain ⟨f1, f2, f4, f3⟩ := own_rest hv
  have rest := own53 v hv
  obtain ⟨h1, h2⟩ := h1
  obtain ⟨o1, o2, o3, o4⟩ := objF h2
  have p222 := P222 v.kind
  obtain ⟨a1, g1⟩ : ∃ x, hasN v.kind = x := ⟨_, rfl⟩
  obtain ⟨a2, g2⟩ : ∃ x, hasE v.kind = x := ⟨_, rfl⟩
  obtain ⟨a3, g3⟩ : ∃ x, hasS v.kind = x := ⟨_, rfl⟩
  obtain ⟨a4, g4⟩ : ∃ x, hasNm v.kind = x := ⟨_, rfl⟩
  obtain ⟨a5, g5⟩ : ∃ x, hasIt v.kind = x := ⟨_, rfl⟩
  obtain ⟨b1, k1⟩ : ∃ x, (v.n == 0) = x := ⟨_, rfl⟩
  obtain ⟨b2, k2⟩ : ∃ x, (v.e == 0) = x := ⟨_, rfl⟩
  obtain ⟨b3, k3⟩ : ∃ x, (v.s.toList == (bs []).toList) = x := ⟨_, rfl⟩
  obtain ⟨b4, k4⟩ : ∃ x, decide (0 < v.names.length) = x := ⟨_, rfl⟩
  obtain ⟨b5, k5⟩ : ∃ x, decide (0 < v.items.length) = x := ⟨_, rfl⟩
  obtain ⟨c1, m1⟩ : ∃ x, (!a1 && !b1) = x := ⟨_, rfl⟩
  obtain ⟨c2, m2⟩ : ∃ x, (!a2 && !b2) = x := ⟨_, rfl⟩
  obtain ⟨c3, m3⟩ : ∃ x, (!a3 && !b3) = x := ⟨_, rfl⟩
  obtain ⟨c4, m4⟩ : ∃ x, (!a4 && b4) = x := ⟨_, rfl⟩
  obtain ⟨c5, m5⟩ : ∃ x, (!a5 && b5) = x := ⟨_, rfl⟩
  obtain ⟨d2, n2⟩ : ∃ x, (c1 || c2) = x := ⟨_, rfl⟩
  obtain ⟨d3, n3⟩ : ∃ x, (d2 || c3) = x := ⟨_, rfl⟩
  obtain ⟨d4, n4⟩ : ∃ x, (d3 || c4) = x := ⟨_, rfl⟩
  obtain ⟨d5, n5⟩ : ∃ x, (d4 || c5) = x := ⟨_, rfl⟩
  have e0 : v.own1 = if d5 then 5 else v.own2 := by
    simp only [Vl.own1, Vl.formBad, seqB, bne, g1, g2, g3, g4, g5, k1, k2, k3, k4, k5, m1, m2, m3, m4, m5, n2, n3, n4, n5]
  rw [e0]
  simp only [hasD, g1, g2, g3, g4, g5] at p222
  simp -implicitDefEqProofs [-guardOk, -gval, h1, o1, o2, o3]
  refine callK.tree p222 rfl ?_
  have hne : ¬ 0 = st.nx + 3 := by omega
  simp -implicitDefEqProofs [-guardOk, -gval, h1, o1, o2, o3, k1, k2, k3, k4, k5, m1, m2, m3, m4, m5, n2, n3, n4, n5, bne, -Bool.not_or, -Bool.not_and]
  refine ⟨fun h => by simp [h], fun h => by simp [h], fun h => by simp [h], fun h => by simp [h], fun h => ?_, fun h => ?_⟩
  · rw [h]
    simp -implicitDefEqProofs [-guardOk, -gval, pureEnd]
  · rw [h]
    refine rest _ ⟨by simp [h1], ?_⟩ (by simp)
    simp only [Hp.set]; rw [if_neg hne]; exact h2
attribute [local simp] c186r0 c186r1 c186r2 c186t3 c186r3 c186r4 c186r5 c186t7 c186r6 c186r7 c186t10 c186r8 c186r9 c186r10 c186r11 c186t15 c186r12 c186r13 c186t18 c186r14 c186r15 c186t21 c186r16 c186r17 c186r18 c186r19 c186t26 c186r20 c186r21 c186t29 c186r22 c186r23 c186r24 c186r25 c186r26 c186t35 c186t36 c186r27 c186t38 c186t39 c186b40 c186t41 c186r28 c186t43 c186t44 c186t45 c186t46 c186t47 c186t48 c186t49 c186t50 c186t51 c186t52 c186t53 c186t54 c186t56 c186 in
theorem P186 (v : Vl) (hv : v.fine) : PSp Tryz.prog 186 [.agg (vlC v)] (.one (.t (I v.ownErr))) := by
  refine k186.pureK (by simp) (by simp [D.closed, A.closed]) rfl ?_
  have rest := own55 v hv
  have e0 : v.ownErr = if decide (0 ≤ v.kind) && decide (v.kind ≤ 14) then v.own1 else 4 := rfl
  obtain ⟨b, hb⟩ : ∃ b, (decide (0 ≤ v.kind) && decide (v.kind ≤ 14)) = b := ⟨_, rfl⟩
  rw [e0, hb]
  simp -implicitDefEqProofs [-guardOk, -gval]
  refine callK.tree (P170 _ _ _) rfl ?_
  rw [hb]
  cases b
  · simp -implicitDefEqProofs [-guardOk, -gval, pureEnd]
  · simp -implicitDefEqProofs [-guardOk, -gval]
    exact rest _ ⟨by simp, by simp [Hp.set]⟩ (by simp)
mutual
def Vl.formErr : Vl → Int
  | .mk k n e s ns is => if (Vl.mk k n e s ns is).ownErr != 0 then (Vl.mk k n e s ns is).ownErr else formErrs is
def formErrs : List Vl → Int
  | [] => 0
  | v :: r => if v.formErr != 0 then v.formErr else formErrs r
end
theorem Vl.formErr_eq (v : Vl) : v.formErr = if v.ownErr != 0 then v.ownErr else formErrs v.items := by cases v; rw [Vl.formErr]; rfl
attribute [local simp] c149r0 c149r1 c149r2 c149r3 c149t4 c149t5 c149r4 c149r5 c149r6 c149r7 c149r8 c149r9 c149t12 c149t13 c149t14 c149r10 c149t16 c149t17 c149b18 c149t19 c149r11 c149t21 c149t22 c149 in
theorem form21 (v : Vl) (hl : short v.items) (IH : ∀ x ∈ v.items, PSp Tryz.prog 149 [.agg (vlC x)] (.one (.t (I x.formErr)))) (st : St) (h1 : VB v 1 st) (_hnx : 0 < st.nx) : awpK Tryz.prog 25 (pureEnd [.tmp 2] (.one (.t (I (formErrs v.items))))) c149t21 [] st := by
  obtain ⟨h1, h2⟩ := h1
  obtain ⟨o1, o2, o3, o4⟩ := objF h2
  simp -implicitDefEqProofs [-guardOk, -gval, h1, o1, o2, o3]
  refine loopRec v.items (fun _ r (_ : Unit) => formErrs r) (formErrs v.items) () [1, 13, 14] [] (fun i _ st => st.tmps 15 = .one (.t (I i))) hl rfl ⟨by simp, by simp, by simp⟩ ?_ ?_
  · intro i y _ st hi hiI hw hg hy hR hx hk hh
    simp [h1] at hk
    rw [formErrs] at hR
    generalize formErrs v.items = R at *
    have hne : ∀ c, ¬ 0 = st.nx + c + 1 := fun c => by omega
    simp -implicitDefEqProofs [-guardOk, -gval, hx, hk, hiI, hi, rowAtM hg, Vl.row_eq, -List.getElem_map]
    refine callK.tree (IH y hy) rfl ?_
    rcases eqCases y.formErr 0 with e | e
    · rw [e] at hR ⊢
      simp at hR
      simp -implicitDefEqProofs [-guardOk, -gval, hx, hk, hw, h1]
      exact hR
    · simp -implicitDefEqProofs [-guardOk, -gval, e, pureEnd]
      simpa [e] using hR
  · intro _ st hR hx hk hh
    simp [h1] at hk
    rw [formErrs] at hR
    generalize formErrs v.items = R at *
    simp -implicitDefEqProofs [-guardOk, -gval, hx, hk, pureEnd]
    exact hR
attribute [local simp] c149r0 c149r1 c149r2 c149r3 c149t4 c149t5 c149r4 c149r5 c149r6 c149r7 c149r8 c149r9 c149t12 c149t13 c149t14 c149r10 c149t16 c149t17 c149b18 c149t19 c149r11 c149t22 c149 in
theorem step149 (v : Vl) (hv : v.fine) (IH : ∀ x ∈ v.items, PSp Tryz.prog 149 [.agg (vlC x)] (.one (.t (I x.formErr)))) : PSp Tryz.prog 149 [.agg (vlC v)] (.one (.t (I v.formErr))) := by
  rw [Vl.formErr_eq]
  refine k149.pureK (by simp) (by simp [D.closed, A.closed]) rfl ?_
  have rest := form21 v (own_rest hv).2.2.1 IH
  simp -implicitDefEqProofs [-guardOk, -gval]
  refine callK.tree (P186 v hv) rfl ?_
  generalize v.ownErr = e at *
  rcases eqCases e 0 with q | q
  · simp -implicitDefEqProofs [-guardOk, -gval, q]
    exact rest _ ⟨by simp, by simp [Hp.set]⟩ (by simp)
  · simp -implicitDefEqProofs [-guardOk, -gval, q, pureEnd]
theorem P149 : ∀ v : Vl, v.fine → PSp Tryz.prog 149 [.agg (vlC v)] (.one (.t (I v.formErr))) :=
  Vl.ind fun v IH hv => step149 v hv fun x hx => IH x hx (((Vl.fine_iff v).1 hv).2.2.2.2 x hx)
end Go.Proofs.YtdpbobkcbakpfaaGreatDoor

namespace Go.Proofs.YtdpbobkcbakpfaaGreatDoor
open Go Go.Ab
set_option maxRecDepth 100000
set_option maxHeartbeats 4000000
attribute [local simp] tagsT fieldsT typesT nodesT valsT textsT intsT tyC fdC vlC ndC hset_hset D.isPt D.pt
mutual
def Vl.slim : Vl → Bool
  | .mk _ _ _ s ns is => decide (s.size ≤ 500) && decide (ns.length ≤ 60) && decide (is.length ≤ 60) && ns.all (fun x => decide (x.size ≤ 60)) && slims is
def slims : List Vl → Bool
  | [] => true
  | v :: r => v.slim && slims r
end
def Vl.few (v : Vl) : Bool := !(szVs 12 [v] (400, false)).2 && v.slim
mutual
def Ty.narrow : Ty → Bool
  | .mk _ nm tg fs _ _ of l => decide (nm.size ≤ 60) && decide (tg.length ≤ 8) && decide (fs.length ≤ 40) && decide (of.length ≤ 4) && decide (l.length ≤ 40) && l.all (fun x => decide (x.s.size ≤ 500) && decide (x.args.length ≤ 5)) && narrowF fs && narrowY of
def Fd.narrow : Fd → Bool
  | .mk nm _ t _ d _ => decide (nm.size ≤ 60) && decide (d.length ≤ 3) && t.narrow && d.all Vl.few
def narrowF : List Fd → Bool
  | [] => true
  | f :: r => f.narrow && narrowF r
def narrowY : List Ty → Bool
  | [] => true
  | t :: r => t.narrow && narrowY r
end
theorem slims_all (l : List Vl) : slims l = l.all Vl.slim := by
  induction l with
  | nil => rfl
  | cons a r ih => rw [slims, ih]; rfl
theorem narrowF_all (l : List Fd) : narrowF l = l.all Fd.narrow := by
  induction l with
  | nil => rw [narrowF]; rfl
  | cons a r ih => rw [narrowF, ih]; rfl
theorem narrowY_all (l : List Ty) : narrowY l = l.all Ty.narrow := by
  induction l with
  | nil => rw [narrowY]; rfl
  | cons a r ih => rw [narrowY, ih]; rfl
theorem Vl.slim_iff (v : Vl) : v.slim = true ↔ v.s.size ≤ 500 ∧ v.names.length ≤ 60 ∧ v.items.length ≤ 60 ∧ (∀ x ∈ v.names, x.size ≤ 60) ∧ ∀ x ∈ v.items, x.slim = true := by
  cases v
  rw [Vl.slim, slims_all]
  simp [Vl.s, Vl.names, Vl.items, and_assoc]
theorem Fd.narrow_iff (f : Fd) : f.narrow = true ↔ f.name.size ≤ 60 ∧ f.dflt.length ≤ 3 ∧ f.ty.narrow = true ∧ ∀ x ∈ f.dflt, x.few = true := by
  cases f
  rw [Fd.narrow]
  simp [Fd.name, Fd.dflt, Fd.ty, and_assoc]
theorem Ty.narrow_iff (t : Ty) : t.narrow = true ↔ t.name.size ≤ 60 ∧ t.tags.length ≤ 8 ∧ t.fields.length ≤ 40 ∧ t.of.length ≤ 4 ∧ t.limits.length ≤ 40 ∧ (∀ x ∈ t.limits, x.s.size ≤ 500 ∧ x.args.length ≤ 5) ∧ (∀ f ∈ t.fields, f.narrow = true) ∧ ∀ o ∈ t.of, o.narrow = true := by
  cases t
  rw [Ty.narrow, narrowF_all, narrowY_all]
  simp [Ty.name, Ty.tags, Ty.fields, Ty.of, Ty.limits, and_assoc]
theorem Vl.slim_fine : ∀ v : Vl, v.slim = true → v.fine := Vl.ind fun v IH h => by
  rw [Vl.slim_iff] at h
  rw [Vl.fine_iff]
  obtain ⟨h1, h2, h3, h4, h5⟩ := h
  exact ⟨by omega, by simp [short]; omega, fun x hx => by have := h4 x hx; omega, by simp [short]; omega, fun x hx => IH x hx (h5 x hx)⟩
theorem Vl.few_slim {v : Vl} (h : v.few = true) : v.slim = true := by simp [Vl.few] at h; exact h.2
theorem Ty.narrow_fine : ∀ t : Ty, t.narrow = true → t.fine := Ty.ind fun t IH IHo h => by
  rw [Ty.narrow_iff] at h
  rw [Ty.fine_iff]
  obtain ⟨h1, h2, h3, h4, h5, h6, h7, h8⟩ := h
  refine ⟨by omega, by simp [short]; omega, by simp [short]; omega, fun f hf => ?_, by simp [short]; omega, fun o ho => IHo o ho (h8 o ho), by simp [short]; omega, fun x hx => ?_⟩
  · have := h7 f hf
    rw [Fd.narrow_iff] at this
    rw [Fd.fine_iff]
    obtain ⟨g1, g2, g3, g4⟩ := this
    exact ⟨by omega, IH f hf g3, by simp [short]; omega, fun v hv => Vl.slim_fine v (Vl.few_slim (g4 v hv))⟩
  · have := h6 x hx
    exact ⟨by omega, by simp [short]; omega⟩
def hasTy (k : Int) : Bool := k == 9 || k == 10 || k == 13 || k == 15
mutual
def Ty.typeErr : Ty → Int
  | .mk k nm tg fs o r of l => if (Ty.mk k nm tg fs o r of l).rangeErr != 0 then (Ty.mk k nm tg fs o r of l).rangeErr else if (Ty.mk k nm tg fs o r of l).partsErr != 0 then (Ty.mk k nm tg fs o r of l).partsErr
      else if fieldErrs (hasTy k) fs != 0 then fieldErrs (hasTy k) fs else typeErrs of
def Fd.ownErr (h : Bool) : Fd → Int
  | .mk _ _ t _ d _ => if h && t.typeErr != 0 then t.typeErr else formErrs d
def fieldErrs (h : Bool) : List Fd → Int
  | [] => 0
  | f :: r => if f.ownErr h != 0 then f.ownErr h else fieldErrs h r
def typeErrs : List Ty → Int
  | [] => 0
  | t :: r => if t.typeErr != 0 then t.typeErr else typeErrs r
end
theorem Ty.typeErr_eq (t : Ty) : t.typeErr = if t.rangeErr != 0 then t.rangeErr else if t.partsErr != 0 then t.partsErr else if fieldErrs (hasTy t.kind) t.fields != 0 then fieldErrs (hasTy t.kind) t.fields else typeErrs t.of := by
  cases t; rw [Ty.typeErr]; rfl
theorem Fd.ownErr_eq (h : Bool) (f : Fd) : f.ownErr h = if h && f.ty.typeErr != 0 then f.ty.typeErr else formErrs f.dflt := by
  cases f; rw [Fd.ownErr]; rfl
end Go.Proofs.YtdpbobkcbakpfaaGreatDoor

namespace Go.Proofs.YtdpbobkcbakpfaaGreatDoor
open Go Go.Ab
set_option maxRecDepth 100000
set_option maxHeartbeats 4000000
attribute [local simp] tagsT fieldsT typesT nodesT valsT textsT intsT tyC fdC vlC ndC hset_hset D.isPt D.pt
theorem retK_blk_any {P : Program} {n : Nat} {A : Exit → St → Prop} {ks : List KF} {id : Nat} {st : St} : retK P n A (.blk id :: ks) .ret st = retK P n A ks .ret st := rfl
attribute [local simp] c107r0 c107r1 c107r2 c107r3 c107t4 c107t5 c107r4 c107r5 c107r6 c107t9 c107t10 c107r7 c107r8 c107r9 c107r10 c107r11 c107r12 c107r13 c107t18 c107t19 c107t20 c107r14 c107r15 c107r16 c107r17 c107r18 c107r19 c107t27 c107t28 c107t29 c107r20 c107t31 c107t32 c107b33 c107t34 c107t35 c107t36 c107r21 c107t38 c107t39 c107b40 c107t41 c107r22 c107r23 c107r24 c107r25 c107r26 c107r27 c107t48 c107t49 c107t50 c107r28 c107t52 c107t53 c107b54 c107t55 c107r29 c107t57 c107t58 c107t59 c107t60 c107 in
theorem inner35 (f : Fd) (hl : short f.dflt) (hf : ∀ x ∈ f.dflt, x.fine) (A : Exit → St → Prop) (ks : List KF) (st : St) (id : Nat) (h6 : st.tmps 6 = .one (.ptr ⟨id, 0, 13, 0, 0⟩)) (hid : st.heap id = some (.arr 0 false 13 [fdC f])) (_h0 : 0 < st.nx)
    (hok : ∀ st', formErrs f.dflt = 0 → KeepT [1, 25, 26, 27] st.tmps st'.tmps → KeepH [0] st.heap st'.heap st'.nx → retK Tryz.prog 67 A ks .normal st')
    (hbad : ∀ st', formErrs f.dflt ≠ 0 → st'.tmps 2 = .one (.t (I (formErrs f.dflt))) → retK Tryz.prog 67 A ks .ret st') : awpK Tryz.prog 67 A c107t35 ks st := by
  obtain ⟨o1, o2, o3, o4⟩ := objF hid
  simp -implicitDefEqProofs [-guardOk, -gval, h6, o1, o2, o3]
  refine loopRec f.dflt (fun _ r (_ : Unit) => formErrs r) (formErrs f.dflt) () [1, 25, 26, 27, 41, 42] [0] (fun i _ st => st.tmps 43 = .one (.t (I i))) hl rfl ⟨by simp, by simp, by simp []⟩ ?_ ?_
  · intro i y _ st' hi hiI hw hg hy hR hx hk hh
    simp at hk hh
    rw [formErrs] at hR
    generalize formErrs f.dflt = R at *
    have hne : ∀ c, ¬ 0 = st'.nx + c + 1 := fun c => by omega
    simp -implicitDefEqProofs [-guardOk, -gval, hx, hk, hiI, hi, rowAtM hg, Vl.row_eq, -List.getElem_map]
    refine callK.tree (P149 y (hf y hy)) rfl ?_
    rcases eqCases y.formErr 0 with e | e
    · rw [e] at hR ⊢
      simp at hR
      simp -implicitDefEqProofs [-guardOk, -gval, hx, hk, hw]
      refine ⟨hR, ?_⟩
      simp only [Hp.set]; rw [if_neg (by omega)]; exact hh.1
    · simp -implicitDefEqProofs [-guardOk, -gval, e]
      have : y.formErr = R := by simpa [e] using hR
      exact hbad _ (by rw [← this]; exact e.2.1) (by simp [this])
  · intro _ st' hR hx hk hh
    simp at hk hh
    rw [formErrs] at hR
    simp -implicitDefEqProofs [-guardOk, -gval, hx, hk]
    exact hok _ hR.symm (by simp [hk]) (by simp [hh])
attribute [local simp] c107r0 c107r1 c107r2 c107r3 c107t4 c107t5 c107r4 c107r5 c107r6 c107t9 c107t10 c107r7 c107r8 c107r9 c107r10 c107r11 c107r12 c107r13 c107t18 c107t19 c107t20 c107r14 c107r15 c107r16 c107r17 c107r18 c107r19 c107t27 c107t28 c107t29 c107r20 c107t31 c107t32 c107b33 c107t34 c107t35 c107t36 c107r21 c107t38 c107t39 c107b40 c107t41 c107r22 c107r23 c107r24 c107r25 c107r26 c107r27 c107t48 c107t49 c107t50 c107r28 c107t52 c107t53 c107b54 c107t55 c107r29 c107t57 c107t58 c107t59 c107t60 c107 in
theorem type57 (t : Ty) (hl : short t.of) (IH : ∀ x ∈ t.of, PSp Tryz.prog 107 [.agg (tyC x)] (.one (.t (I x.typeErr)))) (st : St) (h1 : TB t 1 st) (_hnx : 0 < st.nx) : awpK Tryz.prog 67 (pureEnd [.tmp 2] (.one (.t (I (typeErrs t.of))))) c107t57 [] st := by
  obtain ⟨h1, h2⟩ := h1
  obtain ⟨o1, o2, o3, o4⟩ := objF h2
  simp -implicitDefEqProofs [-guardOk, -gval, h1, o1, o2, o3]
  refine loopRec t.of (fun _ r (_ : Unit) => typeErrs r) (typeErrs t.of) () [1, 55, 56] [] (fun i _ st => st.tmps 57 = .one (.t (I i))) hl rfl ⟨by simp, by simp, by simp⟩ ?_ ?_
  · intro i y _ st hi hiI hw hg hy hR hx hk hh
    simp [h1] at hk
    rw [typeErrs] at hR
    generalize typeErrs t.of = R at *
    simp -implicitDefEqProofs [-guardOk, -gval, hx, hk, hiI, hi, rowAtM hg, Ty.row_eq, -List.getElem_map]
    refine callK.tree (IH y hy) rfl ?_
    rcases eqCases y.typeErr 0 with e | e
    · rw [e] at hR ⊢
      simp at hR
      simp -implicitDefEqProofs [-guardOk, -gval, hx, hk, hw, h1]
      exact hR
    · simp -implicitDefEqProofs [-guardOk, -gval, e, pureEnd]
      simpa [e] using hR
  · intro _ st hR hx hk hh
    simp [h1] at hk
    rw [typeErrs] at hR
    generalize typeErrs t.of = R at *
    simp -implicitDefEqProofs [-guardOk, -gval, hx, hk, pureEnd]
    exact hR
attribute [local simp] c107r0 c107r1 c107r2 c107r3 c107t4 c107t5 c107r4 c107r5 c107r6 c107t9 c107t10 c107r7 c107r8 c107r9 c107r10 c107r11 c107r12 c107r13 c107t18 c107t19 c107t20 c107r14 c107r15 c107r16 c107r17 c107r18 c107r19 c107t27 c107t28 c107t29 c107r20 c107t31 c107t32 c107b33 c107t34 c107t36 c107r21 c107t38 c107t39 c107b40 c107t41 c107r22 c107r23 c107r24 c107r25 c107r26 c107r27 c107t48 c107t49 c107t50 c107r28 c107t52 c107t53 c107b54 c107t55 c107r29 c107t58 c107t59 c107t60 c107 in
theorem type58 (t : Ty) (hn : t.narrow = true) (IHf : ∀ x ∈ t.fields, PSp Tryz.prog 107 [.agg (tyC x.ty)] (.one (.t (I x.ty.typeErr)))) (IH : ∀ x ∈ t.of, PSp Tryz.prog 107 [.agg (tyC x)] (.one (.t (I x.typeErr)))) (b : Bool) (hb : hasTy t.kind = b) (R : Int) (hR0 : (if fieldErrs b t.fields != 0 then fieldErrs b t.fields else typeErrs t.of) = R) (st : St) (h1 : TB t 1 st) (_hnx : 0 < st.nx) :
    awpK Tryz.prog 67 (pureEnd [.tmp 2] (.one (.t (I R)))) c107t58 [] st := by
  have hfine := Ty.narrow_fine t hn
  rw [Ty.fine_iff] at hfine
  obtain ⟨g1, g2, g3, g4, g5, g6, g7, g8⟩ := hfine
  have rest := type57 t g5 IH
  obtain ⟨h1, h2⟩ := h1
  obtain ⟨o1, o2, o3, o4⟩ := objF h2
  simp -implicitDefEqProofs [-guardOk, -gval, h1, o1, o2, o3]
  refine loopRec t.fields (fun _ r (_ : Unit) => if fieldErrs b r != 0 then fieldErrs b r else typeErrs t.of) R () [1, 25, 26] [0] (fun i _ st => st.tmps 27 = .one (.t (I i))) g3 hR0 ⟨by simp, by simp, by simp []⟩ ?_ ?_
  · intro i f _ st' hi hiI hw hg hy hR hx hk hh
    simp [h1] at hk hh
    rw [fieldErrs] at hR
    have hfo := g4 f hy
    rw [Fd.fine_iff] at hfo
    have hne : ¬ 0 = st'.nx + 1 + 2 := by omega
    obtain ⟨o1, o2, o3, o4⟩ := objF (hh.1.trans h2)
    have hib : hasTy t.kind = (t.kind == 9 || t.kind == 10 || t.kind == 13 || t.kind == 15) := rfl
    simp -implicitDefEqProofs [-guardOk, -gval, hx, hk, hiI, hi, rowAtM hg, Fd.row_eq, o1, o2, o3, -List.getElem_map]
    refine callK.tree (P148 _) rfl ?_
    rw [← hib, hb]
    rw [Fd.ownErr_eq] at hR
    obtain ⟨e1, he1⟩ : ∃ e, (if b && f.ty.typeErr != 0 then f.ty.typeErr else 0) = e := ⟨_, rfl⟩
    have fin : ∀ (J : St → Prop) (st2 : St), st2.tmps 6 = .one (.ptr ⟨st'.nx + 1 + 2, 0, 13, 0, 0⟩) → st2.heap (st'.nx + 1 + 2) = some (.arr 0 false 13 [fdC f]) → st2.heap 0 = st.heap 0 → st'.nx < st2.nx → KeepT [1, 25, 26, 27] st'.tmps st2.tmps → (b && f.ty.typeErr != 0) = false →
        (∀ st'' : St, (if fieldErrs b (t.fields.drop (i + 1)) != 0 then fieldErrs b (t.fields.drop (i + 1)) else typeErrs t.of) = R → st''.tmps 27 = .one (.t (I ((i : Int) + 1))) → KeepT [1, 25, 26] st'.tmps st''.tmps → st''.heap 0 = st.heap 0 → 0 < st''.nx → J st'') →
        awpK Tryz.prog 67 (pureEnd [.tmp 2] (.one (.t (I R)))) c107t35 [.blk 1, .thn (.region 21 false 2 c107r21), .post J, .blk 0, .thn c107t57] st2 := by
      intro J st2 k6 kid k0 knx kt hno hJ
      simp at kt
      rw [hno] at hR
      simp only [Bool.false_eq_true, if_false] at hR
      refine inner35 f hfo.2.2.1 hfo.2.2.2 _ _ st2 _ k6 kid (by omega) (fun st3 hz kt3 kh3 => ?_) fun st3 hz k2 => ?_
      · rw [hz] at hR
        simp at kt3 kh3
        simp -implicitDefEqProofs [-guardOk, -gval, kt3, kt, hx, hw]
        refine hJ _ (by simpa using hR) (by simp) (by simp [kt3, kt]) (by simp [kh3, k0]) (by simp)
      · have : formErrs f.dflt = R := by simpa [hz] using hR
        simp -implicitDefEqProofs [-guardOk, -gval, pureEnd, k2, this]
    have hid : ∀ o : O, ((st'.heap.set (st'.nx + 1 + 2) o) (st'.nx + 1 + 2)) = some o := fun o => by simp [Hp.set]
    have hk0 : ∀ o : O, ((st'.heap.set (st'.nx + 1 + 2) o) 0) = st.heap 0 := fun o => by simp only [Hp.set]; rw [if_neg hne]; exact hh.1
    cases b
    · simp -implicitDefEqProofs [-guardOk, -gval]
      refine fin _ _ (by simp) (by simp [hid]) (by simp [hk0]) (by simp; omega) (by simp) rfl fun st'' a1 a2 a3 a4 a5 => ?_
      simp [hk] at a3
      simp [a2, a3, a4, a5]
      exact ⟨by simpa using a1, h1.symm⟩
    · simp -implicitDefEqProofs [-guardOk, -gval]
      refine callK.tree (IHf f hy) rfl ?_
      rcases eqCases f.ty.typeErr 0 with e | e
      · simp -implicitDefEqProofs [-guardOk, -gval, e]
        refine fin _ _ (by simp) (by simp [hid]) (by simp [hk0]) (by simp; omega) (by simp) (by simp [e]) fun st'' a1 a2 a3 a4 a5 => ?_
        simp [hk] at a3
        simp [a2, a3, a4, a5]
        exact ⟨by simpa using a1, h1.symm⟩
      · simp -implicitDefEqProofs [-guardOk, -gval, e, pureEnd]
        simpa [e] using hR
  · intro _ st' hR hx hk hh
    simp [h1] at hk hh
    rw [fieldErrs] at hR
    simp only [bne_self_eq_false, Bool.false_eq_true, if_false] at hR
    rw [← hR]
    simp -implicitDefEqProofs [-guardOk, -gval, hx, hk]
    exact rest _ ⟨by simp [hk], by simp [hh.1, h2]⟩ (by simp)
theorem range_root (t : Ty) (h : t.rangeErr = 0) : 0 ≤ t.root ∧ t.root ≤ t.fields.length := by
  cases t
  simp only [Ty.rangeErr, Ty.root, Ty.fields] at h ⊢
  split at h
  · cases h
  · split at h
    · cases h
    · split at h
      · cases h
      · rename_i hh
        simp at hh
        exact hh.2
attribute [local simp] c107r0 c107r1 c107r2 c107r3 c107t4 c107t5 c107r4 c107r5 c107r6 c107t9 c107t10 c107r7 c107r8 c107r9 c107r10 c107r11 c107r12 c107r13 c107t18 c107t19 c107t20 c107r14 c107r15 c107r16 c107r17 c107r18 c107r19 c107t27 c107t28 c107t29 c107r20 c107t31 c107t32 c107b33 c107t34 c107t35 c107t36 c107r21 c107t38 c107t39 c107b40 c107t41 c107r22 c107r23 c107r24 c107r25 c107r26 c107r27 c107t48 c107t49 c107t50 c107r28 c107t52 c107t53 c107b54 c107t55 c107r29 c107t57 c107t59 c107t60 c107 in
theorem step107 (t : Ty) (hn : t.narrow = true) (IHf : ∀ x ∈ t.fields, PSp Tryz.prog 107 [.agg (tyC x.ty)] (.one (.t (I x.ty.typeErr)))) (IH : ∀ x ∈ t.of, PSp Tryz.prog 107 [.agg (tyC x)] (.one (.t (I x.typeErr)))) : PSp Tryz.prog 107 [.agg (tyC t)] (.one (.t (I t.typeErr))) := by
  have hfine := Ty.narrow_fine t hn
  have hfine' := hfine
  rw [Ty.fine_iff] at hfine'
  obtain ⟨g1, g2, g3, g4, g5, g6, g7, g8⟩ := hfine'
  have hna := ((Ty.narrow_iff t).1 hn).2.2.2.2.2.1
  rw [Ty.typeErr_eq]
  have rest := type58 t hn IHf IH _ rfl _ rfl
  have p146 := P146 t hfine
  rw [tyC_eq] at p146
  refine k107.pureK (by simp) (by simp [D.closed, A.closed]) rfl ?_
  generalize (if fieldErrs (hasTy t.kind) t.fields != 0 then fieldErrs (hasTy t.kind) t.fields else typeErrs t.of) = R at *
  simp -implicitDefEqProofs [-guardOk, -gval]
  refine callK.tree p146 rfl ?_
  have hroot := range_root t
  generalize t.rangeErr = e1 at *
  rcases eqCases e1 0 with q | q
  · obtain ⟨r0, r1⟩ := hroot q
    have p147 := P147 t g3 (fun x hx => by have := (hna x hx).2; omega) g1 (fun f hf => by have := g4 f hf; rw [Fd.fine_iff] at this; exact this.1) r0 r1
    simp -implicitDefEqProofs [-guardOk, -gval, q]
    refine callK.tree p147 rfl ?_
    generalize t.partsErr = e2 at *
    rcases eqCases e2 0 with q2 | q2
    · simp -implicitDefEqProofs [-guardOk, -gval, q2]
      exact rest _ ⟨by simp, by simp [Hp.set]⟩ (by simp)
    · simp -implicitDefEqProofs [-guardOk, -gval, q2, pureEnd]
  · simp -implicitDefEqProofs [-guardOk, -gval, q, pureEnd]
theorem P107 : ∀ t : Ty, t.narrow = true → PSp Tryz.prog 107 [.agg (tyC t)] (.one (.t (I t.typeErr))) :=
  Ty.ind fun t IHf IH hn => by
    have h := (Ty.narrow_iff t).1 hn
    exact step107 t hn (fun x hx => IHf x hx ((Fd.narrow_iff x).1 (h.2.2.2.2.2.2.1 x hx)).2.2.1) fun x hx => IH x hx (h.2.2.2.2.2.2.2 x hx)
def Ty.check (t : Ty) : Int := if (t.sz 9 (60, false)).2 then 2 else t.typeErr
attribute [local simp] c59r0 c59r1 c59r2 c59r3 c59r4 c59t5 c59t6 c59r5 c59t8 c59t9 c59 in
theorem P59 (t : Ty) (hn : t.narrow = true) : PSp Tryz.prog 59 [.agg (tyC t)] (.one (.t (I t.check))) := by
  have hfine := Ty.narrow_fine t hn
  have k106 := kind106 t hfine
  rw [tyC_eq] at k106
  refine k59.pureK (by simp) (by simp [D.closed, A.closed]) rfl ?_
  have e0 : t.check = if (t.sz 9 (60, false)).2 then 2 else t.typeErr := rfl
  rw [e0]
  simp -implicitDefEqProofs [-guardOk, -gval]
  refine callK.imp (ISp.ok fun ho => k106 _ _ _ 9 (60, false) ho (by simp [hset_at, objS])) ?_
  obtain ⟨⟨s1, s2⟩, hs⟩ : ∃ s, t.sz 9 (60, false) = s := ⟨_, rfl⟩
  rw [hs]
  cases s2
  · simp -implicitDefEqProofs [-guardOk, -gval, putS, hs]
    refine callK.tree (P107 t hn) rfl ?_
    simp -implicitDefEqProofs [-guardOk, -gval, pureEnd]
  · simp -implicitDefEqProofs [-guardOk, -gval, putS, hs, pureEnd]
end Go.Proofs.YtdpbobkcbakpfaaGreatDoor

namespace Go.Proofs.YtdpbobkcbakpfaaGreatDoor
open Go Go.Ab
set_option maxRecDepth 100000
set_option maxHeartbeats 4000000
attribute [local simp] tagsT fieldsT typesT nodesT valsT textsT intsT tyC fdC vlC ndC hset_hset D.isPt D.pt
theorem Ty.sz_eq (lv : Int) (t : Ty) (s : Sz) : t.sz lv s = if (meetF lv s).2 then meetF lv s else szTs (wr (lv - 1)) t.of (szFs (wr (lv - 1)) t.fields (meetF lv s)) := by
  cases t; rw [Ty.sz]; rfl
theorem Fd.sz_eq (lv : Int) (f : Fd) (s : Sz) : f.sz lv s = szVs lv f.dflt (f.ty.sz lv s) := by cases f; rw [Fd.sz]; rfl
def SB (h : Hp) (n0 id : Nat) (t : Ty) (lv : Int) (s : Sz) (st : St) : Prop := SzH h n0 id s st.heap st.nx ∧ st.heap n0 = some (.arr 0 false 8 [tyC t]) ∧ n0 < st.nx ∧ st.tmps 0 = .one (.ptr ⟨id, 0, 2, 0, 0⟩) ∧ st.tmps 2 = .one (.t (I lv)) ∧ st.tmps 4 = .one (.ptr ⟨n0, 0, 8, 0, 0⟩)
attribute [local simp] c57r0 c57r1 c57t2 c57r2 c57r3 c57t5 c57r5 c57r6 c57r7 c57t9 c57r9 c57r8 c57b12 c57t13 c57t14 c57r4 c57t16 c57b17 c57t18 c57r10 c57r11 c57t21 c57r13 c57r12 c57b24 c57t25 c57t26 c57t27 c57t28 c57 in
theorem sizer26 (h : Hp) (n0 id : Nat) (t : Ty) (lv : Int) (R : Sz) (hl : short t.of) (ho : HeapOk h n0) (IH : ∀ x ∈ t.of, SzOk 57 (.agg (tyC x)) fun lv s => x.sz lv s) (s0 : Sz) (hR : szTs (wr (lv - 1)) t.of s0 = R) (st : St) (hs : SB h n0 id t lv s0 st) :
    awpK Tryz.prog 91 (impEnd [] (.tup []) (putS h id R) n0) c57t26 [] st := by
  obtain ⟨k, hb, hnx, j0, j2, j4⟩ := hs
  have hlt := k.lt
  simp -implicitDefEqProofs [-guardOk, -gval, -Prod.exists, -Bool.exists_bool]
  refine loopRec t.of (fun _ r s => szTs (wr (lv - 1)) r s) R s0 [] [] (fun i s st => SB h n0 id t lv s st ∧ st.tmps 8 = .one (.t (I i))) hl hR ⟨⟨⟨k.more (by simp <;> omega), hb, by simp <;> omega, by simp [j0], by simp [j2], by simp [j4]⟩, by simp⟩, by simp, by simp⟩ ?_ ?_
  · rintro i y s st hi hiI hw hg hy hR ⟨⟨k, hb, hnx, j0, j2, j4⟩, j8⟩ _ _
    obtain ⟨o1, o2, o3, o4⟩ := objF k.obj
    obtain ⟨p1, p2, p3, p4⟩ := objF hb
    rw [szTs] at hR
    obtain ⟨sl, sb⟩ := s
    cases sb
    · simp only [Bool.false_eq_true, if_false] at hR
      simp -implicitDefEqProofs [-guardOk, -gval, -Prod.exists, -Bool.exists_bool, j0, j2, j4, j8, hi, hiI, o1, o2, o3, p1, p2, p3, rowAtM hg, Ty.row_eq, -List.getElem_map]
      refine callK.imp (ISp.ok fun ho' => IH y hy _ _ id _ _ ho' k.obj) ?_
      have hne : ¬ n0 = id := by have := k.lt; omega
      simp -implicitDefEqProofs [-guardOk, -gval, -Prod.exists, -Bool.exists_bool, j8, hw]
      refine ⟨_, hR, k.put.more (by simp <;> omega), ?_, by simp <;> omega, by simp [j0], by simp [j2], by simp [j4]⟩
      simp only [putS, Hp.set]; rw [if_neg hne]; exact hb
    · simp only [if_true] at hR
      simp -implicitDefEqProofs [-guardOk, -gval, -Prod.exists, -Bool.exists_bool, j0, j4, j8, hiI, o1, o2, o3, p1, p2, p3]
      exact impEnd_n (.inl rfl) (k.fin hR) (okS ho hlt)
  · rintro s st hR ⟨⟨k, hb, hnx, j0, j2, j4⟩, j8⟩ _ _
    obtain ⟨p1, p2, p3, p4⟩ := objF hb
    rw [szTs] at hR
    simp -implicitDefEqProofs [-guardOk, -gval, -Prod.exists, -Bool.exists_bool, j0, j4, j8, p1, p2, p3]
    exact impEnd_n (.inl rfl) (k.fin hR) (okS ho hlt)
attribute [local simp] c57r0 c57r1 c57t2 c57r2 c57r3 c57t5 c57r5 c57r6 c57r7 c57t9 c57r9 c57r8 c57b12 c57t13 c57t14 c57r4 c57t16 c57b17 c57t18 c57r10 c57r11 c57t21 c57r13 c57r12 c57b24 c57t25 c57t27 c57t28 c57 in
theorem sizer27 (h : Hp) (n0 id : Nat) (t : Ty) (lv : Int) (R : Sz) (ht : t.fine) (ho : HeapOk h n0) (IHf : ∀ x ∈ t.fields, SzOk 57 (.agg (tyC x.ty)) fun lv s => x.ty.sz lv s) (IH : ∀ x ∈ t.of, SzOk 57 (.agg (tyC x)) fun lv s => x.sz lv s) (s0 : Sz) (hR : szTs (wr (lv - 1)) t.of (szFs (wr (lv - 1)) t.fields s0) = R) (st : St) (hs : SB h n0 id t lv s0 st) :
    awpK Tryz.prog 91 (impEnd [] (.tup []) (putS h id R) n0) c57t27 [] st := by
  rw [Ty.fine_iff] at ht
  obtain ⟨g1, g2, g3, g4, g5, g6, g7, g8⟩ := ht
  have rest := sizer26 h n0 id t lv R g5 ho IH
  obtain ⟨k, hb, hnx, j0, j2, j4⟩ := hs
  have hlt := k.lt
  have hne : ¬ n0 = id := by omega
  simp -implicitDefEqProofs [-guardOk, -gval, -Prod.exists, -Bool.exists_bool]
  refine loopRec t.fields (fun _ r s => szTs (wr (lv - 1)) t.of (szFs (wr (lv - 1)) r s)) R s0 [] [] (fun i s st => SB h n0 id t lv s st ∧ st.tmps 6 = .one (.t (I i))) g3 hR ⟨⟨⟨k.more (by simp <;> omega), hb, by simp <;> omega, by simp [j0], by simp [j2], by simp [j4]⟩, by simp⟩, by simp, by simp⟩ ?_ ?_
  · rintro i f s st hi hiI hw hg hy hR ⟨⟨k, hb, hnx, j0, j2, j4⟩, j6⟩ _ _
    obtain ⟨o1, o2, o3, o4⟩ := objF k.obj
    obtain ⟨p1, p2, p3, p4⟩ := objF hb
    have hfo := g4 f hy
    rw [Fd.fine_iff] at hfo
    obtain ⟨_, _, f3, f4⟩ := hfo
    obtain ⟨sl, sb⟩ := s
    cases sb
    · rw [szFs, if_neg (by simp), Fd.sz_eq] at hR
      simp -implicitDefEqProofs [-guardOk, -gval, -Prod.exists, -Bool.exists_bool, j0, j2, j4, j6, hi, hiI, o1, o2, o3, p1, p2, p3, rowAtM hg, Fd.row_eq, -List.getElem_map]
      refine callK.imp (ISp.ok fun ho' => IHf f hy _ _ id _ _ ho' k.obj) ?_
      have k2 := k.put (s' := f.ty.sz (wr (lv - 1)) (sl, false))
      have hb2 : (putS st.heap id (f.ty.sz (wr (lv - 1)) (sl, false))) n0 = some (.arr 0 false 8 [tyC t]) := by simp only [putS, Hp.set]; rw [if_neg hne]; exact hb
      show opsK _ _ _ _ _ (putS st.heap id (f.ty.sz (wr (lv - 1)) (sl, false)))
      generalize putS st.heap id (f.ty.sz (wr (lv - 1)) (sl, false)) = h2 at *
      simp -implicitDefEqProofs [-guardOk, -gval, -Prod.exists, -Bool.exists_bool]
      refine loopRec f.dflt (fun _ r s => szTs (wr (lv - 1)) t.of (szFs (wr (lv - 1)) (t.fields.drop (i + 1)) (szVs (wr (lv - 1)) r s))) R _ [] [] (fun j s st => SB h n0 id t lv s st ∧ st.tmps 6 = .one (.t (I i)) ∧ st.tmps 7 = .one (.t (I j))) f3 hR ⟨⟨⟨k2.more (by simp <;> omega), hb2, by simp <;> omega, by simp [j0], by simp [j2], by simp [j4]⟩, by simp [j6], by simp⟩, by simp, by simp⟩ ?_ ?_
      · rintro j v s st hj hjI hwj hgv hyv hR ⟨⟨k, hb, hnx, j0, j2, j4⟩, j6, j7⟩ _ _
        obtain ⟨o1, o2, o3, o4⟩ := objF k.obj
        obtain ⟨p1, p2, p3, p4⟩ := objF hb
        obtain ⟨sl, sb⟩ := s
        cases sb
        · rw [szVs, if_neg (by simp)] at hR
          simp -implicitDefEqProofs [-guardOk, -gval, -Prod.exists, -Bool.exists_bool, j0, j2, j4, j6, j7, hi, hiI, hj, hjI, o1, o2, o3, p1, p2, p3, rowAtM hg, rowAtM hgv, Fd.row_eq, Vl.row_eq, -List.getElem_map]
          have v105 := value105 v (f4 v hyv)
          rw [vlC_eq] at v105
          refine callK.imp (ISp.ok fun ho' => v105 _ _ id _ _ ho' k.obj) ?_
          simp -implicitDefEqProofs [-guardOk, -gval, -Prod.exists, -Bool.exists_bool, j7, hwj]
          refine ⟨_, hR, ⟨k.put.more (by simp <;> omega), ?_, by simp <;> omega, by simp [j0], by simp [j2], by simp [j4]⟩, by simp [j6]⟩
          simp only [putS, Hp.set]; rw [if_neg hne]; exact hb
        · rw [szVs_bad (by simp)] at hR
          simp -implicitDefEqProofs [-guardOk, -gval, -Prod.exists, -Bool.exists_bool, j0, j4, j6, j7, hi, hiI, hjI, hw, o1, o2, o3, p1, p2, p3, rowAtM hg, Fd.row_eq, -List.getElem_map]
          exact ⟨_, hR, k.more (by simp <;> omega), hb, by simp <;> omega, by simp [j0], by simp [j2], by simp [j4]⟩
      · rintro s st hR ⟨⟨k, hb, hnx, j0, j2, j4⟩, j6, j7⟩ _ _
        obtain ⟨p1, p2, p3, p4⟩ := objF hb
        rw [szVs] at hR
        simp -implicitDefEqProofs [-guardOk, -gval, -Prod.exists, -Bool.exists_bool, j0, j4, j6, j7, hi, hiI, hw, p1, p2, p3, rowAtM hg, Fd.row_eq, -List.getElem_map]
        exact ⟨_, hR, k.more (by simp <;> omega), hb, by simp <;> omega, by simp [j0], by simp [j2], by simp [j4]⟩
    · rw [szFs_bad (by simp)] at hR
      simp -implicitDefEqProofs [-guardOk, -gval, -Prod.exists, -Bool.exists_bool, j0, j4, j6, hiI, o1, o2, o3, p1, p2, p3]
      exact rest _ hR _ ⟨k.more (by simp <;> omega), hb, by simp <;> omega, by simp [j0], by simp [j2], by simp [j4]⟩
  · rintro s st hR ⟨⟨k, hb, hnx, j0, j2, j4⟩, j6⟩ _ _
    obtain ⟨p1, p2, p3, p4⟩ := objF hb
    rw [szFs] at hR
    simp -implicitDefEqProofs [-guardOk, -gval, -Prod.exists, -Bool.exists_bool, j0, j4, j6, p1, p2, p3]
    exact rest _ hR _ ⟨k.more (by simp <;> omega), hb, by simp <;> omega, by simp [j0], by simp [j2], by simp [j4]⟩
attribute [local simp] c57r0 c57r1 c57t2 c57r2 c57r3 c57t5 c57r5 c57r6 c57r7 c57t9 c57r9 c57r8 c57b12 c57t13 c57t14 c57r4 c57t16 c57b17 c57t18 c57r10 c57r11 c57t21 c57r13 c57r12 c57b24 c57t25 c57t26 c57t28 c57 in
theorem step57 (t : Ty) (ht : t.fine) (IHf : ∀ x ∈ t.fields, SzOk 57 (.agg (tyC x.ty)) fun lv s => x.ty.sz lv s) (IH : ∀ x ∈ t.of, SzOk 57 (.agg (tyC x)) fun lv s => x.sz lv s) : SzOk 57 (.agg (tyC t)) fun lv s => t.sz lv s := by
  intro h n0 id lv s ho hid
  have hlt := ltOf ho hid
  show ISp _ _ _ _ _ _ (putS h id (t.sz lv s))
  rw [Ty.sz_eq]
  have rest := sizer27 h n0 id t lv _ ht ho IHf IH (meetF lv s) rfl
  refine k57.ispK (by simp) ?_
  have k0 : SzH h n0 id s h n0 := ⟨ho, hid, hlt, Nat.le_refl _, fun _ _ _ => rfl⟩
  have k1 := (k0.more (nx' := n0 + 1) (by omega)).own (a := n0) (o := .arr 0 false 8 [tyC t]) (Nat.le_refl _) (by omega) (by simp [O.below, A.below])
  simp -implicitDefEqProofs [-guardOk, -gval, -Prod.exists, -Bool.exists_bool]
  refine callK.imp (ISp.ok fun ho' => meet104 _ _ id lv s ho' k1.obj) ?_
  have k2 := k1.put (s' := meetF lv s)
  have hb2 : (putS (h.set n0 (.arr 0 false 8 [tyC t])) id (meetF lv s)) n0 = some (.arr 0 false 8 [tyC t]) := by
    simp only [putS, Hp.set]; rw [if_neg (by omega)]; simp
  show opsK _ _ _ _ _ (putS (h.set n0 (.arr 0 false 8 [tyC t])) id (meetF lv s))
  generalize putS (h.set n0 (.arr 0 false 8 [tyC t])) id (meetF lv s) = h2 at *
  cases hb : (meetF lv s).2 with
  | true =>
    simp -implicitDefEqProofs [-guardOk, -gval, -Prod.exists, -Bool.exists_bool]
    exact impEnd_n (.inr rfl) (k2.fin (by simp)) (okS ho hlt)
  | false =>
    simp -implicitDefEqProofs [-guardOk, -gval, -Prod.exists, -Bool.exists_bool]
    exact rest _ ⟨k2.more (by simp <;> omega), hb2, by simp <;> omega, by simp, by simp, by simp⟩
theorem P57 : ∀ t : Ty, t.fine → SzOk 57 (.agg (tyC t)) fun lv s => t.sz lv s :=
  Ty.ind fun t IHf IH ht => by
    have h := (Ty.fine_iff t).1 ht
    exact step57 t ht (fun x hx => IHf x hx ((Fd.fine_iff x).1 (h.2.2.2.1 x hx)).2.1) fun x hx => IH x hx (h.2.2.2.2.2.1 x hx)
attribute [local simp] c112r0 c112r1 c112r2 c112r3 c112 in
theorem P112 (t : Ty) (m : Int) (ht : t.fine) : PSp Tryz.prog 112 [.agg (tyC t), .one (.t (I m))] (.one (.t (.bool (!(t.sz 9 (m, false)).2)))) := by
  have k57 := P57 t ht
  refine k112.pureK (by simp) (by simp [D.closed, A.closed]) rfl ?_
  simp -implicitDefEqProofs [-guardOk, -gval]
  refine callK.imp (ISp.ok fun ho => k57 _ _ _ 9 (m, false) ho (by simp [hset_at, objS])) ?_
  obtain ⟨⟨s1, s2⟩, hs⟩ : ∃ s, t.sz 9 (m, false) = s := ⟨_, rfl⟩
  rw [hs]
  simp -implicitDefEqProofs [-guardOk, -gval, putS, hs, pureEnd]
attribute [local simp] c126r0 c126r1 c126r2 c126r3 c126 in
theorem P126 (v : Vl) (m : Int) (hv : v.fine) : PSp Tryz.prog 126 [.agg (vlC v), .one (.t (I m))] (.one (.t (.bool (!(v.sz 8 (m, false)).2)))) := by
  have k105 := value105 v hv
  rw [vlC_eq] at k105
  refine k126.pureK (by simp) (by simp [D.closed, A.closed]) rfl ?_
  simp -implicitDefEqProofs [-guardOk, -gval]
  refine callK.imp (ISp.ok fun ho => k105 _ _ _ 8 (m, false) ho (by simp [hset_at, objS])) ?_
  obtain ⟨⟨s1, s2⟩, hs⟩ : ∃ s, v.sz 8 (m, false) = s := ⟨_, rfl⟩
  rw [hs]
  simp -implicitDefEqProofs [-guardOk, -gval, putS, hs, pureEnd]
end Go.Proofs.YtdpbobkcbakpfaaGreatDoor

