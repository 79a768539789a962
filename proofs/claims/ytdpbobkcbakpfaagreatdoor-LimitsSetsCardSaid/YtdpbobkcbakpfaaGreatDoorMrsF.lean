/- Texts of this proof, laid one behind the other (Nt, Nt2, Nt3, Nt4, Nt5, Vc, Vo, Pz, Vw, Vx, Ty1, Ty2, Rs). -/
import Derived.Test.YtdpbobkcbakpfaaGreatDoorMrsE
namespace Go.Proofs.YtdpbobkcbakpfaaGreatDoor
open Go Go.Ab
set_option maxRecDepth 100000
set_option maxHeartbeats 4000000
def tyC (t : Ty) : List A := [.t (I t.kind), .t (.str t.name), .t (bL t.tags), .t (aM t.fields), .t (.bool t.opn), .t (I t.root), .t (aS t.of), .t (aK t.limits)]
def fdC (f : Fd) : List A := [.t (.str f.name), .t (I f.num), .t (I f.ty.kind), .t (.str f.ty.name), .t (bL f.ty.tags), .t (aM f.ty.fields), .t (.bool f.ty.opn), .t (I f.ty.root), .t (aS f.ty.of), .t (aK f.ty.limits), .t (I f.pres), .t (aY f.dflt), .t (I f.grp)]
def vlC (v : Vl) : List A := [.t (I v.kind), .t (I v.n), .t (I v.e), .t (.str v.s), .t (aO v.names), .t (aY v.items)]
def ndC (x : Nd) : List A := [.t (I x.k), .t (I x.lo), .t (I x.hi), .t (.str x.s), .t (bI x.args)]
theorem aJS (t : Ty) : t.row.map A.t = tyC t := by rw [Ty.aJ]; rfl
theorem aJT (f : Fd) : f.row.map A.t = fdC f := by rw [Fd.aJ]; rfl
theorem aAR (v : Vl) : v.row.map A.t = vlC v := by rw [Vl.aJ]; rfl
theorem aTH (x : Nd) : x.row.map A.t = ndC x := rfl
def Ty.isZ (t : Ty) : Bool := t.kind == 0 && bF t.name (bs []) && (t.tags.length : Int) == 0 && (t.fields.length : Int) == 0 && !t.opn && t.root == 0 && (t.of.length : Int) == 0 && (t.limits.length : Int) == 0
def Fd.alone (f : Fd) : Bool := f.pres == 0 && (f.dflt.length : Int) == 0 && f.grp == 0
def Fd.fits (k : Int) (f : Fd) : Bool :=
 if k == 3 then f.alone && f.ty.isZ else if k == 14 then f.alone && f.ty.isZ && f.num == 0 else if k == 15 then f.alone && f.num == 0 && bF f.name (bs [])
 else if k == 13 then f.num == 0 && f.pres == 0 && (f.dflt.length : Int) == 0 else f.num == 0 && (f.pres == 2 || (f.dflt.length : Int) == 0)
attribute [local simp] bL aM aS aK aY aO bI tyC fdC vlC ndC
attribute [local simp] c214 in
theorem aQH (t : Ty) : PSp Tryz.prog 214 [.agg (tyC t)] (.one (.t (.bool t.isZ))) := by
 refine k214.aG (by simp) (by simp [D.closed, A.closed]) rfl ?_
 simp -implicitDefEqProofs [-aA, -gval, aC, Ty.isZ, bF]
attribute [local simp] c175 in
theorem aTI (k : Int) (f : Fd) : PSp Tryz.prog 175 [.one (.t (I k)), .agg (fdC f)] (.one (.t (.bool (f.fits k)))) := by
 refine k175.aG (by simp) (by simp [D.closed, A.closed]) rfl ?_
 obtain ⟨a, hb⟩ : ∃ a, (f.pres == 0 && (f.dflt.length : Int) == 0 && f.grp == 0) = a := ⟨_, rfl⟩
 have ha : f.alone = a := hb
 rcases eqCases k 3 with rfl | q3
 ·cases a
  ·simp -implicitDefEqProofs [-aA, -gval, hb, ha, Fd.fits, aC]
  ·simp -implicitDefEqProofs [-aA, -gval, hb]
   refine aD.tree (aQH _) rfl ?_
   simp -implicitDefEqProofs [-aA, -gval, Fd.fits, ha, aC]
 ·rcases eqCases k 14 with rfl | q14
  ·cases a
   ·simp -implicitDefEqProofs [-aA, -gval, q3, hb, ha, Fd.fits, aC]
   ·simp -implicitDefEqProofs [-aA, -gval, q3, hb]
    refine aD.tree (aQH _) rfl ?_
    cases hz : f.ty.isZ
    ·simp -implicitDefEqProofs [-aA, -gval, q3, Fd.fits, ha, hz, aC]
    ·simp -implicitDefEqProofs [-aA, -gval, q3, Fd.fits, ha, hz, aC]
  ·rcases eqCases k 15 with rfl | q15
   ·simp -implicitDefEqProofs [-aA, -gval, q3, q14, Fd.fits, ha, hb, bF, aC]
   ·rcases eqCases k 13 with rfl | q13
    ·simp -implicitDefEqProofs [-aA, -gval, q3, q14, q15, Fd.fits, hb, aC]
    ·simp -implicitDefEqProofs [-aA, -gval, q3, q14, q15, q13, Fd.fits, hb, aC]
     intro h; simp [h]
end Go.Proofs.YtdpbobkcbakpfaaGreatDoor

namespace Go.Proofs.YtdpbobkcbakpfaaGreatDoor
open Go Go.Ab
set_option maxRecDepth 100000
set_option maxHeartbeats 4000000
attribute [local simp] bL aM aS aK aY aO bI tyC fdC vlC ndC
def Look (f : FuncId) (h : Hp) (xs : List D) (r : D) : Prop := ∀ n, ISp Tryz.prog f h n xs r h
attribute [local simp] c174 in
theorem aTJ (t : Ty) (f : Fd) (h : Hp) (id : Nat) (hid : h id = some (.arr 0 false 8 [tyC t])) : Look 174 h [.agg (fdC f), .one (.ptr ⟨id, 0, 8, 0, 0⟩)] (.one (.t (.bool (!f.fits t.kind)))) := fun n => by
 refine ISp.ok fun ho => ?_
 have hlt := fK ho hid
 refine k174.kU (by simp) ?_
 obtain ⟨o1, o2, o3, o4⟩ := aF hid
 have hne : ¬ id = n := by omega
 simp -implicitDefEqProofs [-aA, -gval, o1, o2, o3, hne]
 refine aD.tree (aTI _ f) rfl ?_
 simp -implicitDefEqProofs [-aA, -gval]
 exact dG (.inr rfl) (by simp) (fun j hj => by simp [Hp.set]; omega) ho
attribute [local simp] c176 in
theorem aTK (f : Fd) : PSp Tryz.prog 176 [.agg (fdC f)] (.one (.t (.bool (f.grp != 0)))) := by
 refine k176.aG (by simp) (by simp [D.closed, A.closed]) rfl ?_
 simp -implicitDefEqProofs [-aA, -gval, aC]
attribute [local simp] c183 in
theorem aTL (f : Fd) : PSp Tryz.prog 183 [.agg (fdC f)] (.one (.t (.bool (!(decide (-1152921504606846976 ≤ f.num) && decide (f.num ≤ 1152921504606846976)))))) := by
 refine k183.aG (by simp) (by simp [D.closed, A.closed]) rfl ?_
 simp -implicitDefEqProofs [-aA, -gval]
 refine aD.tree (aQ1 _) rfl ?_
 simp -implicitDefEqProofs [-aA, -gval, aC]
attribute [local simp] c216 in
theorem aTM (f : Fd) : PSp Tryz.prog 216 [.agg (fdC f)] (.one (.t (.bool (f.pres == 2 && (f.dflt.length : Int) != 1)))) := by
 refine k216.aG (by simp) (by simp [D.closed, A.closed]) rfl ?_
 simp -implicitDefEqProofs [-aA, -gval, aC]
attribute [local simp] c220 in
theorem aTN (f : Fd) (hf : f.name.size ≤ 9223372036854775807) : PSp Tryz.prog 220 [.agg (fdC f)] (.one (.t (.bool (!aW f.name)))) := by
 refine k220.aG (by simp) (by simp [D.closed, A.closed]) rfl ?_
 simp -implicitDefEqProofs [-aA, -gval]
 refine aD.tree (aLU _ hf) rfl ?_
 simp -implicitDefEqProofs [-aA, -gval, aC]
attribute [local simp] c221 in
theorem aTO (t : Ty) (f g : Fd) (h : Hp) (id jd : Nat) (hid : h id = some (.arr 0 false 13 [fdC f])) (hjd : h jd = some (.arr 0 false 8 [tyC t])) : Look 221 h [.agg (fdC g), .one (.ptr ⟨id, 0, 13, 0, 0⟩), .one (.ptr ⟨jd, 0, 8, 0, 0⟩)] (.one (.t (.bool (bF g.name f.name || (t.kind == 3 && g.num == f.num))))) := fun n => by
 refine ISp.ok fun ho => ?_
 have hlt := fK ho hid
 have aSU := fK ho hjd
 refine k221.kU (by simp) ?_
 obtain ⟨o1, o2, o3, o4⟩ := aF hid
 obtain ⟨p1, p2, p3, p4⟩ := aF hjd
 have hne : ¬ id = n := by omega
 have uY : ¬ jd = n := by omega
 rcases Bool.eq_false_or_eq_true (g.name.toList == f.name.toList) with hb | hb
 ·simp -implicitDefEqProofs [-aA, -gval, o1, o2, o3, hne, p1, p2, p3, uY, hb]
  exact dG (.inr rfl) (by simp [bF, hb]) (fun j hj => by simp [Hp.set]; omega) ho
 ·simp -implicitDefEqProofs [-aA, -gval, o1, o2, o3, hne, p1, p2, p3, uY, hb]
  exact dG (.inr rfl) (by simp [bF, hb]) (fun j hj => by simp [Hp.set]; omega) ho
attribute [local simp] c256b7 c256 in
theorem aTP (l : List ByteArray) (s : ByteArray) (hl : short l) : PSp Tryz.prog 256 [.one (.t (aO l)), .one (.t (.str s))] (.one (.t (I (idxOf l fun x => bF s x)))) := by
 refine k256.aG (by simp) rfl rfl ?_
 simp -implicitDefEqProofs [-aA, -gval, aO]
 refine mC l (fun x => bF s x) [0, 1, 7] [] (fun i st => st.tmps 8 = .one (.t (I i))) hl ⟨by simp, by simp, by simp⟩ ?_ ?_
 ·intro i y st hi hiI hw hg hy hany hx hk hh
  simp at hk
  simp -implicitDefEqProofs [-aA, -gval, hx, hk, hiI, hi, aE hg, hw, aC]
  exact ⟨fun e => by simp [idxOf, hany (by simp [bF, e])], fun e => by simp [bF, e]⟩
 ·intro st hany hx hk hh
  simp at hk
  simp -implicitDefEqProofs [-aA, -gval, hx, hk, aC, idxOf, hany]
attribute [local simp] c218 in
theorem aQI (l : List ByteArray) (s : ByteArray) (hl : short l) : PSp Tryz.prog 218 [.one (.t (aO l)), .one (.t (.str s))] (.one (.t (.bool (l.any fun x => bF s x)))) := by
 refine k218.aG (by simp) rfl rfl ?_
 simp -implicitDefEqProofs [-aA, -gval, aO]
 refine aD.tree (aTP l s hl) rfl ?_
 simp -implicitDefEqProofs [-aA, -gval, aC, rT]
end Go.Proofs.YtdpbobkcbakpfaaGreatDoor

namespace Go.Proofs.YtdpbobkcbakpfaaGreatDoor
open Go Go.Ab
set_option maxRecDepth 100000
set_option maxHeartbeats 4000000
attribute [local simp] bL aM aS aK aY aO bI tyC fdC vlC ndC
theorem aAS (l : List Fd) (hl : short l) (p : Fd → Bool) (clo : FuncId) (hc : callable Tryz.prog clo = true) (hp : ∀ x ∈ l, PSp Tryz.prog clo [.agg (fdC x)] (.one (.t (.bool (p x))))) (h : Hp) (n : Nat) :
  ISp Tryz.prog 173 h n [.one (.t (aM l)), .one (.fn clo [])] (.one (.t (.bool (l.any p)))) h :=
 aQF l hl p clo [] h n hc fun x hx new K hn hK => aD.tree (by rw [aJT]; exact hp x hx) (by simp [D.iV, sP]) hK
theorem aGD (l : List Fd) (hl : short l) (p : Fd → Bool) (clo : FuncId) (caps : List Pt) (hc : callable Tryz.prog clo = true) (h : Hp) (hp : ∀ x ∈ l, Look clo h (.agg (fdC x) :: caps.map fun q => .one (.ptr q)) (.one (.t (.bool (p x))))) (n : Nat) :
  ISp Tryz.prog 173 h n [.one (.t (aM l)), .one (.fn clo caps)] (.one (.t (.bool (l.any p)))) h :=
 aQF l hl p clo caps h n hc fun x hx new K hn hK => aD.imp (by rw [aJT]; exact hp x hx new) hK
def fZ (k : Int) : Bool := (k == 11 || k == 12) || (k == 2 || k == 4 || k == 5 || k == 6 || k == 15)
attribute [local simp] c254b7 c254 in
theorem aTQ (l : List Int) (n : Int) (hl : short l) : PSp Tryz.prog 254 [.one (.t (bI l)), .one (.t (I n))] (.one (.t (I (idxOf l fun x => n == x)))) := by
 refine k254.aG (by simp) rfl rfl ?_
 simp -implicitDefEqProofs [-aA, -gval]
 refine mC l (fun x => n == x) [0, 1, 7] [] (fun i st => st.tmps 8 = .one (.t (I i))) hl ⟨by simp, by simp, by simp⟩ ?_ ?_
 ·intro i y st hi hiI hw hg hy hany hx hk hh
  simp at hk
  simp -implicitDefEqProofs [-aA, -gval, hx, hk, hiI, hi, aE hg, hw, aC]
  exact fun e => by simp [idxOf, hany (by simp [e])]
 ·intro st hany hx hk hh
  simp at hk
  simp -implicitDefEqProofs [-aA, -gval, hx, hk, aC, idxOf, hany]
attribute [local simp] c215 in
theorem aTR (l : List Int) (n : Int) (hl : short l) : PSp Tryz.prog 215 [.one (.t (bI l)), .one (.t (I n))] (.one (.t (.bool (l.any fun x => n == x)))) := by
 refine k215.aG (by simp) rfl rfl ?_
 simp -implicitDefEqProofs [-aA, -gval]
 refine aD.tree (aTQ l n hl) rfl ?_
 simp -implicitDefEqProofs [-aA, -gval, aC, rT]
attribute [local simp] c178 in
theorem aQJ (k : Int) : PSp Tryz.prog 178 [.one (.t (I k))] (.one (.t (.bool (fZ k)))) := by
 refine k178.aG (by simp) rfl rfl ?_
 simp -implicitDefEqProofs [-aA, -gval]
 refine aD.tree (aO9 _) rfl ?_
 cases hb : (k == 11 || k == 12) with
 | true => simp -implicitDefEqProofs [-aA, -gval, aC, fZ, hb]
 | false =>
  simp -implicitDefEqProofs [-aA, -gval]
  refine aD.pure (aTR [2, 4, 5, 6, 15] k (by simp [short])) (by simp) (by simp) ?_
  simp -implicitDefEqProofs [-aA, -gval, aC, fZ, hb, Bool.or_assoc]
def ne0 (x : Int) : Option Int := if x != 0 then some x else none
def bW (l : List Int) : Int := (l.findSome? ne0).getD 0
attribute [local simp] c179b7 c179 in
theorem aQK (l : List Int) (hl : short l) : PSp Tryz.prog 179 [.one (.t (bI l))] (.one (.t (I (bW l)))) := by
 refine k179.aG (by simp) rfl rfl ?_
 simp -implicitDefEqProofs [-aA, -gval]
 refine uW l ne0 [5, 6] [] (fun i st => st.tmps 7 = .one (.t (I i))) hl ⟨by simp, by simp, by simp⟩ ?_ ?_
 ·intro i y st hi hiI hw hg hy hany hx hk hh
  simp at hk
  rcases eqCases y 0 with e | e
  ·simp -implicitDefEqProofs [-aA, -gval, hx, hk, hiI, hi, aE hg, hw, e, ne0]
  ·simp -implicitDefEqProofs [-aA, -gval, hx, hk, hiI, hi, aE hg, e, aC]
   simp [bW, hany y (by simp [e, ne0])]
 ·intro st hany hx hk hh
  simp at hk
  simp -implicitDefEqProofs [-aA, -gval, hx, hk, aC, bW, hany]
def Ty.aAT (t : Ty) : Bool := ((t.kind == 11 || t.kind == 12) && (t.of.length : Int) != 1) || ((t.kind == 3 || t.kind == 13) && decide (t.root < 1))
def Ty.gP (t : Ty) : Bool := t.kind == 14 && ((bF t.name (bs []) && decide ((t.fields.length : Int) > 0)) || (!bF t.name (bs []) && (t.fields.length : Int) != 2 && (t.fields.length : Int) != 3))
def Ty.eG (t : Ty) : Bool := !t.aAT && !t.gP && !(t.fields.any fun f => f.pres == 2 && (f.dflt.length : Int) != 1) && bE t.limits
theorem bb (a : Bool) : a = true ∨ a = false := by cases a <;> simp
def TB (t : Ty) (i : Nat) (st : St) : Prop := st.tmps i = .one (.ptr ⟨0, 0, 8, 0, 0⟩) ∧ st.heap 0 = some (.arr 0 false 8 [tyC t])
attribute [local simp] c180t3 c180t7 c180t8 c180t11 c180t12 c180 in
theorem aF4 (t : Ty) (hl : short t.fields) (ha : ∀ x ∈ t.limits, x.args.length ≤ 1000000) (st : St) (h1 : TB t 1 st) :
  aT Tryz.prog 67 (aC [.tmp 2] (.one (.t (.bool (!t.gP && !(t.fields.any fun f => f.pres == 2 && (f.dflt.length : Int) != 1) && bE t.limits))))) c180t11 [] st := by
 obtain ⟨h1, h2⟩ := h1
 obtain ⟨o1, o2, o3, o4⟩ := aF h2
 obtain ⟨a, e0⟩ : ∃ a, (t.kind == 14) = a := ⟨_, rfl⟩
 obtain ⟨b, e1⟩ : ∃ b, (t.name.toList == (bs []).toList) = b := ⟨_, rfl⟩
 obtain ⟨c, e2⟩ : ∃ c, decide (0 < t.fields.length) = c := ⟨_, rfl⟩
 have e2' : decide ((t.fields.length : Int) > 0) = c := by rw [← e2]; congr 1; simp
 obtain ⟨d, e3⟩ : ∃ c, ((t.fields.length : Int) == 2) = c := ⟨_, rfl⟩
 obtain ⟨e, e4⟩ : ∃ c, ((t.fields.length : Int) == 3) = c := ⟨_, rfl⟩
 have s2 : t.gP = (a && ((b && c) || (!b && !d && !e))) := by
  simp only [Ty.gP, bF, e0, e1, e2', bne, e3, e4]
 rw [s2]
 have hany := aAS t.fields hl (fun f => f.pres == 2 && (f.dflt.length : Int) != 1) 216 (by kernel_rfl) (fun x hx => aTM x)
 generalize (t.fields.any fun f => f.pres == 2 && (f.dflt.length : Int) != 1) = q at *
 have tree := aG9 t.limits ha
 rcases bb a with rfl | rfl
 ·rcases bb b with rfl | rfl
  ·rcases bb c with rfl | rfl
   ·simp -implicitDefEqProofs [-aA, -gval, h1, o1, o2, o3, e0, e1, e2, aC]
   ·simp -implicitDefEqProofs [-aA, -gval, h1, o1, o2, o3, e0, e1, e2]
    refine aD.imp (hany _ _) ?_
    cases q
    ·simp -implicitDefEqProofs [-aA, -gval, h1, o1, o2, o3]
     refine aD.tree tree rfl ?_
     simp -implicitDefEqProofs [-aA, -gval, aC]
    ·simp -implicitDefEqProofs [-aA, -gval, aC]
  ·rcases bb d with rfl | rfl
   ·simp -implicitDefEqProofs [-aA, -gval, h1, o1, o2, o3, e0, e1, e3, bne]
    refine aD.imp (hany _ _) ?_
    cases q
    ·simp -implicitDefEqProofs [-aA, -gval, h1, o1, o2, o3]
     refine aD.tree tree rfl ?_
     simp -implicitDefEqProofs [-aA, -gval, aC]
    ·simp -implicitDefEqProofs [-aA, -gval, aC]
   ·rcases bb e with rfl | rfl
    ·simp -implicitDefEqProofs [-aA, -gval, h1, o1, o2, o3, e0, e1, e3, e4, bne]
     refine aD.imp (hany _ _) ?_
     cases q
     ·simp -implicitDefEqProofs [-aA, -gval, h1, o1, o2, o3]
      refine aD.tree tree rfl ?_
      simp -implicitDefEqProofs [-aA, -gval, aC]
     ·simp -implicitDefEqProofs [-aA, -gval, aC]
    ·simp -implicitDefEqProofs [-aA, -gval, h1, o1, o2, o3, e0, e1, e3, e4, bne, aC]
 ·simp -implicitDefEqProofs [-aA, -gval, h1, o1, o2, o3, e0]
  refine aD.imp (hany _ _) ?_
  cases q
  ·simp -implicitDefEqProofs [-aA, -gval, h1, o1, o2, o3]
   refine aD.tree tree rfl ?_
   simp -implicitDefEqProofs [-aA, -gval, aC]
  ·simp -implicitDefEqProofs [-aA, -gval, aC]
attribute [local simp] c180t3 c180t7 c180t8 c180t12 c180 in
theorem aTS (t : Ty) (hl : short t.fields) (ha : ∀ x ∈ t.limits, x.args.length ≤ 1000000) : PSp Tryz.prog 180 [.agg (tyC t)] (.one (.t (.bool t.eG))) := by
 refine k180.aG (by simp) (by simp [D.closed, A.closed]) rfl ?_
 obtain ⟨a, e0⟩ : ∃ a, (t.kind == 11 || t.kind == 12) = a := ⟨_, rfl⟩
 obtain ⟨b, e1⟩ : ∃ b, ((t.of.length : Int) != 1) = b := ⟨_, rfl⟩
 obtain ⟨c, e2⟩ : ∃ c, (t.kind == 3) = c := ⟨_, rfl⟩
 obtain ⟨d, e3⟩ : ∃ d, (t.kind == 13) = d := ⟨_, rfl⟩
 obtain ⟨e, e4⟩ : ∃ e, decide (t.root < 1) = e := ⟨_, rfl⟩
 have s1 : t.eG = (!((a && b) || ((c || d) && e)) && (!t.gP && !(t.fields.any fun f => f.pres == 2 && (f.dflt.length : Int) != 1) && bE t.limits)) := by
  simp only [Ty.eG, Ty.aAT, e0, e1, e2, e3, e4, Bool.and_assoc]
 rw [s1]
 have rest := aF4 t hl ha
 generalize (!t.gP && !(t.fields.any fun f => f.pres == 2 && (f.dflt.length : Int) != 1) && bE t.limits) = R at *
 simp -implicitDefEqProofs [-aA, -gval]
 refine aD.tree (aO9 _) rfl ?_
 rw [e0]
 rcases bb a with rfl | rfl <;> rcases bb b with rfl | rfl <;> rcases bb c with rfl | rfl <;> rcases bb d with rfl | rfl <;> rcases bb e with rfl | rfl
 all_goals simp -implicitDefEqProofs [-aA, -gval, e1, e2, e3, e4, aC]
 all_goals exact rest _ ⟨by simp, by simp [Hp.set]⟩
end Go.Proofs.YtdpbobkcbakpfaaGreatDoor

namespace Go.Proofs.YtdpbobkcbakpfaaGreatDoor
open Go Go.Ab
set_option maxRecDepth 100000
set_option maxHeartbeats 4000000
attribute [local simp] bL aM aS aK aY aO bI tyC fdC vlC ndC
theorem dP {P : Program} {n : Nat} {A : Exit → St → Prop} {ks : List KF} {st : St} {x : aB} {α σ ρ : Type} (l : List α) (G : Nat → List α → σ → ρ) (R : ρ) (s0 : σ) (kt kh : List Nat) (X : Nat → σ → St → Prop) (hs : short l) (hR : G 0 l s0 = R) (h0 : X 0 s0 st ∧ cH kt st.tmps st.tmps ∧ dX kh st.heap st.heap st.nx)
  (round : ∀ i y s st', i < l.length → (i : Int) < (l.length : Int) → IntKind.i64.wrap ((i : Int) + 1) = ((i + 1 : Nat) : Int) → l[i]? = some y → y ∈ l → G i (y :: l.drop (i + 1)) s = R →
   X i s st' → cH kt st.tmps st'.tmps → dX kh st.heap st'.heap st'.nx → aT P n A x (.post (fun st'' => ∃ s', G (i + 1) (l.drop (i + 1)) s' = R ∧ X (i + 1) s' st'' ∧ cH kt st.tmps st''.tmps ∧ dX kh st.heap st''.heap st''.nx) :: ks) st')
  (last : ∀ s st', G l.length [] s = R → X l.length s st' → cH kt st.tmps st'.tmps → dX kh st.heap st'.heap st'.nx → aT P n A x (.post (fun _ => False) :: ks) st') : W P n (.loop x) (kont P n A ks) st := by
 refine W.loop (fun k st' => ∃ i s, k = l.length - i ∧ i ≤ l.length ∧ G i (l.drop i) s = R ∧ X i s st' ∧ cH kt st.tmps st'.tmps ∧ dX kh st.heap st'.heap st'.nx) l.length ⟨0, s0, by omega, by omega, by simpa using hR, h0⟩ ?_
 rintro k st' ⟨i, s, rfl, hi, hg, hJ, hT, hH⟩
 rcases Nat.lt_or_ge i l.length with h | h
 ·have hy : l[i]? = some l[i] := List.getElem?_eq_getElem h
  rw [List.drop_eq_getElem_cons h] at hg
  refine cV (round i _ s st' h (by omega) (nI h hs) hy (List.getElem_mem h) hg hJ hT hH) fun st'' ⟨s', hq⟩ => ⟨l.length - (i + 1), by omega, i + 1, s', rfl, by omega, hq⟩
 ·have : i = l.length := by omega
  subst this
  rw [List.drop_length] at hg
  exact cV (last s st' hg hJ hT hH) fun st'' h => h.elim
theorem aP {h : Hp} {i : Nat} {a b : O} : (h.set i a).set i b = h.set i b := by funext j; simp only [Hp.set]; split <;> rfl
attribute [local simp] aP D.dQ D.pt
def hX : List ByteArray := [bs [78, 117, 109, 101, 114, 105, 99, 83, 116, 114, 105, 110, 103], bs [80, 114, 105, 110, 116, 97, 98, 108, 101, 83, 116, 114, 105, 110, 103], bs [86, 105, 115, 105, 98, 108, 101, 83, 116, 114, 105, 110, 103], bs [73, 65, 53, 83, 116, 114, 105, 110, 103]]
def fD (s : ByteArray) : Bool := hX.any fun x => bF s x
def Ty.oI (t : Ty) : Int :=
 if t.kind == 6 then (if fD t.name then 0 else 7) else if t.kind == 15 then (if aW t.name then 0 else 7)
 else if t.kind == 14 && !bF t.name (bs []) && !aW t.name then 7 else if t.fields.any (fun f => !aW f.name) then 7 else 0
attribute [local simp] c181t9 c181t10 c181t11 c181t12 c181t13 c181t15 c181 in
theorem aTT (t : Ty) (hl : short t.fields) (hn : t.name.size ≤ 9223372036854775807) (hf : ∀ f ∈ t.fields, f.name.size ≤ 9223372036854775807) : PSp Tryz.prog 181 [.agg (tyC t)] (.one (.t (I t.oI))) := by
 refine k181.aG (by simp) (by simp [D.closed, A.closed]) rfl ?_
 have hany := aAS t.fields hl (fun f => !aW f.name) 220 (by kernel_rfl) (fun x hx => aTN x (hf x hx))
 have e0 : t.oI = if t.kind == 6 then (if fD t.name then 0 else 7) else if t.kind == 15 then (if aW t.name then 0 else 7)
  else if t.kind == 14 && !bF t.name (bs []) && !aW t.name then 7 else if t.fields.any (fun f => !aW f.name) then 7 else 0 := rfl
 rw [e0]
 generalize (t.fields.any fun f => !aW f.name) = q at *
 have pn := aLU t.name hn
 rcases eqCases t.kind 6 with q6 | q6
 ·simp -implicitDefEqProofs [-aA, -gval, q6]
  refine aD.pure (aQI hX t.name (by simp [short, hX])) (by simp) (by simp [hX]) ?_
  have e1 : (hX.any fun x => bF t.name x) = fD t.name := rfl
  rw [e1]
  cases fD t.name
  ·simp -implicitDefEqProofs [-aA, -gval]
   refine aD.tree (lH _ _) rfl ?_
   simp -implicitDefEqProofs [-aA, -gval, aC]
  ·simp -implicitDefEqProofs [-aA, -gval]
   refine aD.tree (lH _ _) rfl ?_
   simp -implicitDefEqProofs [-aA, -gval, aC]
 ·rcases eqCases t.kind 15 with q15 | q15
  ·simp -implicitDefEqProofs [-aA, -gval, q15]
   refine aD.tree pn rfl ?_
   cases aW t.name
   ·simp -implicitDefEqProofs [-aA, -gval]
    refine aD.tree (lH _ _) rfl ?_
    simp -implicitDefEqProofs [-aA, -gval, aC]
   ·simp -implicitDefEqProofs [-aA, -gval]
    refine aD.tree (lH _ _) rfl ?_
    simp -implicitDefEqProofs [-aA, -gval, aC]
  ·rcases eqCases t.kind 14 with q14 | q14
   ·obtain ⟨z, hz⟩ : ∃ z, (t.name.toList == (bs []).toList) = z := ⟨_, rfl⟩
    have hz' : bF t.name (bs []) = z := hz
    rw [hz']
    cases z
    ·simp -implicitDefEqProofs [-aA, -gval, q14, hz]
     refine aD.tree pn rfl ?_
     cases aW t.name
     ·simp -implicitDefEqProofs [-aA, -gval, aC]
     ·simp -implicitDefEqProofs [-aA, -gval]
      refine aD.imp (hany _ _) ?_
      cases q
      ·simp -implicitDefEqProofs [-aA, -gval]
       refine aD.tree (lH _ _) rfl ?_
       simp -implicitDefEqProofs [-aA, -gval, aC]
      ·simp -implicitDefEqProofs [-aA, -gval]
       refine aD.tree (lH _ _) rfl ?_
       simp -implicitDefEqProofs [-aA, -gval, aC]
    ·simp -implicitDefEqProofs [-aA, -gval, q14, hz]
     refine aD.imp (hany _ _) ?_
     cases q
     ·simp -implicitDefEqProofs [-aA, -gval]
      refine aD.tree (lH _ _) rfl ?_
      simp -implicitDefEqProofs [-aA, -gval, aC]
     ·simp -implicitDefEqProofs [-aA, -gval]
      refine aD.tree (lH _ _) rfl ?_
      simp -implicitDefEqProofs [-aA, -gval, aC]
   ·simp -implicitDefEqProofs [-aA, -gval, q6, q15, q14]
    refine aD.imp (hany _ _) ?_
    cases q
    ·simp -implicitDefEqProofs [-aA, -gval]
     refine aD.tree (lH _ _) rfl ?_
     simp -implicitDefEqProofs [-aA, -gval, aC]
    ·simp -implicitDefEqProofs [-aA, -gval]
     refine aD.tree (lH _ _) rfl ?_
     simp -implicitDefEqProofs [-aA, -gval, aC]
def dup (k : Int) (f g : Fd) : Bool := bF g.name f.name || (k == 3 && g.num == f.num)
def iF (k : Int) (l : List Fd) (i : Nat) : Bool := match l[i]? with | some f => (l.take i).any (dup k f) | none => false
def Ty.jS (t : Ty) : Int := if t.kind == 15 || t.kind == 14 then 0 else if (List.range t.fields.length).any (iF t.kind t.fields) then 13 else 0
attribute [local simp] c182t3 c182t9 c182t10 c182t12 c182t13 c182b14 c182t15 c182t17 c182t18 c182 in
theorem aJU (t : Ty) (hl : short t.fields) (R : Int) (hR : R = if (List.range t.fields.length).any (iF t.kind t.fields) then 13 else 0) (st : St) (h1 : TB t 1 st) (_hnx : 0 < st.nx) :
  aT Tryz.prog 28 (aC [.tmp 2] (.one (.t (I R)))) c182t17 [] st := by
 obtain ⟨h1, h2⟩ := h1
 obtain ⟨o1, o2, o3, o4⟩ := aF h2
 simp -implicitDefEqProofs [-aA, -gval, h1, o1, o2, o3]
 refine bB (List.range t.fields.length) (iF t.kind t.fields) [1, 14, 15] [0] (fun i st => st.tmps 16 = .one (.t (I i))) (by simpa [short] using hl) ⟨by simp, by simp, by simp []⟩ ?_ ?_
 ·intro i y st' hi hiI hw hg hy hany hx hk hh
  obtain rfl := gH hg
  simp [h1] at hk hh
  have hi' : y < t.fields.length := by simpa using hi
  have aHJ : (y : Int) < (t.fields.length : Int) := by omega
  have hf : t.fields[y]? = some t.fields[y] := List.getElem?_eq_getElem hi'
  have hd : iF t.kind t.fields y = (t.fields.take y).any (dup t.kind t.fields[y]) := by simp [iF, hf]
  rw [hd] at hany ⊢
  generalize t.fields[y] = f at *
  have hne : ¬ 0 = st'.nx + 1 + 3 := by omega
  obtain ⟨o1, o2, o3, o4⟩ := aF (hh.1.trans h2)
  simp -implicitDefEqProofs [-aA, -gval, h1, hx, hk, aHJ, hi', aE hf, Fd.aJ, o1, o2, o3, -List.getElem_map]
  have hle : y ≤ t.fields.length := by omega
  obtain ⟨fo, hfo⟩ : ∃ fo, fo = st'.nx + 1 + 3 := ⟨_, rfl⟩
  rw [← hfo] at hne ⊢
  refine ⟨hle, ?_⟩
  have hr : (T.rows 13 (List.take y (List.map Fd.row t.fields))) = aM (t.fields.take y) := by simp [List.map_take]
  have hlook : ∀ x ∈ t.fields.take y, Look 221 (st'.heap.set fo (.arr 0 false 13 [fdC f])) [.agg (fdC x), .one (.ptr ⟨fo, 0, 13, 0, 0⟩), .one (.ptr ⟨0, 0, 8, 0, 0⟩)] (.one (.t (.bool (dup t.kind f x)))) := fun x _ =>
   aTO t f x _ fo 0 (by simp [Hp.set]) (by simp only [Hp.set]; rw [if_neg hne]; exact hh.1.trans h2)
  have hc := aGD (t.fields.take y) (by simp [short] at hl ⊢; omega) (dup t.kind f) 221 [⟨fo, 0, 13, 0, 0⟩, ⟨0, 0, 8, 0, 0⟩] (by kernel_rfl) _ hlook
  simp only [fdC, bL, aM, aS, aK, aY] at hc
  rw [List.map_take] at hc
  refine aD.imp (hc _) ?_
  cases hb : (t.fields.take y).any (dup t.kind f) with
  | true =>
   simp -implicitDefEqProofs [-aA, -gval, aC]
   rw [hR, if_pos (hany hb)]
  | false =>
   simp -implicitDefEqProofs [-aA, -gval, hx, hk, hw]
   refine ⟨by simpa using hb, ?_⟩
   simp only [Hp.set]; rw [if_neg hne]; exact hh.1
 ·intro st' hany hx hk hh
  simp [h1] at hk hh hx
  simp -implicitDefEqProofs [-aA, -gval, hx, hk, aC]
  rw [hR, hany]; rfl
attribute [local simp] c182t3 c182t9 c182t10 c182t12 c182t13 c182b14 c182t15 c182t18 c182 in
theorem aTU (t : Ty) (hl : short t.fields) : PSp Tryz.prog 182 [.agg (tyC t)] (.one (.t (I t.jS))) := by
 refine k182.aG (by simp) (by simp [D.closed, A.closed]) rfl ?_
 have rest := aJU t hl _ rfl
 have e0 : t.jS = if t.kind == 15 || t.kind == 14 then 0 else if (List.range t.fields.length).any (iF t.kind t.fields) then 13 else 0 := rfl
 rw [e0]
 generalize (if (List.range t.fields.length).any (iF t.kind t.fields) then (13 : Int) else 0) = R at *
 rcases eqCases t.kind 15 with q | q
 ·simp -implicitDefEqProofs [-aA, -gval, q, aC]
 ·rcases eqCases t.kind 14 with q' | q'
  ·simp -implicitDefEqProofs [-aA, -gval, q', aC]
  ·simp -implicitDefEqProofs [-aA, -gval, q, q']
   exact rest _ ⟨by simp, by simp [Hp.set]⟩ (by simp)
def dH (root : Int) : Nat → List Fd → Int × Int → Bool
 | _, [], _ => true
 | i, f :: r, (last, before) => if f.grp == 0 || (decide ((i : Int) ≥ root) && (f.grp == IntKind.i64.wrap (last + 1) || (f.grp == last && before == last))) then dH root (i + 1) r (if last < f.grp then f.grp else last, f.grp) else false
attribute [local simp] c185t8 c185t10 c185t11 c185t13 c185t14 c185b15 c185t16 c185t18 c185t19 c185 in
theorem aTV (t : Ty) (hl : short t.fields) : PSp Tryz.prog 185 [.agg (tyC t)] (.one (.t (.bool (dH t.root 0 t.fields (0, 0))))) := by
 refine k185.aG (by simp) (by simp [D.closed, A.closed]) rfl ?_
 simp -implicitDefEqProofs [-aA, -gval]
 refine dP t.fields (dH t.root) _ (0, 0) [1, 9, 10] [0] (fun i s st => st.tmps 11 = .one (.t (I i)) ∧ st.tmps 3 = .one (.t (I s.1)) ∧ st.tmps 4 = .one (.t (I s.2))) hl rfl ⟨by simp, by simp, by simp [Hp.set]⟩ ?_ ?_
 ·rintro i f ⟨last, before⟩ st hi hiI hw hg hy hR ⟨h11, h3, h4⟩ hk hh
  simp [Hp.set] at hk hh h3 h4
  have hne : ¬ 0 = st.nx + 1 + 3 := by omega
  obtain ⟨o1, o2, o3, o4⟩ := aF hh.1
  generalize dH t.root 0 t.fields (0, 0) = R at *
  obtain ⟨b0, e0⟩ : ∃ b, (f.grp == 0) = b := ⟨_, rfl⟩
  obtain ⟨b1, e1⟩ : ∃ b, decide ((i : Int) ≥ t.root) = b := ⟨_, rfl⟩
  obtain ⟨b2, e2⟩ : ∃ b, (f.grp == IntKind.i64.wrap (last + 1)) = b := ⟨_, rfl⟩
  obtain ⟨b3, e3⟩ : ∃ b, (f.grp == last) = b := ⟨_, rfl⟩
  obtain ⟨b4, e4⟩ : ∃ b, (before == last) = b := ⟨_, rfl⟩
  have e1' : decide (t.root ≤ (i : Int)) = b1 := e1
  simp only [dH, e0, e1, e2, e3, e4] at hR
  rcases bb b0 with rfl | rfl
  ·simp at hR
   simp -implicitDefEqProofs [-aA, -gval, hk, h11, h3, h4, hiI, hi, aE hg, Fd.aJ, o1, o2, o3, e0, e1, e2, e3, e4, -List.getElem_map]
   exact ⟨_, _, hR, ⟨by simpa using hw, rfl, rfl⟩, by simp [Hp.set, hh.1]⟩
  ·rcases bb b1 with rfl | rfl
   ·rcases bb b2 with rfl | rfl
    ·simp at hR
     simp -implicitDefEqProofs [-aA, -gval, hk, h11, h3, h4, hiI, hi, aE hg, Fd.aJ, o1, o2, o3, e0, e1, e2, e3, e4, -List.getElem_map]
     exact ⟨_, _, hR, ⟨by simpa using hw, rfl, rfl⟩, by simp [Hp.set, hh.1]⟩
    ·rcases bb b3 with rfl | rfl
     ·rcases bb b4 with rfl | rfl
      ·simp at hR
       simp -implicitDefEqProofs [-aA, -gval, hk, h11, h3, h4, hiI, hi, aE hg, Fd.aJ, o1, o2, o3, e0, e1, e2, e3, e4, -List.getElem_map]
       exact ⟨_, _, hR, ⟨by simpa using hw, rfl, rfl⟩, by simp [Hp.set, hh.1]⟩
      ·simp at hR
       simp -implicitDefEqProofs [-aA, -gval, hk, h11, h3, h4, hiI, hi, aE hg, Fd.aJ, o1, o2, o3, e0, e1, e2, e3, e4, -List.getElem_map, aC]
       exact hR
     ·simp at hR
      simp -implicitDefEqProofs [-aA, -gval, hk, h11, h3, h4, hiI, hi, aE hg, Fd.aJ, o1, o2, o3, e0, e1, e2, e3, e4, -List.getElem_map, aC]
      exact hR
   ·simp at hR
    simp -implicitDefEqProofs [-aA, -gval, hk, h11, h3, h4, hiI, hi, aE hg, Fd.aJ, o1, o2, o3, e0, e1, e2, e3, e4, -List.getElem_map, aC]
    exact hR
 ·rintro ⟨last, before⟩ st hR ⟨h11, h3, h4⟩ hk hh
  simp [Hp.set] at hk hh h3 h4
  simp only [dH] at hR
  rw [← hR]
  simp -implicitDefEqProofs [-aA, -gval, hk, h11, aC]
end Go.Proofs.YtdpbobkcbakpfaaGreatDoor

namespace Go.Proofs.YtdpbobkcbakpfaaGreatDoor
open Go Go.Ab
set_option maxRecDepth 100000
set_option maxHeartbeats 4000000
attribute [local simp] bL aM aS aK aY aO bI tyC fdC vlC ndC aP D.dQ D.pt
def bR (k : Int) : Bool := k == 9 || k == 10 || k == 13
def lI (k : Int) : Bool := k == 11 || k == 12
def isNum (n : Int) : Bool := decide (-1152921504606846976 ≤ n) && decide (n ≤ 1152921504606846976)
def Ty.aCR (t : Ty) : Bool := t.fields.any (fun f => !f.fits t.kind) || (t.fields.take t.root.toNat).any fun f => f.grp != 0
def dY (a b c d e o p q : Bool) : Bool := (!a && !b) || (!c && d) || (!e && (o || p)) || (e && !o && q)
def Ty.bM (t : Ty) : Bool :=
 dY (t.kind == 6 || t.kind == 14 || t.kind == 15) (bF t.name (bs [])) (bR t.kind || t.kind == 3 || t.kind == 14 || t.kind == 15) (decide (0 < t.fields.length)) (bR t.kind || t.kind == 3) t.opn (t.root != 0) (t.root != (t.fields.length : Int)) ||
  (!lI t.kind && decide (0 < t.of.length)) || (!fZ t.kind && decide (0 < t.limits.length)) || t.aCR
def Ty.jT (t : Ty) : Int := bW [if !bR t.kind || dH t.root 0 t.fields (0, 0) then 0 else 14, if t.kind != 3 || !(t.fields.any fun f => !isNum f.num) then 0 else 3]
def Ty.cW (t : Ty) : Int := bW [if t.eG then 0 else 6, t.oI, t.jS]
def Ty.dN (t : Ty) : Int := if t.bM then 5 else if t.cW != 0 then t.cW else t.jT
attribute [local simp] c147t8 c147t12 c147t13 c147t17 c147t18 c147t19 c147t20 c147t21 c147t22 c147 in
theorem aLW (t : Ty) (R : Int) (a c e : Bool) (st : St) (h1 : TB t 1 st) (h3 : st.tmps 3 = .one (.t (.bool a))) (h4 : st.tmps 4 = .one (.t (.bool e))) (h5 : st.tmps 5 = .one (.t (.bool c))) (w : Bool) (h6 : st.tmps 6 = .one (.t (.bool w)))
  (hR : (dY a (bF t.name (bs [])) c (decide (0 < t.fields.length)) e t.opn (t.root != 0) (t.root != (t.fields.length : Int)) || (!lI t.kind && decide (0 < t.of.length)) || (!fZ t.kind && decide (0 < t.limits.length)) || w) = true → R = 5)
  (rest : (dY a (bF t.name (bs [])) c (decide (0 < t.fields.length)) e t.opn (t.root != 0) (t.root != (t.fields.length : Int)) || (!lI t.kind && decide (0 < t.of.length)) || (!fZ t.kind && decide (0 < t.limits.length)) || w) = false → ∀ st : St, TB t 1 st → aT Tryz.prog 165 (aC [.tmp 2] (.one (.t (I R)))) c147t16 [] st) :
  aT Tryz.prog 165 (aC [.tmp 2] (.one (.t (I R)))) c147t17 [] st := by
 obtain ⟨h1, h2⟩ := h1
 obtain ⟨o1, o2, o3, o4⟩ := aF h2
 obtain ⟨b, e0⟩ : ∃ b, (t.name.toList == (bs []).toList) = b := ⟨_, rfl⟩
 obtain ⟨d, e1⟩ : ∃ b, decide (0 < t.fields.length) = b := ⟨_, rfl⟩
 obtain ⟨p, e2⟩ : ∃ b, (t.root == 0) = b := ⟨_, rfl⟩
 obtain ⟨q, e3⟩ : ∃ b, (t.root == (t.fields.length : Int)) = b := ⟨_, rfl⟩
 obtain ⟨m, e4⟩ : ∃ b, decide (0 < t.of.length) = b := ⟨_, rfl⟩
 obtain ⟨v, e5⟩ : ∃ b, decide (0 < t.limits.length) = b := ⟨_, rfl⟩
 have e0' : bF t.name (bs []) = b := e0
 simp only [e0', e1, bne, e2, e3, e4, e5] at hR rest
 obtain ⟨x1, f1⟩ : ∃ x, (!a && !b) = x := ⟨_, rfl⟩
 obtain ⟨x2, f2⟩ : ∃ x, (!c && d) = x := ⟨_, rfl⟩
 obtain ⟨y2, f3⟩ : ∃ x, (x1 || x2) = x := ⟨_, rfl⟩
 obtain ⟨x3, f4⟩ : ∃ x, (t.opn || !p) = x := ⟨_, rfl⟩
 obtain ⟨x4, f5⟩ : ∃ x, (!e && x3) = x := ⟨_, rfl⟩
 obtain ⟨y3, f6⟩ : ∃ x, (y2 || x4) = x := ⟨_, rfl⟩
 obtain ⟨x5, f7⟩ : ∃ x, (e && !t.opn) = x := ⟨_, rfl⟩
 obtain ⟨x6, f8⟩ : ∃ x, (x5 && !q) = x := ⟨_, rfl⟩
 obtain ⟨y4, f9⟩ : ∃ x, (y3 || x6) = x := ⟨_, rfl⟩
 have ef : dY a b c d e t.opn (!p) (!q) = y4 := by simp only [dY, f1, f2, f4, f5, f7, f8, f3, f6, f9]
 rw [ef] at hR rest
 simp -implicitDefEqProofs [-aA, -gval, h1, h3, h4, h5, h6, o1, o2, o3, e0, e1, e2, e3, e4, e5, bne, f1, f2, f3, f4, f5, f6, f7, f8, f9, -Bool.not_or, -Bool.not_and]
 have iv1 : lI t.kind = (t.kind == 11 || t.kind == 12) := rfl
 refine ⟨fun h => by simp [h], fun h h' => by simp [h, h'], fun h => by simp [h], fun h => by simp [h], fun h => by simp [h], ?_⟩
 have fin : ∀ z, (z || w) = true → R = 5 → True := fun _ _ _ => trivial
 rcases bb y4 with rfl | rfl
 ·have := hR (by simp)
  subst this
  simp -implicitDefEqProofs [-aA, -gval, aC]
 ·simp -implicitDefEqProofs [-aA, -gval]
  refine aD.tree (aO9 _) rfl ?_
  rw [← iv1]
  obtain ⟨l, g1⟩ : ∃ l, lI t.kind = l := ⟨_, rfl⟩
  rw [g1] at hR rest ⊢
  have step : ∀ st : St, (!l && m) = false → True := fun _ _ => trivial
  rcases bb l with rfl | rfl
  ·simp -implicitDefEqProofs [-aA, -gval, h1, h6, o1, o2, o3]
   refine aD.tree (aQJ _) rfl ?_
   rcases bb (fZ t.kind) with g2 | g2
   ·rw [g2] at hR rest ⊢
    cases w
    ·simp -implicitDefEqProofs [-aA, -gval, h6]
     exact rest (by simp) _ ⟨by simp [h1], by simp [h2]⟩
    ·have := hR (by simp)
     subst this
     simp -implicitDefEqProofs [-aA, -gval, h6, aC]
   ·rw [g2] at hR rest ⊢
    cases v
    ·cases w
     ·simp -implicitDefEqProofs [-aA, -gval, h1, h6, o1, o2, o3, e5]
      exact rest (by simp) _ ⟨by simp [h1], by simp [h2]⟩
     ·have := hR (by simp)
      subst this
      simp -implicitDefEqProofs [-aA, -gval, h1, h6, o1, o2, o3, e5, aC]
    ·have := hR (by simp)
     subst this
     simp -implicitDefEqProofs [-aA, -gval, h1, h6, o1, o2, o3, e5, aC]
  ·cases m
   ·simp -implicitDefEqProofs [-aA, -gval, h1, h6, o1, o2, o3, e4]
    refine aD.tree (aQJ _) rfl ?_
    rcases bb (fZ t.kind) with g2 | g2
    ·rw [g2] at hR rest ⊢
     cases w
     ·simp -implicitDefEqProofs [-aA, -gval, h6]
      exact rest (by simp) _ ⟨by simp [h1], by simp [h2]⟩
     ·have := hR (by simp)
      subst this
      simp -implicitDefEqProofs [-aA, -gval, h6, aC]
    ·rw [g2] at hR rest ⊢
     cases v
     ·cases w
      ·simp -implicitDefEqProofs [-aA, -gval, h1, h6, o1, o2, o3, e5]
       exact rest (by simp) _ ⟨by simp [h1], by simp [h2]⟩
      ·have := hR (by simp)
       subst this
       simp -implicitDefEqProofs [-aA, -gval, h1, h6, o1, o2, o3, e5, aC]
     ·have := hR (by simp)
      subst this
      simp -implicitDefEqProofs [-aA, -gval, h1, h6, o1, o2, o3, e5, aC]
   ·have := hR (by simp)
    subst this
    simp -implicitDefEqProofs [-aA, -gval, h1, o1, o2, o3, e4, aC]
attribute [local simp] c147t8 c147t12 c147t13 c147t16 c147t17 c147t18 c147t19 c147t20 c147t21 c147t22 c147 in
theorem aLX (t : Ty) (hl : short t.fields) (ha : ∀ x ∈ t.limits, x.args.length ≤ 1000000) (hn : t.name.size ≤ 9223372036854775807) (hf : ∀ f ∈ t.fields, f.name.size ≤ 9223372036854775807) (st : St) (h1 : TB t 1 st) :
  aT Tryz.prog 165 (aC [.tmp 2] (.one (.t (I (if t.cW != 0 then t.cW else t.jT))))) c147t16 [] st := by
 obtain ⟨h1, h2⟩ := h1
 obtain ⟨o1, o2, o3, o4⟩ := aF h2
 simp -implicitDefEqProofs [-aA, -gval, h1, o1, o2, o3]
 refine aD.bO (aTS t hl ha) rfl ?_
 simp -implicitDefEqProofs [-aA, -gval]
 refine aD.bO (lH _ _) rfl ?_
 simp -implicitDefEqProofs [-aA, -gval, h1, o1, o2, o3]
 refine aD.bO (aTT t hl hn hf) rfl ?_
 simp -implicitDefEqProofs [-aA, -gval, h1, o1, o2, o3]
 refine aD.bO (aTU t hl) rfl ?_
 simp -implicitDefEqProofs [-aA, -gval]
 have e1 : t.cW = bW [if t.eG then 0 else 6, t.oI, t.jS] := rfl
 have e2 : t.jT = bW [if !bR t.kind || dH t.root 0 t.fields (0, 0) then 0 else 14, if t.kind != 3 || !(t.fields.any fun f => !isNum f.num) then 0 else 3] := rfl
 refine aD.draw (aQK [if t.eG then 0 else 6, t.oI, t.jS] (by simp [short])) (by simp) (by simp) (.inl rfl) ?_
 rw [← e1]
 generalize t.cW = r1 at *
 rcases eqCases r1 0 with q0 | q0
 ·have hany := aAS t.fields hl (fun f => !isNum f.num) 183 (by kernel_rfl) (fun x hx => aTL x)
  rw [q0]
  have ig : bR t.kind = (t.kind == 9 || t.kind == 10 || t.kind == 13) := rfl
  have aTW := aTV t hl
  generalize dH t.root 0 t.fields (0, 0) = gr at *
  generalize (t.fields.any fun f => !isNum f.num) = q at *
  have fin : ∀ a b : Int, PSp Tryz.prog 179 [.one (.t (bI [a, b]))] (.one (.t (I (bW [a, b])))) := fun a b => aQK [a, b] (by simp [short])
  rcases eqCases t.kind 3 with q3 | q3
  ·rw [ig, q3] at e2
   simp -implicitDefEqProofs [-aA, -gval, h1, o1, o2, o3, q3]
   refine aD.imp (hany _ _) ?_
   simp -implicitDefEqProofs [-aA, -gval, h1, o1, o2, o3, q3]
   refine aD.tree (aF0 _) rfl ?_
   simp -implicitDefEqProofs [-aA, -gval]
   refine aD.tree (lH _ _) rfl ?_
   simp -implicitDefEqProofs [-aA, -gval]
   refine aD.tree (lH _ _) rfl ?_
   simp -implicitDefEqProofs [-aA, -gval]
   refine aD.pure (fin 0 (if q then 3 else 0)) (by simp) (by cases q <;> simp) ?_
   simp -implicitDefEqProofs [-aA, -gval, aC, e2]
   cases q <;> simp
  ·have h3 : (t.kind != 3) = true := q3.2.2.2.2.1
   rw [h3, Bool.true_or] at e2
   simp -implicitDefEqProofs [-aA, -gval, h1, o1, o2, o3, q3]
   refine aD.tree (aF0 _) rfl ?_
   rw [← ig]
   obtain ⟨g, hg⟩ : ∃ g, bR t.kind = g := ⟨_, rfl⟩
   rw [hg] at e2 ⊢
   cases g
   ·simp -implicitDefEqProofs [-aA, -gval]
    refine aD.tree (lH _ _) rfl ?_
    simp -implicitDefEqProofs [-aA, -gval]
    refine aD.tree (lH _ _) rfl ?_
    simp -implicitDefEqProofs [-aA, -gval]
    refine aD.pure (fin 0 0) (by simp) (by simp) ?_
    simp -implicitDefEqProofs [-aA, -gval, aC, e2]
   ·simp -implicitDefEqProofs [-aA, -gval, h1, o1, o2, o3]
    refine aD.tree aTW rfl ?_
    simp -implicitDefEqProofs [-aA, -gval]
    refine aD.tree (lH _ _) rfl ?_
    simp -implicitDefEqProofs [-aA, -gval]
    refine aD.tree (lH _ _) rfl ?_
    simp -implicitDefEqProofs [-aA, -gval]
    refine aD.pure (fin (if gr then 0 else 14) 0) (by simp) (by simp) ?_
    simp -implicitDefEqProofs [-aA, -gval, aC, e2]
 ·simp -implicitDefEqProofs [-aA, -gval, q0, aC]
attribute [local simp] c147t8 c147t12 c147t13 c147t16 c147t18 c147t19 c147t20 c147t21 c147t22 c147 in
theorem aTX (t : Ty) (hl : short t.fields) (ha : ∀ x ∈ t.limits, x.args.length ≤ 1000000) (hn : t.name.size ≤ 9223372036854775807) (hf : ∀ f ∈ t.fields, f.name.size ≤ 9223372036854775807) (hr0 : 0 ≤ t.root) (hr1 : t.root ≤ t.fields.length) :
  PSp Tryz.prog 147 [.agg (tyC t)] (.one (.t (I t.dN))) := by
 refine k147.aG (by simp) (by simp [D.closed, A.closed]) rfl ?_
 have e0 : t.dN = if t.bM then 5 else (if t.cW != 0 then t.cW else t.jT) := rfl
 have r17 := aLW t t.dN (t.kind == 6 || t.kind == 14 || t.kind == 15) (bR t.kind || t.kind == 3 || t.kind == 14 || t.kind == 15) (bR t.kind || t.kind == 3)
 have r16 := aLX t hl ha hn hf
 have ig : bR t.kind = (t.kind == 9 || t.kind == 10 || t.kind == 13) := rfl
 obtain ⟨a, ea⟩ : ∃ x, (t.kind == 6 || t.kind == 14 || t.kind == 15) = x := ⟨_, rfl⟩
 obtain ⟨g, eg⟩ : ∃ x, bR t.kind = x := ⟨_, rfl⟩
 obtain ⟨e, ee⟩ : ∃ x, (g || t.kind == 3) = x := ⟨_, rfl⟩
 obtain ⟨e', ee'⟩ : ∃ x, (e || t.kind == 14) = x := ⟨_, rfl⟩
 obtain ⟨c, ec⟩ : ∃ x, (e' || t.kind == 15) = x := ⟨_, rfl⟩
 rw [ea, eg, ee, ee', ec] at r17
 have ebad : t.aCR = (t.fields.any (fun f => !f.fits t.kind) || (t.fields.take t.root.toNat).any fun f => f.grp != 0) := rfl
 have eform : t.bM = (dY a (bF t.name (bs [])) c (decide (0 < t.fields.length)) e t.opn (t.root != 0) (t.root != (t.fields.length : Int)) || (!lI t.kind && decide (0 < t.of.length)) || (!fZ t.kind && decide (0 < t.limits.length)) || t.aCR) := by
  simp only [Ty.bM, ea, eg, ee, ee', ec]
 have go : ∀ st : St, TB t 1 st → st.tmps 3 = .one (.t (.bool a)) → st.tmps 4 = .one (.t (.bool e)) → st.tmps 5 = .one (.t (.bool c)) → st.tmps 6 = .one (.t (.bool t.aCR)) → aT Tryz.prog 165 (aC [.tmp 2] (.one (.t (I t.dN)))) c147t17 [] st := fun st k1 k3 k4 k5 k6 =>
  r17 st k1 k3 k4 k5 _ k6 (fun h => by rw [← eform] at h; rw [e0, if_pos h]) fun h st' k => by rw [← eform] at h; rw [e0, h]; exact r16 st' k
 simp -implicitDefEqProofs [-aA, -gval, ea]
 refine aD.tree (aF0 _) rfl ?_
 rw [← ig, eg]
 simp -implicitDefEqProofs [-aA, -gval, ee, ee', ec, -Bool.not_or]
 have hb : (iA.set 0 (O.arr 0 false 8 [tyC t])) 0 = some (O.arr 0 false 8 [tyC t]) := by simp [Hp.set]
 have hc := aGD t.fields hl (fun f => !f.fits t.kind) 174 [⟨0, 0, 8, 0, 0⟩] (by kernel_rfl) _ fun x hx => aTJ t x _ 0 hb
 simp only [tyC, bL, aM, aS, aK] at hc
 refine aD.imp (hc _) ?_
 generalize (t.fields.any fun f => !f.fits t.kind) = b1 at *
 cases b1
 ·obtain ⟨rn, hrn⟩ : ∃ n : Nat, t.root = (n : Int) := ⟨t.root.toNat, by omega⟩
  have h5 : ¬ ((t.fields.length : Int) < (rn : Int)) := by omega
  have h6 : rn ≤ t.fields.length := by omega
  have h7 : t.root.toNat = rn := by omega
  simp -implicitDefEqProofs [-aA, -gval, hrn, h5, h6]
  have hany := aAS (t.fields.take rn) (by simp [short] at hl ⊢; omega) (fun f => f.grp != 0) 176 (by kernel_rfl) (fun x hx => aTK x)
  rw [h7] at ebad
  simp only [aM, List.map_take] at hany
  refine aD.imp (hany _ _) ?_
  simp -implicitDefEqProofs [-aA, -gval]
  exact go _ ⟨by simp, by simp [Hp.set, hrn]⟩ (by simp) (by simp) (by simp) (by simp [ebad])
 ·simp -implicitDefEqProofs [-aA, -gval]
  exact go _ ⟨by simp, by simp [Hp.set]⟩ (by simp) (by simp) (by simp) (by simp [ebad])
end Go.Proofs.YtdpbobkcbakpfaaGreatDoor

namespace Go.Proofs.YtdpbobkcbakpfaaGreatDoor
open Go Go.Ab
set_option maxRecDepth 100000
set_option maxHeartbeats 4000000
attribute [local simp] bL aM aS aK aY aO bI tyC fdC vlC ndC aP D.dQ D.pt
def iX (a b : Int) : Int := if a < b then -1 else if a > b then 1 else 0
def dR (a b : ByteArray) : Int := if Op.bytesLess a.toList b.toList then -1 else if !(Op.bytesLess a.toList b.toList || a.toList == b.toList) then 1 else 0
def bD : List ByteArray → List ByteArray → Int
 | [], [] => 0
 | [], _ :: _ => -1
 | _ :: _, [] => 1
 | x :: xs, y :: ys => if dR x y != 0 then dR x y else bD xs ys
mutual
def Vl.cmp : Vl → Vl → Int
 | .mk k n e s ns is, b => bW [iX k b.kind, iX n b.n, iX e b.e, Lib.compareBytes s.data.toList b.s.data.toList, bD ns b.names, bC is b.items]
def bC : List Vl → List Vl → Int
 | [], [] => 0
 | [], _ :: _ => -1
 | _ :: _, [] => 1
 | x :: xs, y :: ys => if x.cmp y != 0 then x.cmp y else bC xs ys
end
attribute [local simp] c294 in
theorem aQL (s : ByteArray) : PSp Tryz.prog 294 [.one (.t (.str s))] (.one (.t (.bool false))) := by
 refine k294.aG (by simp) rfl rfl ?_
 simp -implicitDefEqProofs [-aA, -gval, aC]
attribute [local simp] c268 in
theorem aOD (a b : Int) : PSp Tryz.prog 268 [.one (.t (I a)), .one (.t (I b))] (.one (.t (I (iX a b)))) := by
 refine k268.aG (by simp) rfl rfl ?_
 simp -implicitDefEqProofs [-aA, -gval]
 refine aD.tree (aQ2 _) rfl ?_
 simp -implicitDefEqProofs [-aA, -gval]
 refine aD.tree (aQ2 _) rfl ?_
 simp -implicitDefEqProofs [-aA, -gval]
 refine ⟨fun h => ?_, fun h => ⟨fun h' => ?_, fun h' => ?_⟩⟩
 ·simp -implicitDefEqProofs [-aA, -gval, aC, iX, h]
 ·simp -implicitDefEqProofs [-aA, -gval, aC, iX, h']
  omega
 ·have : a = b := by omega
  subst this
  simp -implicitDefEqProofs [-aA, -gval, aC, iX]
attribute [local simp] c286 in
theorem aTY (a b : ByteArray) : PSp Tryz.prog 286 [.one (.t (.str a)), .one (.t (.str b))] (.one (.t (I (dR a b)))) := by
 refine k286.aG (by simp) rfl rfl ?_
 obtain ⟨x, hx⟩ : ∃ x, Op.bytesLess a.toList b.toList = x := ⟨_, rfl⟩
 obtain ⟨y, hy⟩ : ∃ x, (a.toList == b.toList) = x := ⟨_, rfl⟩
 simp -implicitDefEqProofs [-aA, -gval]
 refine aD.tree (aQL _) rfl ?_
 simp -implicitDefEqProofs [-aA, -gval]
 refine aD.tree (aQL _) rfl ?_
 cases x
 ·cases y
  ·simp -implicitDefEqProofs [-aA, -gval, hx, hy, aC, dR]
  ·simp -implicitDefEqProofs [-aA, -gval, hx, hy, aC, dR]
 ·simp -implicitDefEqProofs [-aA, -gval, hx, aC, dR]
attribute [local simp] c267t7 c267t8 c267t10 c267t11 c267b12 c267t13 c267t15 c267t16 c267 in
theorem aTZ (l : List Int) (hl : short l) : PSp Tryz.prog 267 [.one (.t (bI l))] (.one (.t (I (bW l)))) := by
 refine k267.aG (by simp) rfl rfl ?_
 simp -implicitDefEqProofs [-aA, -gval]
 refine uW l ne0 [3, 6, 7] [] (fun i st => st.tmps 8 = .one (.t (I i))) hl ⟨by simp, by simp, by simp⟩ ?_ ?_
 ·intro i y st hi hiI hw hg hy hany hx hk hh
  simp at hk
  rcases eqCases y 0 with e | e
  ·simp -implicitDefEqProofs [-aA, -gval, hx, hk, hiI, hi, aE hg, hw, e, ne0]
  ·simp -implicitDefEqProofs [-aA, -gval, hx, hk, hiI, hi, aE hg, e, aC]
   simp [bW, hany y (by simp [e, ne0])]
 ·intro st hany hx hk hh
  simp at hk
  simp -implicitDefEqProofs [-aA, -gval, hx, hk, aC, bW, hany]
attribute [local simp] c270t6 c270t11 c270t12 c270t13 c270t14 c270t15 c270t17 c270t18 c270b19 c270t20 c270t23 c270t25 c270t26 c270 in
theorem aU0 (a b : List ByteArray) (ha : short a) (_hb : short b) : PSp Tryz.prog 270 [.one (.t (aO a)), .one (.t (aO b))] (.one (.t (I (bD a b)))) := by
 refine k270.aG (by simp) rfl rfl ?_
 simp -implicitDefEqProofs [-aA, -gval]
 refine dP a (fun i r (_ : Unit) => bD r (b.drop i)) (bD a b) () [0, 1, 9, 10] [] (fun i _ st => st.tmps 11 = .one (.t (I i))) ha (by simp) ⟨by simp, by simp, by simp⟩ ?_ ?_
 ·intro i y _ st hi hiI hw hg hy hR hx hk hh
  simp at hk
  generalize bD a b = R at *
  rcases Nat.lt_or_ge i b.length with h | h
  ·have hg2 : b[i]? = some b[i] := List.getElem?_eq_getElem h
   rw [List.drop_eq_getElem_cons h, bD] at hR
   generalize b[i] = z at *
   have h' : ¬ ((b.length : Int) ≤ (i : Int)) := by omega
   have h'' : (i : Int) < (b.length : Int) := by omega
   simp -implicitDefEqProofs [-aA, -gval, hx, hk, hiI, hi, aE hg, aE hg2, h', h'', h]
   refine aD.tree (aTY _ _) rfl ?_
   rcases eqCases (dR y z) 0 with e | e
   ·rw [e] at hR ⊢
    simp at hR
    simp -implicitDefEqProofs [-aA, -gval, hx, hk, hw]
    exact hR
   ·simp -implicitDefEqProofs [-aA, -gval, e, aC]
    simpa [e] using hR
  ·rw [List.drop_eq_nil_of_le h, bD] at hR
   have h' : (b.length : Int) ≤ (i : Int) := by omega
   simp -implicitDefEqProofs [-aA, -gval, hx, hk, hiI, hi, aE hg, h', aC, hR]
 ·intro _ st hR hx hk hh
  simp at hk
  generalize bD a b = R at *
  rcases Nat.lt_or_ge a.length b.length with h | h
  ·rw [List.drop_eq_getElem_cons h, bD] at hR
   have h' : (a.length : Int) < (b.length : Int) := by omega
   simp -implicitDefEqProofs [-aA, -gval, hx, hk, h, aC, hR]
  ·rw [List.drop_eq_nil_of_le h, bD] at hR
   have h' : ¬ a.length < b.length := by omega
   simp -implicitDefEqProofs [-aA, -gval, hx, hk, h', aC, hR]
theorem tQ {h : Hp} {i : Nat} {o : O} : (h.set i o) i = some o := by simp [Hp.set]
theorem mD {h : Hp} {i j : Nat} {o : O} (e : ¬ j = i) : (h.set i o) j = h j := by simp [Hp.set, e]
attribute [local simp] c271t6 c271t11 c271t12 c271t13 c271t14 c271t15 c271t17 c271t18 c271b19 c271t20 c271t23 c271t25 c271t26 c271 in
theorem aU1 (a b : List Vl) (ha : short a) (_hb : short b) (IH : ∀ x ∈ a, ∀ y ∈ b, PSp Tryz.prog 230 [.agg (vlC x), .agg (vlC y)] (.one (.t (I (x.cmp y))))) : PSp Tryz.prog 271 [.one (.t (aY a)), .one (.t (aY b)), .one (.fn 230 [])] (.one (.t (I (bC a b)))) := by
 refine k271.aG (by simp) (by simp [D.closed, A.closed]) rfl ?_
 simp -implicitDefEqProofs [-aA, -gval]
 refine dP a (fun i r (_ : Unit) => bC r (b.drop i)) (bC a b) () [0, 1, 2, 11, 12] [] (fun i _ st => st.tmps 13 = .one (.t (I i))) ha (by simp) ⟨by simp, by simp, by simp⟩ ?_ ?_
 ·intro i y _ st hi hiI hw hg hy hR hx hk hh
  simp at hk
  generalize bC a b = R at *
  rcases Nat.lt_or_ge i b.length with h | h
  ·have hg2 : b[i]? = some b[i] := List.getElem?_eq_getElem h
   have hz : b[i] ∈ b := List.getElem_mem h
   rw [List.drop_eq_getElem_cons h, bC] at hR
   generalize b[i] = z at *
   have h' : ¬ ((b.length : Int) ≤ (i : Int)) := by omega
   have h'' : (i : Int) < (b.length : Int) := by omega
   simp -implicitDefEqProofs [-aA, -gval, hx, hk, hiI, hi, aE hg, aE hg2, h', h'', h, Vl.aJ, -List.getElem_map]
   refine ⟨230, [], ⟨rfl, rfl⟩, by kernel_rfl, ?_⟩
   refine aD.tree (IH y hy z hz) rfl ?_
   rcases eqCases (y.cmp z) 0 with e | e
   ·rw [e] at hR ⊢
    simp at hR
    simp -implicitDefEqProofs [-aA, -gval, hx, hk, hw]
    exact hR
   ·simp -implicitDefEqProofs [-aA, -gval, e, aC]
    simpa [e] using hR
  ·rw [List.drop_eq_nil_of_le h, bC] at hR
   have h' : (b.length : Int) ≤ (i : Int) := by omega
   simp -implicitDefEqProofs [-aA, -gval, hx, hk, hiI, hi, aE hg, h', aC, hR, Vl.aJ, -List.getElem_map]
 ·intro _ st hR hx hk hh
  simp at hk
  generalize bC a b = R at *
  rcases Nat.lt_or_ge a.length b.length with h | h
  ·rw [List.drop_eq_getElem_cons h, bC] at hR
   have h' : (a.length : Int) < (b.length : Int) := by omega
   simp -implicitDefEqProofs [-aA, -gval, hx, hk, h, aC, hR]
  ·rw [List.drop_eq_nil_of_le h, bC] at hR
   have h' : ¬ a.length < b.length := by omega
   simp -implicitDefEqProofs [-aA, -gval, hx, hk, h', aC, hR]
theorem Vl.cmp_eq (a b : Vl) : a.cmp b = bW [iX a.kind b.kind, iX a.n b.n, iX a.e b.e, Lib.compareBytes a.s.data.toList b.s.data.toList, bD a.names b.names, bC a.items b.items] := by
 cases a; rw [Vl.cmp]; rfl
attribute [local simp] c230 in
theorem aLY (a b : Vl) (ha : a.fine) (hb : b.fine) (IH : ∀ x ∈ a.items, ∀ y ∈ b.items, PSp Tryz.prog 230 [.agg (vlC x), .agg (vlC y)] (.one (.t (I (x.cmp y))))) : PSp Tryz.prog 230 [.agg (vlC a), .agg (vlC b)] (.one (.t (I (a.cmp b)))) := by
 rw [Vl.cmp_eq]
 rw [Vl.aX] at ha hb
 refine k230.aG (by simp) (by simp [D.closed, A.closed]) rfl ?_
 have aU2 := aU1 a.items b.items ha.2.2.2.1 hb.2.2.2.1 IH
 have aU3 := aU0 a.names b.names ha.2.1 hb.2.1
 simp -implicitDefEqProofs [-aA, -gval]
 refine aD.bO (aOD _ _) rfl ?_
 simp -implicitDefEqProofs [-aA, -gval]
 refine aD.bO (aOD _ _) rfl ?_
 simp -implicitDefEqProofs [-aA, -gval]
 refine aD.bO (aOD _ _) rfl ?_
 simp -implicitDefEqProofs [-aA, -gval]
 refine aD.bO (aJP _ _) rfl ?_
 simp -implicitDefEqProofs [-aA, -gval]
 refine aD.bO aU3 rfl ?_
 simp -implicitDefEqProofs [-aA, -gval]
 refine aD.draw aU2 (by simp) (by simp) (.inl rfl) ?_
 simp -implicitDefEqProofs [-aA, -gval]
 refine aD.draw (aTZ [iX a.kind b.kind, iX a.n b.n, iX a.e b.e, Lib.compareBytes a.s.data.toList b.s.data.toList, bD a.names b.names, bC a.items b.items] (by simp [short])) (by simp) (by simp) (.inl rfl) ?_
 simp -implicitDefEqProofs [-aA, -gval, aC]
theorem aU4 : ∀ a : Vl, a.fine → ∀ b : Vl, b.fine → PSp Tryz.prog 230 [.agg (vlC a), .agg (vlC b)] (.one (.t (I (a.cmp b)))) := by
 refine Vl.ind fun a IH ha b hb => aLY a b ha hb fun x hx y hy => ?_
 rw [Vl.aX] at ha hb
 exact IH x hx (ha.2.2.2.2 x hx) y (hb.2.2.2.2 y hy)
def aLZ : List Vl → Bool
 | [] => true
 | [_] => true
 | x :: y :: r => !(decide (y.cmp x < 0)) && aLZ (y :: r)
def kD (l : List Vl) (j : Nat) : Bool := match l[l.length - 1 - j]?, l[l.length - 2 - j]? with | some y, some x => decide (y.cmp x < 0) | _, _ => false
attribute [local simp] c229b6 c229 in
theorem aU5 (l : List Vl) (hl : short l) (hf : ∀ x ∈ l, x.fine) : PSp Tryz.prog 229 [.one (.t (aY l)), .one (.fn 230 [])] (.one (.t (.bool (!(List.range (l.length - 1)).any (kD l))))) := by
 refine k229.aG (by simp) (by simp [D.closed, A.closed]) rfl ?_
 have hw0 : IntKind.i64.wrap ((l.length : Int) - 1) = (l.length : Int) - 1 := wrap_i64 (by omega) (by simp [short] at hl; omega)
 simp -implicitDefEqProofs [-aA, -gval, hw0]
 refine bB (List.range (l.length - 1)) (kD l) [0, 1] [] (fun i st => st.tmps 5 = .one (.t (I ((l.length : Int) - 1 - i)))) (by simp [short] at hl ⊢; omega) ⟨by simp, by simp, by simp⟩ ?_ ?_
 ·intro i y st hi hiI hw hg hy hany hx hk hh
  obtain rfl := gH hg
  simp at hk hi
  have q1 : l[l.length - 1 - y]? = some l[l.length - 1 - y] := List.getElem?_eq_getElem (by omega)
  have q2 : l[l.length - 2 - y]? = some l[l.length - 2 - y] := List.getElem?_eq_getElem (by omega)
  have m1 := hf _ (List.mem_of_getElem? q1)
  have m2 := hf _ (List.mem_of_getElem? q2)
  obtain ⟨k1, hk1⟩ : ∃ k, l.length - 1 - y = k := ⟨_, rfl⟩
  obtain ⟨k2, hk2⟩ : ∃ k, l.length - 2 - y = k := ⟨_, rfl⟩
  have e1 : ((l.length : Int) - 1 - y) = (k1 : Int) := by omega
  have e2 : IntKind.i64.wrap ((k1 : Int) - 1) = (k2 : Int) := by simp [short] at hl; exact bZ k2 (by omega) (by omega)
  have hd : kD l y = decide ((l[l.length - 1 - y]).cmp (l[l.length - 2 - y]) < 0) := by simp [kD, q1, q2]
  rw [hd] at hany ⊢
  generalize l[l.length - 1 - y] = u at *
  generalize l[l.length - 2 - y] = v at *
  rw [hk1] at q1
  rw [hk2] at q2
  rw [e1] at hx
  have h0 : (0 : Int) < (k1 : Int) := by omega
  have b1 : (k1 : Int) < (l.length : Int) := by omega
  have b2 : (k2 : Int) < (l.length : Int) := by omega
  have c1 : k1 < l.length := by omega
  have c2 : k2 < l.length := by omega
  have c0 : 0 < k1 := by omega
  simp -implicitDefEqProofs [-aA, -gval, hx, hk, c0, e2, b1, b2, c1, c2, aE q1, aE q2, Vl.aJ, -List.getElem_map]
  refine ⟨230, [], ⟨rfl, rfl⟩, by kernel_rfl, ?_⟩
  refine aD.bO (aU4 u m1 v m2) rfl ?_
  rcases oH (u.cmp v) 0 with q | q
  ·simp -implicitDefEqProofs [-aA, -gval, q, aC]
   simpa using hany (by simp [q])
  ·have e3 : (k2 : Int) = (l.length : Int) - 1 - ((y : Int) + 1) := by omega
   have q' := q.1
   simp -implicitDefEqProofs [-aA, -gval, q', hx, hk, e2]
   exact ⟨q.2, e3⟩
 ·intro st hany hx hk hh
  simp at hk
  simp only [List.length_range] at hx
  obtain ⟨z, hz⟩ : ∃ z : Int, (l.length : Int) - 1 - ((l.length - 1 : Nat) : Int) = z := ⟨_, rfl⟩
  rw [hz] at hx
  have e3 : ¬ 0 < z := by omega
  rw [hany]
  simp -implicitDefEqProofs [-aA, -gval, hx, e3, aC]
end Go.Proofs.YtdpbobkcbakpfaaGreatDoor

namespace Go.Proofs.YtdpbobkcbakpfaaGreatDoor
open Go Go.Ab
set_option maxRecDepth 100000
set_option maxHeartbeats 4000000
attribute [local simp] bL aM aS aK aY aO bI tyC fdC vlC ndC aP D.dQ D.pt
def kK (k : Int) : Bool := k == 1 || k == 2 || k == 14 || k == 8
def mE (k : Int) : Bool := k == 8
def kE (k : Int) : Bool := k == 3 || k == 4 || k == 5 || k == 6 || k == 13
def gU (k : Int) : Bool := k == 9 || k == 12
def gI (k : Int) : Bool := k == 7 || k == 10 || k == 11 || k == 9 || k == 12 || k == 13
def nK (k : Int) : D := .agg [.t (.bool (kK k)), .t (.bool (mE k)), .t (.bool (kE k)), .t (.bool (gU k)), .t (.bool (gI k))]
attribute [local simp] c222 in
theorem aU6 (k : Int) : PSp Tryz.prog 222 [.one (.t (I k))] (nK k) := by
 refine k222.aG (by simp) rfl rfl ?_
 rcases eqCases k 1 with rfl | q1
 ·simp -implicitDefEqProofs [-aA, -gval, nK, kK, mE, kE, gU, gI, aC]
 ·rcases eqCases k 2 with rfl | q2
  ·simp -implicitDefEqProofs [-aA, -gval, nK, kK, mE, kE, gU, gI, aC]
  ·rcases eqCases k 14 with rfl | q14
   ·simp -implicitDefEqProofs [-aA, -gval, nK, kK, mE, kE, gU, gI, aC]
   ·rcases eqCases k 3 with rfl | q3
    ·simp -implicitDefEqProofs [-aA, -gval, nK, kK, mE, kE, gU, gI, aC]
    ·rcases eqCases k 4 with rfl | q4
     ·simp -implicitDefEqProofs [-aA, -gval, nK, kK, mE, kE, gU, gI, aC]
     ·rcases eqCases k 5 with rfl | q5
      ·simp -implicitDefEqProofs [-aA, -gval, nK, kK, mE, kE, gU, gI, aC]
      ·rcases eqCases k 6 with rfl | q6
       ·simp -implicitDefEqProofs [-aA, -gval, nK, kK, mE, kE, gU, gI, aC]
       ·rcases eqCases k 7 with rfl | q7
        ·simp -implicitDefEqProofs [-aA, -gval, nK, kK, mE, kE, gU, gI, aC]
        ·rcases eqCases k 10 with rfl | q10
         ·simp -implicitDefEqProofs [-aA, -gval, nK, kK, mE, kE, gU, gI, aC]
         ·rcases eqCases k 11 with rfl | q11
          ·simp -implicitDefEqProofs [-aA, -gval, nK, kK, mE, kE, gU, gI, aC]
          ·rcases eqCases k 8 with rfl | q8
           ·simp -implicitDefEqProofs [-aA, -gval, nK, kK, mE, kE, gU, gI, aC]
           ·rcases eqCases k 9 with rfl | q9
            ·simp -implicitDefEqProofs [-aA, -gval, nK, kK, mE, kE, gU, gI, aC]
            ·rcases eqCases k 12 with rfl | q12
             ·simp -implicitDefEqProofs [-aA, -gval, nK, kK, mE, kE, gU, gI, aC]
             ·rcases eqCases k 13 with rfl | q13
              ·simp -implicitDefEqProofs [-aA, -gval, nK, kK, mE, kE, gU, gI, aC]
              ·simp -implicitDefEqProofs [-aA, -gval, nK, kK, mE, kE, gU, gI, aC, q1, q2, q14, q3, q4, q5, q6, q7, q10, q11, q8, q9, q12, q13]
def uZ (i : Nat) (x x0 : Vl) : Bool := !(decide (0 ≤ x.n) && decide (x.n ≤ 1152921504606846976)) || ((i : Int) == 0 && decide (x.n > 2)) || ((i : Int) == 1 && x0.kind == 2 && decide (x0.n < 2) && decide (x.n > 39))
def eV (l : List Vl) (i : Nat) : Bool := match l[i]?, l[0]? with | some x, some x0 => x.kind == 2 && uZ i x x0 | _, _ => false
def vA (l : List Vl) : Bool := !(List.range l.length).any (eV l)
attribute [local simp] c261t5 c261t8 c261t9 c261t10 c261t12 c261t13 c261b14 c261t15 c261t17 c261 in
theorem aU7 (l : List Vl) (hl : short l) : PSp Tryz.prog 261 [.one (.t (aY l))] (.one (.t (.bool (vA l)))) := by
 refine k261.aG (by simp) rfl rfl ?_
 simp -implicitDefEqProofs [-aA, -gval]
 refine bB (List.range l.length) (eV l) [0, 5, 6] [] (fun i st => st.tmps 7 = .one (.t (I i))) (by simpa [short] using hl) ⟨by simp, by simp, by simp⟩ ?_ ?_
 ·intro i y st hi hiI hw hg hy hany hx hk hh
  obtain rfl := gH hg
  simp at hk hi
  have hi' : (y : Int) < (l.length : Int) := by omega
  have q1 : l[y]? = some l[y] := List.getElem?_eq_getElem hi
  have q2 : l[0]? = some l[0] := List.getElem?_eq_getElem (by omega)
  have c0 : 0 < l.length := by omega
  have c0' : (0 : Int) < (l.length : Int) := by omega
  have hd : eV l y = ((l[y]).kind == 2 && uZ y l[y] l[0]) := by simp [eV, q1, q2]
  rw [hd] at hany ⊢
  have e0 : vA l = !(List.range l.length).any (eV l) := rfl
  rw [e0]
  generalize l[y] = x at *
  generalize l[0] = x0 at *
  rcases eqCases x.kind 2 with q | q
  ·obtain ⟨a, ea⟩ : ∃ a, (decide (0 ≤ x.n) && decide (x.n ≤ 1152921504606846976)) = a := ⟨_, rfl⟩
   obtain ⟨b, eb⟩ : ∃ a, decide (x.n > 2) = a := ⟨_, rfl⟩
   obtain ⟨c, ec⟩ : ∃ a, decide (x0.n < 2) = a := ⟨_, rfl⟩
   obtain ⟨d, ed⟩ : ∃ a, decide (x.n > 39) = a := ⟨_, rfl⟩
   obtain ⟨e, ee⟩ : ∃ a, (x0.kind == 2) = a := ⟨_, rfl⟩
   have eb' : decide (2 < x.n) = b := eb
   have ed' : decide (39 < x.n) = d := ed
   simp only [uZ, ea, eb, ec, ed, ee] at hany ⊢
   simp -implicitDefEqProofs [-aA, -gval, hx, hk, hi', hi, q, aE q1, Vl.aJ, -List.getElem_map]
   refine aD.tree (rP _ _ _) rfl ?_
   rw [ea]
   have w1 : IntKind.i64.wrap 1 = 1 := wrap_i64 (by omega) (by omega)
   have w2 : IntKind.i64.wrap 2 = 2 := wrap_i64 (by omega) (by omega)
   have eqy : y = 0 ∨ y = 1 ∨ ((y : Int) == 0) = false ∧ ((y : Int) == 1) = false ∧ ¬ y = 0 ∧ ¬ y = 1 ∧ ¬ (y : Int) = 0 ∧ ¬ (y : Int) = 1 := by
    rcases y with - | - | y
    ·exact .inl rfl
    ·exact .inr (.inl rfl)
    ·refine .inr (.inr ⟨by simp; omega, by simp; omega, by omega, by omega, by omega, by omega⟩)
   rcases bb a with rfl | rfl
   ·rcases eqy with rfl | rfl | qy
    ·rcases bb b with rfl | rfl
     ·simp -implicitDefEqProofs [-aA, -gval, hk, c0, aE q2, Vl.aJ, -List.getElem_map, aC, eb']
      simpa using hany (by simp [q])
     ·simp -implicitDefEqProofs [-aA, -gval, hx, hk, w1, c0, aE q2, Vl.aJ, -List.getElem_map, eb']
    ·rcases bb e with rfl | rfl
     ·rcases bb c with rfl | rfl
      ·rcases bb d with rfl | rfl
       ·simp -implicitDefEqProofs [-aA, -gval, hk, c0, aE q2, Vl.aJ, -List.getElem_map, aC, ee, ec, ed']
        simpa using hany (by simp [q])
       ·simp -implicitDefEqProofs [-aA, -gval, hx, hk, w2, c0, aE q2, Vl.aJ, -List.getElem_map, ee, ec, ed']
      ·simp -implicitDefEqProofs [-aA, -gval, hx, hk, w2, c0, aE q2, Vl.aJ, -List.getElem_map, ee, ec]
     ·simp -implicitDefEqProofs [-aA, -gval, hx, hk, w2, c0, aE q2, Vl.aJ, -List.getElem_map, ee]
    ·simp -implicitDefEqProofs [-aA, -gval, hx, hk, hw, c0, aE q2, Vl.aJ, -List.getElem_map, qy]
   ·simp -implicitDefEqProofs [-aA, -gval, hk, c0, aE q2, Vl.aJ, -List.getElem_map, aC]
    simpa using hany (by simp [q])
  ·simp -implicitDefEqProofs [-aA, -gval, hx, hk, hi', hi, hw, q, aE q1, Vl.aJ, -List.getElem_map]
 ·intro st hany hx hk hh
  simp at hk
  simp only [List.length_range] at hx
  have e0 : vA l = !(List.range l.length).any (eV l) := rfl
  rw [e0, hany]
  simp -implicitDefEqProofs [-aA, -gval, hx, hk, aC]
def Vl.cI (v : Vl) : Bool :=
 if v.kind == 1 then decide (0 ≤ v.n) && decide (v.n ≤ 1) else if v.kind == 2 then isNum v.n
 else if v.kind == 8 then (v.n == 0 && v.e == 0) || (isNum v.n && v.n.tmod 2 != 0 && (decide (-1000 ≤ v.e) && decide (v.e ≤ 1000)))
 else if v.kind == 14 then decide (0 ≤ v.n) && decide (v.n ≤ 4) else if v.kind == 7 then vA v.items else true
attribute [local simp] c223t12 c223t13 c223t14 c223t15 c223t16 c223t17 c223t19 c223 in
theorem aU8 (v : Vl) (hl : short v.items) : PSp Tryz.prog 223 [.agg (vlC v)] (.one (.t (.bool v.cI))) := by
 refine k223.aG (by simp) (by simp [D.closed, A.closed]) rfl ?_
 have aQM : ∀ n, PSp Tryz.prog 184 [.one (.t (I n))] (.one (.t (.bool (isNum n)))) := aQ1
 rcases eqCases v.kind 1 with q1 | q1
 ·simp -implicitDefEqProofs [-aA, -gval, q1]
  refine aD.tree (rP _ _ _) rfl ?_
  simp -implicitDefEqProofs [-aA, -gval, aC, Vl.cI, q1]
 ·rcases eqCases v.kind 2 with q2 | q2
  ·simp -implicitDefEqProofs [-aA, -gval, q2]
   refine aD.tree (aQM _) rfl ?_
   simp -implicitDefEqProofs [-aA, -gval, aC, Vl.cI, q2]
  ·rcases eqCases v.kind 8 with q8 | q8
   ·obtain ⟨a, ea⟩ : ∃ a, (v.n == 0) = a := ⟨_, rfl⟩
    obtain ⟨b, eb⟩ : ∃ a, (v.e == 0) = a := ⟨_, rfl⟩
    obtain ⟨c, ec⟩ : ∃ a, isNum v.n = a := ⟨_, rfl⟩
    obtain ⟨d, ed⟩ : ∃ a, (v.n.tmod 2 == 0) = a := ⟨_, rfl⟩
    obtain ⟨e, ee⟩ : ∃ a, (decide (-1000 ≤ v.e) && decide (v.e ≤ 1000)) = a := ⟨_, rfl⟩
    obtain ⟨f, ef⟩ : ∃ x, (a && b) = x := ⟨_, rfl⟩
    have hR : v.cI = (f || (c && !d && e)) := by
     simp only [Vl.cI, q8, ea, eb, ec, bne, ed, ee, ef]; rfl
    rw [hR]
    simp -implicitDefEqProofs [-aA, -gval, q8, ea, eb, ef]
    rcases bb f with rfl | rfl
    ·simp -implicitDefEqProofs [-aA, -gval, aC]
    ·simp -implicitDefEqProofs [-aA, -gval]
     refine aD.tree (aQM _) rfl ?_
     rw [ec]
     rcases bb c with rfl | rfl
     ·simp -implicitDefEqProofs [-aA, -gval, ed, bne]
      rcases bb d with rfl | rfl
      ·simp -implicitDefEqProofs [-aA, -gval, aC]
      ·simp -implicitDefEqProofs [-aA, -gval]
       refine aD.tree (rP _ _ _) rfl ?_
       rw [ee]
       simp -implicitDefEqProofs [-aA, -gval, aC]
     ·simp -implicitDefEqProofs [-aA, -gval, aC]
   ·rcases eqCases v.kind 14 with q14 | q14
    ·simp -implicitDefEqProofs [-aA, -gval, q14]
     refine aD.tree (rP _ _ _) rfl ?_
     simp -implicitDefEqProofs [-aA, -gval, aC, Vl.cI, q14]
    ·rcases eqCases v.kind 7 with q7 | q7
     ·simp -implicitDefEqProofs [-aA, -gval, q7]
      refine aD.tree (aU7 v.items hl) rfl ?_
      simp -implicitDefEqProofs [-aA, -gval, aC, Vl.cI, q7]
     ·simp -implicitDefEqProofs [-aA, -gval, q1, q2, q8, q14, q7, aC, Vl.cI]
attribute [local simp] c262 in
theorem aU9 (v : Vl) : PSp Tryz.prog 262 [.agg (vlC v)] (.one (.t (.bool (v.kind == 2)))) := by
 refine k262.aG (by simp) (by simp [D.closed, A.closed]) rfl ?_
 simp -implicitDefEqProofs [-aA, -gval, aC]
attribute [local simp] c264 in
theorem aUA (v : Vl) (h : Hp) (id : Nat) (hid : h id = some (.arr 0 false 1 [[.fn 262 []]])) : Look 264 h [.agg (vlC v), .one (.ptr ⟨id, 0, 1, 0, 0⟩)] (.one (.t (.bool (!(v.kind == 2))))) := fun n => by
 refine ISp.ok fun ho => ?_
 have hlt := fK ho hid
 refine k264.kU (by simp) ?_
 obtain ⟨o1, o2, o3, o4⟩ := aF hid
 have hne : ¬ id = n := by omega
 simp -implicitDefEqProofs [-aA, -gval, o1, o2, o3, hne]
 refine ⟨262, [], ⟨rfl, rfl⟩, by kernel_rfl, ?_⟩
 refine aD.tree (aU9 v) rfl ?_
 simp -implicitDefEqProofs [-aA, -gval]
 exact dG (.inr rfl) (by simp) (fun j hj => by simp [Hp.set]; omega) ho
theorem aM0 (l : List Vl) (hl : short l) (p : Vl → Bool) (clo : FuncId) (caps : List Pt) (hc : callable Tryz.prog clo = true) (h : Hp) (hp : ∀ x ∈ l, Look clo h (.agg (vlC x) :: caps.map fun q => .one (.ptr q)) (.one (.t (.bool (p x))))) (n : Nat) :
  ISp Tryz.prog 263 h n [.one (.t (aY l)), .one (.fn clo caps)] (.one (.t (.bool (l.any p)))) h :=
 aTF l hl p clo caps h n hc fun x hx new K hn hK => aD.imp (by rw [aAR]; exact hp x hx new) hK
def Vl.shaped (v : Vl) : Bool :=
 if v.kind == 7 then decide ((v.items.length : Int) ≥ 2) && !v.items.any (fun x => !(x.kind == 2)) else if v.kind == 9 then (v.names.length : Int) == (v.items.length : Int)
 else if v.kind == 12 then (v.names.length : Int) == 1 && (v.items.length : Int) == 1 else if v.kind == 13 then (v.items.length : Int) == 1 && (!bF v.s (bs []) || (match v.items[0]? with | some x => x.kind == 5 | none => false)) else true
attribute [local simp] c224t12 c224t13 c224t14 c224t15 c224t16 c224t18 c224t19 c224t20 c224 in
theorem aUB (v : Vl) (hl : short v.items) : PSp Tryz.prog 224 [.agg (vlC v)] (.one (.t (.bool v.shaped))) := by
 refine k224.aG (by simp) (by simp [D.closed, A.closed]) rfl ?_
 rcases eqCases v.kind 7 with q7 | q7
 ·have e0 : v.shaped = (decide ((v.items.length : Int) ≥ 2) && !v.items.any (fun x => !(x.kind == 2))) := by simp only [Vl.shaped, q7]; rfl
  rw [e0]
  rcases kO 2 (v.items.length : Int) with q | q
  ·simp -implicitDefEqProofs [-aA, -gval, q7, q]
   have hc := aM0 v.items hl (fun x => !(x.kind == 2)) 264 [⟨6, 0, 1, 0, 0⟩] (by kernel_rfl) ((iA.set 0 (O.arr 0 false 6 [vlC v])).set 6 (O.arr 0 false 1 [[A.fn 262 []]])) fun x _ => aUA x _ 6 (by simp [Hp.set])
   simp only [vlC, aO, aY, q7] at hc
   refine aD.imp (hc _) ?_
   generalize v.items.any (fun x => !(x.kind == 2)) = w
   simp -implicitDefEqProofs [-aA, -gval, aC]
  ·simp -implicitDefEqProofs [-aA, -gval, q7, q, aC]
 ·rcases eqCases v.kind 9 with q9 | q9
  ·simp -implicitDefEqProofs [-aA, -gval, q9, aC, Vl.shaped]
  ·rcases eqCases v.kind 12 with q12 | q12
   ·simp -implicitDefEqProofs [-aA, -gval, q12, aC, Vl.shaped]
   ·rcases eqCases v.kind 13 with q13 | q13
    ·obtain ⟨a, ea⟩ : ∃ a, ((v.items.length : Int) == 1) = a := ⟨_, rfl⟩
     obtain ⟨b, eb⟩ : ∃ a, (v.s.toList == (bs []).toList) = a := ⟨_, rfl⟩
     have eb' : bF v.s (bs []) = b := eb
     rcases bb a with rfl | rfl
     ·rcases bb b with rfl | rfl
      ·have hl1 : v.items.length = 1 := by have := ea; simp at this; omega
       have g : v.items[0]? = some (v.items[0]'(by omega)) := List.getElem?_eq_getElem (by omega)
       have hp : 0 < v.items.length := by omega
       generalize hgx : v.items[0]'(by omega) = x at g
       simp -implicitDefEqProofs [-aA, -gval, q13, ea, eb, hp, aE g, Vl.aJ, -List.getElem_map, aC, Vl.shaped, eb', hgx]
      ·simp -implicitDefEqProofs [-aA, -gval, q13, ea, eb, eb', aC, Vl.shaped]
     ·simp -implicitDefEqProofs [-aA, -gval, q13, ea, aC, Vl.shaped]
    ·simp -implicitDefEqProofs [-aA, -gval, q7, q9, q12, q13, aC, Vl.shaped]
attribute [local simp] c228 in
theorem aUC (s : ByteArray) (hs : s.size ≤ 9223372036854775807) : PSp Tryz.prog 228 [.one (.t (.str s))] (.one (.t (.bool (!aW s)))) := by
 refine k228.aG (by simp) rfl rfl ?_
 simp -implicitDefEqProofs [-aA, -gval]
 refine aD.tree (aLU s hs) rfl ?_
 simp -implicitDefEqProofs [-aA, -gval, aC]
end Go.Proofs.YtdpbobkcbakpfaaGreatDoor

namespace Go.Proofs.YtdpbobkcbakpfaaGreatDoor
open Go Go.Ab
set_option maxRecDepth 100000
set_option maxHeartbeats 4000000
theorem yB (s : ByteArray) (p : Int → Bool) : (chars s).any p = s.data.toList.any fun b => p (b.toNat : Int) := by
 simp [chars, List.any_map, Function.comp_def]
theorem vB {α : Type} (p : α → Bool) : ∀ l : List α, (∀ x ∈ l.dropWhile p, p x = true) → ∀ x ∈ l, p x = true
 | [], _, x, hx => by simp at hx
 | a :: r, h, x, hx => by
  cases ha : p a with
  | true =>
   rw [List.dropWhile_cons_of_pos ha] at h
   rcases List.mem_cons.1 hx with e | e
   ·rw [e]; exact ha
   ·exact vB p r h x e
  | false =>
   rw [List.dropWhile_cons_of_neg (by simp [ha])] at h
   have := h a (List.mem_cons_self ..)
   rw [ha] at this; cases this
theorem drop_nil {α : Type} (p : α → Bool) : ∀ l : List α, (∀ x ∈ l, p x = true) → l.dropWhile p = []
 | [], _ => rfl
 | a :: r, h => by
  rw [List.dropWhile_cons_of_pos (h a (List.mem_cons_self ..))]
  exact drop_nil p r fun x hx => h x (List.mem_cons_of_mem _ hx)
theorem aAU {α : Type} (p : α → Bool) (l : List α) : l.dropWhile p = [] ↔ ∀ x ∈ l, p x = true :=
 ⟨fun h => vB p l (by rw [h]; simp), drop_nil p l⟩
theorem aHK (l cs : List UInt8) : Lib.trimS l cs = [] ↔ ∀ b ∈ l, cs.contains b = true := by
 rw [Lib.trimS, Lib.trimLeftS, Lib.trimRightS, aAU]
 constructor
 ·intro h b hb
  exact vB (cs.contains ·) l.reverse (fun x hx => h x (by simpa using hx)) b (by simpa using hb)
 ·intro h x hx
  have hx' : x ∈ l.reverse.dropWhile (cs.contains ·) := by simpa using hx
  exact h x (by simpa using (List.dropWhile_sublist _).mem hx')
theorem vC (s : ByteArray) : (Lib.trimS s.data.toList [48, 49] == (bs []).toList) = !(chars s).any fun c => !(c == 48 || c == 49) := by
 have e : (bs []).toList = [] := by simp [bs]
 rw [e, yB, Bool.eq_iff_iff, beq_iff_eq, aHK]
 simp only [Bool.not_eq_true', List.any_eq_false]
 have h : ∀ b : UInt8, ([48, 49] : List UInt8).contains b = ((b.toNat : Int) == 48 || (b.toNat : Int) == 49) := fun b => by
  have h48 : (b == (48 : UInt8)) = (((b.toNat : Int)) == 48) := by
   rw [Bool.eq_iff_iff]; simp only [beq_iff_eq]
   constructor
   ·rintro rfl; rfl
   ·intro h; apply UInt8.toNat_inj.1; simpa using (by omega : b.toNat = 48)
  have h49 : (b == (49 : UInt8)) = (((b.toNat : Int)) == 49) := by
   rw [Bool.eq_iff_iff]; simp only [beq_iff_eq]
   constructor
   ·rintro rfl; rfl
   ·intro h; apply UInt8.toNat_inj.1; simpa using (by omega : b.toNat = 49)
  rw [List.contains_cons, List.contains_cons, List.contains_nil, h48, h49, Bool.or_false]
 constructor
 ·intro k b hb
  have := k b hb
  rw [h] at this
  simp [this]
 ·intro k b hb
  rw [h]
  have := k b hb
  simp at this ⊢
  omega
theorem decode_high (s : ByteArray) (pos : Nat) (h : pos < s.size) (ha : 128 ≤ (s[pos]'h).toNat) : 127 < (Utf8.decode s pos).1 := by
 have e : s.get! (pos + 0) = s[pos]'h := by
  show s.get! pos = _
  simp [ByteArray.get!, getElem!_pos, h]
  rfl
 simp only [Utf8.decode, e]
 rw [if_neg (by omega)]
 have hr : 127 < Utf8.runeError := by decide
 split
 ·split <;> simp_all; omega
 ·split
  ·split
   ·simp_all; omega
   ·simp_all
  ·split
   ·split
    ·simp_all; omega
    ·simp_all
   ·exact hr
theorem aCS (s : ByteArray) : ∀ (f pos : Nat), s.size ≤ pos + f → (0 ≤ Lib.idxFuncFrom (fun x => decide (127 < x)) true s f pos ↔ ∃ j, ∃ h : j < s.size, pos ≤ j ∧ 127 < (s[j]'h).toNat)
 | 0, pos, hf => by
  simp only [Lib.idxFuncFrom]
  constructor
  ·intro h; omega
  ·rintro ⟨j, h, h1, _⟩; omega
 | f + 1, pos, hf => by
  rw [Lib.idxFuncFrom]
  rcases Nat.lt_or_ge pos s.size with h | h
  ·rw [if_pos h]
   rcases Nat.lt_or_ge (s[pos]'h).toNat 128 with hb | hb
   ·rw [Go.decode_ascii s pos h hb]
    have : ¬ 127 < (s[pos]'h).toNat := by omega
    simp only [this, decide_false, Bool.false_eq_true, if_false]
    rw [aCS s f (pos + 1) (by omega)]
    constructor
    ·rintro ⟨j, hj, h1, h2⟩; exact ⟨j, hj, by omega, h2⟩
    ·rintro ⟨j, hj, h1, h2⟩
     refine ⟨j, hj, ?_, h2⟩
     rcases Nat.eq_or_lt_of_le h1 with e | e
     ·subst e; omega
     ·omega
   ·have := decode_high s pos h hb
    rw [if_pos (by simpa using this)]
    exact ⟨fun _ => ⟨pos, h, Nat.le_refl _, by omega⟩, fun _ => by omega⟩
  ·rw [if_neg (by omega)]
   constructor
   ·intro h; omega
   ·rintro ⟨j, hj, h1, _⟩; omega
theorem aOE (s : ByteArray) : decide (0 ≤ Lib.idxFunc (fun x => decide (127 < x)) true s) = (chars s).any fun c => decide (127 < c) := by
 rw [Bool.eq_iff_iff, decide_eq_true_iff, Lib.idxFunc, aCS s s.size 0 (by omega), yB, List.any_eq_true]
 constructor
 ·rintro ⟨j, hj, _, h⟩
  refine ⟨s[j]'hj, ?_, by simp; omega⟩
  have : s[j]'hj = s.data.toList[j]'(by simpa using hj) := by simp; rfl
  rw [this]; exact List.getElem_mem _
 ·rintro ⟨b, hb, h⟩
  obtain ⟨j, hj, rfl⟩ := List.getElem_of_mem hb
  have hj' : j < s.size := by simpa using hj
  refine ⟨j, hj', Nat.zero_le _, ?_⟩
  have : s[j]'hj' = s.data.toList[j]'hj := by simp; rfl
  rw [this]
  simp at h ⊢
  omega
end Go.Proofs.YtdpbobkcbakpfaaGreatDoor

namespace Go.Proofs.YtdpbobkcbakpfaaGreatDoor
open Go Go.Ab
set_option maxRecDepth 100000
set_option maxHeartbeats 4000000
attribute [local simp] bL aM aS aK aY aO bI tyC fdC vlC ndC aP D.dQ D.pt
def Vl.bM (v : Vl) : Bool := (!kK v.kind && v.n != 0) || (!mE v.kind && v.e != 0) || (!kE v.kind && !bF v.s (bs [])) || (!gU v.kind && decide (0 < v.names.length)) || (!gI v.kind && decide (0 < v.items.length))
def Vl.aF5 (v : Vl) : Bool := v.kind == 4 || v.kind == 5 || v.kind == 6
def Vl.large (v : Vl) : Bool := (v.aF5 && decide (200 < v.s.size)) || decide ((if v.kind == 9 then 16 else 40) < v.items.length)
def Vl.tR (v : Vl) : Bool := (v.kind == 4 && (chars v.s).any fun c => !(c == 48 || c == 49)) || (v.kind == 6 && (chars v.s).any fun c => decide (127 < c))
def Vl.mF (v : Vl) : Bool := ((v.kind == 3 || (v.kind == 13 && !bF v.s (bs []))) && !aW v.s) || v.names.any fun s => !aW s
def jJ (l : List ByteArray) (i : Nat) : Bool := match l[i]? with | some s => (l.take i).any fun x => bF s x | none => false
def Vl.aHL (v : Vl) : Int := if (List.range v.names.length).any (jJ v.names) then 13 else if v.kind != 11 || !(List.range (v.items.length - 1)).any (kD v.items) then 0 else 14
def Vl.aF6 (v : Vl) : Int := if v.mF then 7 else v.aHL
def Vl.aJV (v : Vl) : Int := if v.tR then 17 else v.aF6
def Vl.aJW (v : Vl) : Int := if v.shaped then v.aJV else 6
def Vl.aHM (v : Vl) : Int := if v.large then 2 else v.aJW
def Vl.aJX (v : Vl) : Int := if v.cI then v.aHM else 3
def Vl.aHN (v : Vl) : Int := if v.bM then 5 else v.aJX
def Vl.gC (v : Vl) : Int := if decide (0 ≤ v.kind) && decide (v.kind ≤ 14) then v.aHN else 4
def VB (v : Vl) (i : Nat) (st : St) : Prop := st.tmps i = .one (.ptr ⟨0, 0, 6, 0, 0⟩) ∧ st.heap 0 = some (.arr 0 false 6 [vlC v])
attribute [local simp] c186t3 c186t7 c186t10 c186t15 c186t18 c186t21 c186t26 c186t29 c186t35 c186t36 c186t38 c186t39 c186b40 c186t41 c186t43 c186t44 c186t45 c186t46 c186t47 c186t48 c186t49 c186t50 c186t51 c186t52 c186t53 c186t54 c186t55 c186t56 c186 in
theorem aQN (v : Vl) (hv : v.fine) (st : St) (h1 : VB v 1 st) (_hnx : 0 < st.nx) : aT Tryz.prog 173 (aC [.tmp 2] (.one (.t (I v.aHL)))) c186t43 [] st := by
 rw [Vl.aX] at hv
 obtain ⟨f1, f2, f3, f4, f5⟩ := hv
 obtain ⟨h1, h2⟩ := h1
 obtain ⟨o1, o2, o3, o4⟩ := aF h2
 have e0 : v.aHL = if (List.range v.names.length).any (jJ v.names) then 13 else if v.kind != 11 || !(List.range (v.items.length - 1)).any (kD v.items) then 0 else 14 := rfl
 generalize v.aHL = R at *
 simp -implicitDefEqProofs [-aA, -gval, h1, o1, o2, o3]
 refine bB (List.range v.names.length) (jJ v.names) [1, 150, 151] [0] (fun i st => st.tmps 152 = .one (.t (I i))) (by simpa [short] using f2) ⟨by simp, by simp, by simp []⟩ ?_ ?_
 ·intro i y st' hi hiI hw hg hy hany hx hk hh
  obtain rfl := gH hg
  simp [h1] at hk hh hi
  have hi' : (y : Int) < (v.names.length : Int) := by omega
  have q1 : v.names[y]? = some v.names[y] := List.getElem?_eq_getElem hi
  have hd : jJ v.names y = (v.names.take y).any fun x => bF v.names[y] x := by simp [jJ, q1]
  rw [hd] at hany ⊢
  obtain ⟨o1, o2, o3, o4⟩ := aF (hh.1.trans h2)
  have hle : y ≤ v.names.length := by omega
  generalize v.names[y] = s at *
  simp -implicitDefEqProofs [-aA, -gval, h1, hx, hk, hi', hi, aE q1, o1, o2, o3, hle]
  have pc := aQI (v.names.take y) s (by simp [short] at f2 ⊢; omega)
  simp only [aO, List.map_take] at pc
  refine aD.tree pc rfl ?_
  cases hb : (v.names.take y).any fun x => bF s x with
  | true =>
   simp -implicitDefEqProofs [-aA, -gval, aC]
   rw [e0, if_pos (hany hb)]
  | false =>
   simp -implicitDefEqProofs [-aA, -gval, hx, hk, hw]
   exact ⟨by simpa using hb, hh.1⟩
 ·intro st' hany hx hk hh
  simp [h1] at hk hh
  simp only [List.length_range] at hx
  obtain ⟨o1, o2, o3, o4⟩ := aF (hh.1.trans h2)
  rw [hany] at e0
  rcases eqCases v.kind 11 with q | q
  ·simp -implicitDefEqProofs [-aA, -gval, hx, hk, q, o1, o2, o3]
   rw [q] at e0
   refine aD.pure (aU5 v.items f4 f5) (by simp) (by simp) ?_
   generalize (List.range (v.items.length - 1)).any (kD v.items) = w at *
   simp -implicitDefEqProofs [-aA, -gval]
   refine aD.tree (lH _ _) rfl ?_
   simp -implicitDefEqProofs [-aA, -gval, aC, e0]
  ·simp -implicitDefEqProofs [-aA, -gval, hx, hk, q, o1, o2, o3]
   refine aD.tree (lH _ _) rfl ?_
   simp -implicitDefEqProofs [-aA, -gval, aC, e0, q]
theorem kF {v : Vl} (hv : v.fine) : v.s.size ≤ 9223372036854775807 ∧ short v.names ∧ short v.items ∧ ∀ x ∈ v.names, x.size ≤ 9223372036854775807 := by
 rw [Vl.aX] at hv; exact ⟨hv.1, hv.2.1, hv.2.2.2.1, hv.2.2.1⟩
attribute [local simp] c186t3 c186t7 c186t10 c186t15 c186t18 c186t21 c186t26 c186t29 c186t35 c186t36 c186t38 c186t39 c186b40 c186t41 c186t44 c186t45 c186t46 c186t47 c186t48 c186t49 c186t50 c186t51 c186t52 c186t53 c186t54 c186t55 c186t56 c186 in
theorem aQO (v : Vl) (hv : v.fine) (st : St) (h1 : VB v 1 st) (_hnx : 0 < st.nx) : aT Tryz.prog 173 (aC [.tmp 2] (.one (.t (I v.aF6)))) c186t44 [] st := by
 obtain ⟨f1, f2, f4, f3⟩ := kF hv
 have rest := aQN v hv
 obtain ⟨h1, h2⟩ := h1
 obtain ⟨o1, o2, o3, o4⟩ := aF h2
 obtain ⟨a, ea⟩ : ∃ a, (v.kind == 3) = a := ⟨_, rfl⟩
 obtain ⟨b, eb⟩ : ∃ a, (v.kind == 13) = a := ⟨_, rfl⟩
 obtain ⟨c, ec⟩ : ∃ a, (v.s.toList == (bs []).toList) = a := ⟨_, rfl⟩
 obtain ⟨d, ed⟩ : ∃ x, (b && !c) = x := ⟨_, rfl⟩
 obtain ⟨e, ee⟩ : ∃ x, (a || d) = x := ⟨_, rfl⟩
 have e0 : v.aF6 = if (e && !aW v.s) || v.names.any (fun s => !aW s) then 7 else v.aHL := by
  simp only [Vl.aF6, Vl.mF, bF, ea, eb, ec, ed, ee]
 have hany : ∀ h n, ISp Tryz.prog 227 h n [.one (.t (aO v.names)), .one (.fn 228 [])] (.one (.t (.bool (v.names.any fun s => !aW s)))) h := fun h n =>
  aTE v.names f2 (fun s => !aW s) 228 [] h n (by kernel_rfl) fun x hx new K hn hK => aD.tree (aUC x (f3 x hx)) (by simp [D.iV, sP]) hK
 simp only [aO] at hany
 rw [e0]
 generalize (v.names.any fun s => !aW s) = w at *
 simp -implicitDefEqProofs [-aA, -gval, h1, o1, o2, o3, ea, eb, ec, ed, ee]
 refine ⟨fun h => by simp [h], ?_, ?_⟩
 ·intro he
  rw [he]
  refine aD.tree (aLU _ f1) rfl ?_
  cases hn : aW v.s with
  | true =>
   simp -implicitDefEqProofs [-aA, -gval, h1, o1, o2, o3]
   refine aD.imp (hany _ _) ?_
   cases w
   ·simp -implicitDefEqProofs [-aA, -gval]
    exact rest _ ⟨by simp [h1], by simp [h2]⟩ (by simp)
   ·simp -implicitDefEqProofs [-aA, -gval, aC]
  | false => simp -implicitDefEqProofs [-aA, -gval, aC]
 ·intro he
  rw [he]
  simp -implicitDefEqProofs [-aA, -gval]
  refine aD.imp (hany _ _) ?_
  cases w
  ·simp -implicitDefEqProofs [-aA, -gval]
   exact rest _ ⟨by simp [h1], by simp [h2]⟩ (by simp)
  ·simp -implicitDefEqProofs [-aA, -gval, aC]
theorem aVW (b : UInt8) (k : Nat) (hk : k < 256) : (b == UInt8.ofNat k) = ((b.toNat : Int) == (k : Int)) := by
 rw [Bool.eq_iff_iff]; simp only [beq_iff_eq]
 constructor
 ·rintro rfl; simp; omega
 ·intro h; apply UInt8.toNat_inj.1; simp; omega
attribute [local simp] c186t3 c186t7 c186t10 c186t15 c186t18 c186t21 c186t26 c186t29 c186t35 c186t36 c186t38 c186t39 c186b40 c186t41 c186t43 c186t45 c186t46 c186t47 c186t48 c186t49 c186t50 c186t51 c186t52 c186t53 c186t54 c186t55 c186t56 c186 in
theorem aQP (v : Vl) (hv : v.fine) (st : St) (h1 : VB v 1 st) (_hnx : 0 < st.nx) : aT Tryz.prog 173 (aC [.tmp 2] (.one (.t (I v.aJV)))) c186t47 [] st := by
 obtain ⟨f1, f2, f4, f3⟩ := kF hv
 have rest := aQO v hv
 obtain ⟨h1, h2⟩ := h1
 obtain ⟨o1, o2, o3, o4⟩ := aF h2
 have e0 : v.aJV = if (v.kind == 4 && (chars v.s).any fun c => !(c == 48 || c == 49)) || (v.kind == 6 && (chars v.s).any fun c => decide (127 < c)) then 17 else v.aF6 := rfl
 rw [e0]
 have t1 := vC v.s
 have t2 := aOE v.s
 generalize ((chars v.s).any fun c => !(c == 48 || c == 49)) = x at *
 generalize ((chars v.s).any fun c => decide (127 < c)) = y at *
 rcases eqCases v.kind 4 with q4 | q4
 ·simp -implicitDefEqProofs [-aA, -gval, h1, o1, o2, o3, q4]
  refine aD.tree (aJO _ f1) rfl ?_
  simp -implicitDefEqProofs [-aA, -gval, h1, o1, o2, o3, q4, t1]
  cases x
  ·simp -implicitDefEqProofs [-aA, -gval]
   exact rest _ ⟨by simp [h1], by simp [h2]⟩ (by simp)
  ·simp -implicitDefEqProofs [-aA, -gval, aC]
 ·rcases eqCases v.kind 6 with q6 | q6
  ·simp -implicitDefEqProofs [-aA, -gval, h1, o1, o2, o3, q6]
   refine aD.pure (aF1 v.s) (by simp) (by simp) ?_
   simp -implicitDefEqProofs [-aA, -gval, t2]
   cases y
   ·simp -implicitDefEqProofs [-aA, -gval]
    exact rest _ ⟨by simp [h1], by simp [h2]⟩ (by simp)
   ·simp -implicitDefEqProofs [-aA, -gval, aC]
  ·simp -implicitDefEqProofs [-aA, -gval, h1, o1, o2, o3, q4, q6]
   exact rest _ ⟨by simp [h1], by simp [h2]⟩ (by simp)
attribute [local simp] c186t3 c186t7 c186t10 c186t15 c186t18 c186t21 c186t26 c186t29 c186t35 c186t36 c186t38 c186t39 c186b40 c186t41 c186t43 c186t44 c186t45 c186t46 c186t48 c186t49 c186t50 c186t51 c186t52 c186t53 c186t54 c186t55 c186t56 c186 in
theorem aQQ (v : Vl) (hv : v.fine) (st : St) (h1 : VB v 1 st) (_hnx : 0 < st.nx) : aT Tryz.prog 173 (aC [.tmp 2] (.one (.t (I v.aJW)))) c186t48 [] st := by
 obtain ⟨f1, f2, f4, f3⟩ := kF hv
 have rest := aQP v hv
 obtain ⟨h1, h2⟩ := h1
 obtain ⟨o1, o2, o3, o4⟩ := aF h2
 have e0 : v.aJW = if v.shaped then v.aJV else 6 := rfl
 rw [e0]
 simp -implicitDefEqProofs [-aA, -gval, h1, o1, o2, o3]
 refine aD.tree (aUB v f4) rfl ?_
 cases v.shaped
 ·simp -implicitDefEqProofs [-aA, -gval, aC]
 ·simp -implicitDefEqProofs [-aA, -gval]
  exact rest _ ⟨by simp [h1], by simp [h2]⟩ (by simp)
attribute [local simp] c186t3 c186t7 c186t10 c186t15 c186t18 c186t21 c186t26 c186t29 c186t35 c186t36 c186t38 c186t39 c186b40 c186t41 c186t43 c186t44 c186t45 c186t46 c186t47 c186t49 c186t50 c186t51 c186t52 c186t53 c186t54 c186t55 c186t56 c186 in
theorem aQR (v : Vl) (hv : v.fine) (st : St) (h1 : VB v 1 st) (_hnx : 0 < st.nx) : aT Tryz.prog 173 (aC [.tmp 2] (.one (.t (I v.aHM)))) c186t52 [] st := by
 obtain ⟨f1, f2, f4, f3⟩ := kF hv
 have rest := aQQ v hv
 obtain ⟨h1, h2⟩ := h1
 obtain ⟨o1, o2, o3, o4⟩ := aF h2
 obtain ⟨tx, et⟩ : ∃ x, (v.kind == 4 || v.kind == 5 || v.kind == 6) = x := ⟨_, rfl⟩
 obtain ⟨a, ea⟩ : ∃ x, decide (200 < v.s.size) = x := ⟨_, rfl⟩
 have ea' : decide ((200 : Int) < (v.s.size : Int)) = a := by rw [← ea]; congr 1; simp; omega
 obtain ⟨b, eb⟩ : ∃ x, (tx && a) = x := ⟨_, rfl⟩
 have e0 : v.aHM = if b || decide ((if v.kind == 9 then 16 else 40) < v.items.length) then 2 else v.aJW := by
  simp only [Vl.aHM, Vl.large, Vl.aF5, et, ea, eb]
 rw [e0]
 rcases eqCases v.kind 9 with q9 | q9
 ·have hb : b = false := by rw [← eb, ← et, q9]; rfl
  subst hb
  rcases oH 16 (v.items.length : Int) with q | q
  ·have q' : 16 < v.items.length := by omega
   simp -implicitDefEqProofs [-aA, -gval, h1, o1, o2, o3, q9, q, q', aC]
  ·have q' : ¬ 16 < v.items.length := by omega
   simp -implicitDefEqProofs [-aA, -gval, h1, o1, o2, o3, q9, q, q']
   exact rest _ ⟨by simp [h1], by simp [h2]⟩ (by simp)
 ·rcases bb b with rfl | rfl
  ·simp -implicitDefEqProofs [-aA, -gval, h1, o1, o2, o3, et, ea', eb, q9, aC]
  ·rcases oH 40 (v.items.length : Int) with q | q
   ·have q' : 40 < v.items.length := by omega
    simp -implicitDefEqProofs [-aA, -gval, h1, o1, o2, o3, et, ea', eb, q9, q, q', aC]
   ·have q' : ¬ 40 < v.items.length := by omega
    simp -implicitDefEqProofs [-aA, -gval, h1, o1, o2, o3, et, ea', eb, q9, q, q']
    exact rest _ ⟨by simp [h1], by simp [h2]⟩ (by simp)
attribute [local simp] c186t3 c186t7 c186t10 c186t15 c186t18 c186t21 c186t26 c186t29 c186t35 c186t36 c186t38 c186t39 c186b40 c186t41 c186t43 c186t44 c186t45 c186t46 c186t47 c186t48 c186t49 c186t50 c186t51 c186t53 c186t54 c186t55 c186t56 c186 in
theorem aQS (v : Vl) (hv : v.fine) (st : St) (h1 : VB v 1 st) (_hnx : 0 < st.nx) : aT Tryz.prog 173 (aC [.tmp 2] (.one (.t (I v.aJX)))) c186t53 [] st := by
 obtain ⟨f1, f2, f4, f3⟩ := kF hv
 have rest := aQR v hv
 obtain ⟨h1, h2⟩ := h1
 obtain ⟨o1, o2, o3, o4⟩ := aF h2
 have e0 : v.aJX = if v.cI then v.aHM else 3 := rfl
 rw [e0]
 simp -implicitDefEqProofs [-aA, -gval, h1, o1, o2, o3]
 refine aD.tree (aU8 v f4) rfl ?_
 cases v.cI
 ·simp -implicitDefEqProofs [-aA, -gval, aC]
 ·simp -implicitDefEqProofs [-aA, -gval]
  exact rest _ ⟨by simp [h1], by simp [h2]⟩ (by simp)
end Go.Proofs.YtdpbobkcbakpfaaGreatDoor

namespace Go.Proofs.YtdpbobkcbakpfaaGreatDoor
open Go Go.Ab
set_option maxRecDepth 100000
set_option maxHeartbeats 4000000
attribute [local simp] bL aM aS aK aY aO bI tyC fdC vlC ndC aP D.dQ D.pt
attribute [local simp] c186t3 c186t7 c186t10 c186t15 c186t18 c186t21 c186t26 c186t29 c186t35 c186t36 c186t38 c186t39 c186b40 c186t41 c186t43 c186t44 c186t45 c186t46 c186t47 c186t48 c186t49 c186t50 c186t51 c186t52 c186t54 c186t55 c186t56 c186 in
theorem aQT (v : Vl) (hv : v.fine) (st : St) (h1 : VB v 1 st) (hnx : 0 < st.nx) : aT Tryz.prog 173 (aC [.tmp 2] (.one (.t (I v.aHN)))) c186t55 [] st := by
 obtain ⟨f1, f2, f4, f3⟩ := kF hv
 have rest := aQS v hv
 obtain ⟨h1, h2⟩ := h1
 obtain ⟨o1, o2, o3, o4⟩ := aF h2
 have aQU := aU6 v.kind
 obtain ⟨a1, g1⟩ : ∃ x, kK v.kind = x := ⟨_, rfl⟩
 obtain ⟨a2, g2⟩ : ∃ x, mE v.kind = x := ⟨_, rfl⟩
 obtain ⟨a3, g3⟩ : ∃ x, kE v.kind = x := ⟨_, rfl⟩
 obtain ⟨a4, g4⟩ : ∃ x, gU v.kind = x := ⟨_, rfl⟩
 obtain ⟨a5, g5⟩ : ∃ x, gI v.kind = x := ⟨_, rfl⟩
 obtain ⟨b1, k1⟩ : ∃ x, (v.n == 0) = x := ⟨_, rfl⟩
 obtain ⟨b2, k2⟩ : ∃ x, (v.e == 0) = x := ⟨_, rfl⟩
 obtain ⟨b3, k3⟩ : ∃ x, (v.s.toList == (bs []).toList) = x := ⟨_, rfl⟩
 obtain ⟨b4, k4⟩ : ∃ x, decide (0 < v.names.length) = x := ⟨_, rfl⟩
 obtain ⟨b5, k5⟩ : ∃ x, decide (0 < v.items.length) = x := ⟨_, rfl⟩
 obtain ⟨c1, m1⟩ : ∃ x, (!a1 && !b1) = x := ⟨_, rfl⟩
 obtain ⟨c2, m2⟩ : ∃ x, (!a2 && !b2) = x := ⟨_, rfl⟩
 obtain ⟨c3, m3⟩ : ∃ x, (!a3 && !b3) = x := ⟨_, rfl⟩
 obtain ⟨c4, m4⟩ : ∃ x, (!a4 && b4) = x := ⟨_, rfl⟩
 obtain ⟨c5, m5⟩ : ∃ x, (!a5 && b5) = x := ⟨_, rfl⟩
 obtain ⟨d2, n2⟩ : ∃ x, (c1 || c2) = x := ⟨_, rfl⟩
 obtain ⟨d3, n3⟩ : ∃ x, (d2 || c3) = x := ⟨_, rfl⟩
 obtain ⟨d4, n4⟩ : ∃ x, (d3 || c4) = x := ⟨_, rfl⟩
 obtain ⟨d5, n5⟩ : ∃ x, (d4 || c5) = x := ⟨_, rfl⟩
 have e0 : v.aHN = if d5 then 5 else v.aJX := by
  simp only [Vl.aHN, Vl.bM, bF, bne, g1, g2, g3, g4, g5, k1, k2, k3, k4, k5, m1, m2, m3, m4, m5, n2, n3, n4, n5]
 rw [e0]
 simp only [nK, g1, g2, g3, g4, g5] at aQU
 simp -implicitDefEqProofs [-aA, -gval, h1, o1, o2, o3]
 refine aD.tree aQU rfl ?_
 have hne : ¬ 0 = st.nx + 3 := by omega
 simp -implicitDefEqProofs [-aA, -gval, h1, o1, o2, o3, k1, k2, k3, k4, k5, m1, m2, m3, m4, m5, n2, n3, n4, n5, bne, -Bool.not_or, -Bool.not_and]
 refine ⟨fun h => by simp [h], fun h => by simp [h], fun h => by simp [h], fun h => by simp [h], fun h => ?_, fun h => ?_⟩
 ·rw [h]
  simp -implicitDefEqProofs [-aA, -gval, aC]
 ·rw [h]
  refine rest _ ⟨by simp [h1], ?_⟩ (by simp)
  simp only [Hp.set]; rw [if_neg hne]; exact h2
attribute [local simp] c186t3 c186t7 c186t10 c186t15 c186t18 c186t21 c186t26 c186t29 c186t35 c186t36 c186t38 c186t39 c186b40 c186t41 c186t43 c186t44 c186t45 c186t46 c186t47 c186t48 c186t49 c186t50 c186t51 c186t52 c186t53 c186t54 c186t56 c186 in
theorem aUD (v : Vl) (hv : v.fine) : PSp Tryz.prog 186 [.agg (vlC v)] (.one (.t (I v.gC))) := by
 refine k186.aG (by simp) (by simp [D.closed, A.closed]) rfl ?_
 have rest := aQT v hv
 have e0 : v.gC = if decide (0 ≤ v.kind) && decide (v.kind ≤ 14) then v.aHN else 4 := rfl
 obtain ⟨b, hb⟩ : ∃ b, (decide (0 ≤ v.kind) && decide (v.kind ≤ 14)) = b := ⟨_, rfl⟩
 rw [e0, hb]
 simp -implicitDefEqProofs [-aA, -gval]
 refine aD.tree (rP _ _ _) rfl ?_
 rw [hb]
 cases b
 ·simp -implicitDefEqProofs [-aA, -gval, aC]
 ·simp -implicitDefEqProofs [-aA, -gval]
  exact rest _ ⟨by simp, by simp [Hp.set]⟩ (by simp)
mutual
def Vl.fE : Vl → Int
 | .mk k n e s ns is => if (Vl.mk k n e s ns is).gC != 0 then (Vl.mk k n e s ns is).gC else bK is
def bK : List Vl → Int
 | [] => 0
 | v :: r => if v.fE != 0 then v.fE else bK r
end
theorem Vl.vD (v : Vl) : v.fE = if v.gC != 0 then v.gC else bK v.items := by cases v; rw [Vl.fE]; rfl
attribute [local simp] c149t4 c149t5 c149t12 c149t13 c149t14 c149t16 c149t17 c149b18 c149t19 c149t21 c149t22 c149 in
theorem aOF (v : Vl) (hl : short v.items) (IH : ∀ x ∈ v.items, PSp Tryz.prog 149 [.agg (vlC x)] (.one (.t (I x.fE)))) (st : St) (h1 : VB v 1 st) (_hnx : 0 < st.nx) : aT Tryz.prog 25 (aC [.tmp 2] (.one (.t (I (bK v.items))))) c149t21 [] st := by
 obtain ⟨h1, h2⟩ := h1
 obtain ⟨o1, o2, o3, o4⟩ := aF h2
 simp -implicitDefEqProofs [-aA, -gval, h1, o1, o2, o3]
 refine dP v.items (fun _ r (_ : Unit) => bK r) (bK v.items) () [1, 13, 14] [] (fun i _ st => st.tmps 15 = .one (.t (I i))) hl rfl ⟨by simp, by simp, by simp⟩ ?_ ?_
 ·intro i y _ st hi hiI hw hg hy hR hx hk hh
  simp [h1] at hk
  rw [bK] at hR
  generalize bK v.items = R at *
  have hne : ∀ c, ¬ 0 = st.nx + c + 1 := fun c => by omega
  simp -implicitDefEqProofs [-aA, -gval, hx, hk, hiI, hi, aE hg, Vl.aJ, -List.getElem_map]
  refine aD.tree (IH y hy) rfl ?_
  rcases eqCases y.fE 0 with e | e
  ·rw [e] at hR ⊢
   simp at hR
   simp -implicitDefEqProofs [-aA, -gval, hx, hk, hw, h1]
   exact hR
  ·simp -implicitDefEqProofs [-aA, -gval, e, aC]
   simpa [e] using hR
 ·intro _ st hR hx hk hh
  simp [h1] at hk
  rw [bK] at hR
  generalize bK v.items = R at *
  simp -implicitDefEqProofs [-aA, -gval, hx, hk, aC]
  exact hR
attribute [local simp] c149t4 c149t5 c149t12 c149t13 c149t14 c149t16 c149t17 c149b18 c149t19 c149t22 c149 in
theorem aM1 (v : Vl) (hv : v.fine) (IH : ∀ x ∈ v.items, PSp Tryz.prog 149 [.agg (vlC x)] (.one (.t (I x.fE)))) : PSp Tryz.prog 149 [.agg (vlC v)] (.one (.t (I v.fE))) := by
 rw [Vl.vD]
 refine k149.aG (by simp) (by simp [D.closed, A.closed]) rfl ?_
 have rest := aOF v (kF hv).2.2.1 IH
 simp -implicitDefEqProofs [-aA, -gval]
 refine aD.tree (aUD v hv) rfl ?_
 generalize v.gC = e at *
 rcases eqCases e 0 with q | q
 ·simp -implicitDefEqProofs [-aA, -gval, q]
  exact rest _ ⟨by simp, by simp [Hp.set]⟩ (by simp)
 ·simp -implicitDefEqProofs [-aA, -gval, q, aC]
theorem aUE : ∀ v : Vl, v.fine → PSp Tryz.prog 149 [.agg (vlC v)] (.one (.t (I v.fE))) :=
 Vl.ind fun v IH hv => aM1 v hv fun x hx => IH x hx (((Vl.aX v).1 hv).2.2.2.2 x hx)
end Go.Proofs.YtdpbobkcbakpfaaGreatDoor

namespace Go.Proofs.YtdpbobkcbakpfaaGreatDoor
open Go Go.Ab
set_option maxRecDepth 100000
set_option maxHeartbeats 4000000
attribute [local simp] bL aM aS aK aY aO bI tyC fdC vlC ndC aP D.dQ D.pt
mutual
def Vl.slim : Vl → Bool
 | .mk _ _ _ s ns is => decide (s.size ≤ 500) && decide (ns.length ≤ 60) && decide (is.length ≤ 60) && ns.all (fun x => decide (x.size ≤ 60)) && slims is
def slims : List Vl → Bool
 | [] => true
 | v :: r => v.slim && slims r
end
def Vl.few (v : Vl) : Bool := !(eY 12 [v] (400, false)).2 && v.slim
mutual
def Ty.narrow : Ty → Bool
 | .mk _ nm tg fs _ _ of l => decide (nm.size ≤ 60) && decide (tg.length ≤ 8) && decide (fs.length ≤ 40) && decide (of.length ≤ 4) && decide (l.length ≤ 40) && l.all (fun x => decide (x.s.size ≤ 500) && decide (x.args.length ≤ 5)) && qQ fs && qR of
def Fd.narrow : Fd → Bool
 | .mk nm _ t _ d _ => decide (nm.size ≤ 60) && decide (d.length ≤ 3) && t.narrow && d.all Vl.few
def qQ : List Fd → Bool
 | [] => true
 | f :: r => f.narrow && qQ r
def qR : List Ty → Bool
 | [] => true
 | t :: r => t.narrow && qR r
end
theorem yC (l : List Vl) : slims l = l.all Vl.slim := by
 induction l with
 | nil => rfl
 | cons a r ih => rw [slims, ih]; rfl
theorem aCT (l : List Fd) : qQ l = l.all Fd.narrow := by
 induction l with
 | nil => rw [qQ]; rfl
 | cons a r ih => rw [qQ, ih]; rfl
theorem aCU (l : List Ty) : qR l = l.all Ty.narrow := by
 induction l with
 | nil => rw [qR]; rfl
 | cons a r ih => rw [qR, ih]; rfl
theorem Vl.aCV (v : Vl) : v.slim = true ↔ v.s.size ≤ 500 ∧ v.names.length ≤ 60 ∧ v.items.length ≤ 60 ∧ (∀ x ∈ v.names, x.size ≤ 60) ∧ ∀ x ∈ v.items, x.slim = true := by
 cases v
 rw [Vl.slim, yC]
 simp [Vl.s, Vl.names, Vl.items, and_assoc]
theorem Fd.aR (f : Fd) : f.narrow = true ↔ f.name.size ≤ 60 ∧ f.dflt.length ≤ 3 ∧ f.ty.narrow = true ∧ ∀ x ∈ f.dflt, x.few = true := by
 cases f
 rw [Fd.narrow]
 simp [Fd.name, Fd.dflt, Fd.ty, and_assoc]
theorem Ty.aR (t : Ty) : t.narrow = true ↔ t.name.size ≤ 60 ∧ t.tags.length ≤ 8 ∧ t.fields.length ≤ 40 ∧ t.of.length ≤ 4 ∧ t.limits.length ≤ 40 ∧ (∀ x ∈ t.limits, x.s.size ≤ 500 ∧ x.args.length ≤ 5) ∧ (∀ f ∈ t.fields, f.narrow = true) ∧ ∀ o ∈ t.of, o.narrow = true := by
 cases t
 rw [Ty.narrow, aCT, aCU]
 simp [Ty.name, Ty.tags, Ty.fields, Ty.of, Ty.limits, and_assoc]
theorem Vl.yD : ∀ v : Vl, v.slim = true → v.fine := Vl.ind fun v IH h => by
 rw [Vl.aCV] at h
 rw [Vl.aX]
 obtain ⟨h1, h2, h3, h4, h5⟩ := h
 exact ⟨by omega, by simp [short]; omega, fun x hx => by have := h4 x hx; omega, by simp [short]; omega, fun x hx => IH x hx (h5 x hx)⟩
theorem Vl.vE {v : Vl} (h : v.few = true) : v.slim = true := by simp [Vl.few] at h; exact h.2
theorem Ty.iY : ∀ t : Ty, t.narrow = true → t.fine := Ty.ind fun t IH IHo h => by
 rw [Ty.aR] at h
 rw [Ty.aX]
 obtain ⟨h1, h2, h3, h4, h5, h6, h7, h8⟩ := h
 refine ⟨by omega, by simp [short]; omega, by simp [short]; omega, fun f hf => ?_, by simp [short]; omega, fun o ho => IHo o ho (h8 o ho), by simp [short]; omega, fun x hx => ?_⟩
 ·have := h7 f hf
  rw [Fd.aR] at this
  rw [Fd.aX]
  obtain ⟨g1, g2, g3, g4⟩ := this
  exact ⟨by omega, IH f hf g3, by simp [short]; omega, fun v hv => Vl.yD v (Vl.vE (g4 v hv))⟩
 ·have := h6 x hx
  exact ⟨by omega, by simp [short]; omega⟩
def qS (k : Int) : Bool := k == 9 || k == 10 || k == 13 || k == 15
mutual
def Ty.bS : Ty → Int
 | .mk k nm tg fs o r of l => if (Ty.mk k nm tg fs o r of l).bU != 0 then (Ty.mk k nm tg fs o r of l).bU else if (Ty.mk k nm tg fs o r of l).dN != 0 then (Ty.mk k nm tg fs o r of l).dN
   else if bG (qS k) fs != 0 then bG (qS k) fs else cR of
def Fd.gC (h : Bool) : Fd → Int
 | .mk _ _ t _ d _ => if h && t.bS != 0 then t.bS else bK d
def bG (h : Bool) : List Fd → Int
 | [] => 0
 | f :: r => if f.gC h != 0 then f.gC h else bG h r
def cR : List Ty → Int
 | [] => 0
 | t :: r => if t.bS != 0 then t.bS else cR r
end
theorem Ty.pO (t : Ty) : t.bS = if t.bU != 0 then t.bU else if t.dN != 0 then t.dN else if bG (qS t.kind) t.fields != 0 then bG (qS t.kind) t.fields else cR t.of := by
 cases t; rw [Ty.bS]; rfl
theorem Fd.rU (h : Bool) (f : Fd) : f.gC h = if h && f.ty.bS != 0 then f.ty.bS else bK f.dflt := by
 cases f; rw [Fd.gC]; rfl
end Go.Proofs.YtdpbobkcbakpfaaGreatDoor

namespace Go.Proofs.YtdpbobkcbakpfaaGreatDoor
open Go Go.Ab
set_option maxRecDepth 100000
set_option maxHeartbeats 4000000
attribute [local simp] bL aM aS aK aY aO bI tyC fdC vlC ndC aP D.dQ D.pt
theorem aM2 {P : Program} {n : Nat} {A : Exit → St → Prop} {ks : List KF} {id : Nat} {st : St} : cO P n A (.blk id :: ks) .ret st = cO P n A ks .ret st := rfl
attribute [local simp] c107r0 c107r1 c107r2 c107r3 c107t4 c107t5 c107r4 c107r5 c107r6 c107t9 c107t10 c107r7 c107r8 c107r9 c107r10 c107r11 c107r12 c107r13 c107t18 c107t19 c107t20 c107r14 c107r15 c107r16 c107r17 c107r18 c107r19 c107t27 c107t28 c107t29 c107r20 c107t31 c107t32 c107b33 c107t34 c107t35 c107t36 c107r21 c107t38 c107t39 c107b40 c107t41 c107r22 c107r23 c107r24 c107r25 c107r26 c107r27 c107t48 c107t49 c107t50 c107r28 c107t52 c107t53 c107b54 c107t55 c107r29 c107t57 c107t58 c107t59 c107t60 c107 in
theorem aM3 (f : Fd) (hl : short f.dflt) (hf : ∀ x ∈ f.dflt, x.fine) (A : Exit → St → Prop) (ks : List KF) (st : St) (id : Nat) (h6 : st.tmps 6 = .one (.ptr ⟨id, 0, 13, 0, 0⟩)) (hid : st.heap id = some (.arr 0 false 13 [fdC f])) (_h0 : 0 < st.nx)
  (hok : ∀ st', bK f.dflt = 0 → cH [1, 25, 26, 27] st.tmps st'.tmps → dX [0] st.heap st'.heap st'.nx → cO Tryz.prog 67 A ks .normal st')
  (hbad : ∀ st', bK f.dflt ≠ 0 → st'.tmps 2 = .one (.t (I (bK f.dflt))) → cO Tryz.prog 67 A ks .ret st') : aT Tryz.prog 67 A c107t35 ks st := by
 obtain ⟨o1, o2, o3, o4⟩ := aF hid
 simp -implicitDefEqProofs [-aA, -gval, h6, o1, o2, o3]
 refine dP f.dflt (fun _ r (_ : Unit) => bK r) (bK f.dflt) () [1, 25, 26, 27, 41, 42] [0] (fun i _ st => st.tmps 43 = .one (.t (I i))) hl rfl ⟨by simp, by simp, by simp []⟩ ?_ ?_
 ·intro i y _ st' hi hiI hw hg hy hR hx hk hh
  simp at hk hh
  rw [bK] at hR
  generalize bK f.dflt = R at *
  have hne : ∀ c, ¬ 0 = st'.nx + c + 1 := fun c => by omega
  simp -implicitDefEqProofs [-aA, -gval, hx, hk, hiI, hi, aE hg, Vl.aJ, -List.getElem_map]
  refine aD.tree (aUE y (hf y hy)) rfl ?_
  rcases eqCases y.fE 0 with e | e
  ·rw [e] at hR ⊢
   simp at hR
   simp -implicitDefEqProofs [-aA, -gval, hx, hk, hw]
   refine ⟨hR, ?_⟩
   simp only [Hp.set]; rw [if_neg (by omega)]; exact hh.1
  ·simp -implicitDefEqProofs [-aA, -gval, e]
   have : y.fE = R := by simpa [e] using hR
   exact hbad _ (by rw [← this]; exact e.2.1) (by simp [this])
 ·intro _ st' hR hx hk hh
  simp at hk hh
  rw [bK] at hR
  simp -implicitDefEqProofs [-aA, -gval, hx, hk]
  exact hok _ hR.symm (by simp [hk]) (by simp [hh])
attribute [local simp] c107r0 c107r1 c107r2 c107r3 c107t4 c107t5 c107r4 c107r5 c107r6 c107t9 c107t10 c107r7 c107r8 c107r9 c107r10 c107r11 c107r12 c107r13 c107t18 c107t19 c107t20 c107r14 c107r15 c107r16 c107r17 c107r18 c107r19 c107t27 c107t28 c107t29 c107r20 c107t31 c107t32 c107b33 c107t34 c107t35 c107t36 c107r21 c107t38 c107t39 c107b40 c107t41 c107r22 c107r23 c107r24 c107r25 c107r26 c107r27 c107t48 c107t49 c107t50 c107r28 c107t52 c107t53 c107b54 c107t55 c107r29 c107t57 c107t58 c107t59 c107t60 c107 in
theorem type57 (t : Ty) (hl : short t.of) (IH : ∀ x ∈ t.of, PSp Tryz.prog 107 [.agg (tyC x)] (.one (.t (I x.bS)))) (st : St) (h1 : TB t 1 st) (_hnx : 0 < st.nx) : aT Tryz.prog 67 (aC [.tmp 2] (.one (.t (I (cR t.of))))) c107t57 [] st := by
 obtain ⟨h1, h2⟩ := h1
 obtain ⟨o1, o2, o3, o4⟩ := aF h2
 simp -implicitDefEqProofs [-aA, -gval, h1, o1, o2, o3]
 refine dP t.of (fun _ r (_ : Unit) => cR r) (cR t.of) () [1, 55, 56] [] (fun i _ st => st.tmps 57 = .one (.t (I i))) hl rfl ⟨by simp, by simp, by simp⟩ ?_ ?_
 ·intro i y _ st hi hiI hw hg hy hR hx hk hh
  simp [h1] at hk
  rw [cR] at hR
  generalize cR t.of = R at *
  simp -implicitDefEqProofs [-aA, -gval, hx, hk, hiI, hi, aE hg, Ty.aJ, -List.getElem_map]
  refine aD.tree (IH y hy) rfl ?_
  rcases eqCases y.bS 0 with e | e
  ·rw [e] at hR ⊢
   simp at hR
   simp -implicitDefEqProofs [-aA, -gval, hx, hk, hw, h1]
   exact hR
  ·simp -implicitDefEqProofs [-aA, -gval, e, aC]
   simpa [e] using hR
 ·intro _ st hR hx hk hh
  simp [h1] at hk
  rw [cR] at hR
  generalize cR t.of = R at *
  simp -implicitDefEqProofs [-aA, -gval, hx, hk, aC]
  exact hR
attribute [local simp] c107r0 c107r1 c107r2 c107r3 c107t4 c107t5 c107r4 c107r5 c107r6 c107t9 c107t10 c107r7 c107r8 c107r9 c107r10 c107r11 c107r12 c107r13 c107t18 c107t19 c107t20 c107r14 c107r15 c107r16 c107r17 c107r18 c107r19 c107t27 c107t28 c107t29 c107r20 c107t31 c107t32 c107b33 c107t34 c107t36 c107r21 c107t38 c107t39 c107b40 c107t41 c107r22 c107r23 c107r24 c107r25 c107r26 c107r27 c107t48 c107t49 c107t50 c107r28 c107t52 c107t53 c107b54 c107t55 c107r29 c107t58 c107t59 c107t60 c107 in
theorem type58 (t : Ty) (hn : t.narrow = true) (IHf : ∀ x ∈ t.fields, PSp Tryz.prog 107 [.agg (tyC x.ty)] (.one (.t (I x.ty.bS)))) (IH : ∀ x ∈ t.of, PSp Tryz.prog 107 [.agg (tyC x)] (.one (.t (I x.bS)))) (b : Bool) (hb : qS t.kind = b) (R : Int) (hR0 : (if bG b t.fields != 0 then bG b t.fields else cR t.of) = R) (st : St) (h1 : TB t 1 st) (_hnx : 0 < st.nx) :
  aT Tryz.prog 67 (aC [.tmp 2] (.one (.t (I R)))) c107t58 [] st := by
 have hfine := Ty.iY t hn
 rw [Ty.aX] at hfine
 obtain ⟨g1, g2, g3, g4, g5, g6, g7, g8⟩ := hfine
 have rest := type57 t g5 IH
 obtain ⟨h1, h2⟩ := h1
 obtain ⟨o1, o2, o3, o4⟩ := aF h2
 simp -implicitDefEqProofs [-aA, -gval, h1, o1, o2, o3]
 refine dP t.fields (fun _ r (_ : Unit) => if bG b r != 0 then bG b r else cR t.of) R () [1, 25, 26] [0] (fun i _ st => st.tmps 27 = .one (.t (I i))) g3 hR0 ⟨by simp, by simp, by simp []⟩ ?_ ?_
 ·intro i f _ st' hi hiI hw hg hy hR hx hk hh
  simp [h1] at hk hh
  rw [bG] at hR
  have hfo := g4 f hy
  rw [Fd.aX] at hfo
  have hne : ¬ 0 = st'.nx + 1 + 2 := by omega
  obtain ⟨o1, o2, o3, o4⟩ := aF (hh.1.trans h2)
  have hib : qS t.kind = (t.kind == 9 || t.kind == 10 || t.kind == 13 || t.kind == 15) := rfl
  simp -implicitDefEqProofs [-aA, -gval, hx, hk, hiI, hi, aE hg, Fd.aJ, o1, o2, o3, -List.getElem_map]
  refine aD.tree (aSX _) rfl ?_
  rw [← hib, hb]
  rw [Fd.rU] at hR
  obtain ⟨e1, he1⟩ : ∃ e, (if b && f.ty.bS != 0 then f.ty.bS else 0) = e := ⟨_, rfl⟩
  have fin : ∀ (J : St → Prop) (st2 : St), st2.tmps 6 = .one (.ptr ⟨st'.nx + 1 + 2, 0, 13, 0, 0⟩) → st2.heap (st'.nx + 1 + 2) = some (.arr 0 false 13 [fdC f]) → st2.heap 0 = st.heap 0 → st'.nx < st2.nx → cH [1, 25, 26, 27] st'.tmps st2.tmps → (b && f.ty.bS != 0) = false →
    (∀ st'' : St, (if bG b (t.fields.drop (i + 1)) != 0 then bG b (t.fields.drop (i + 1)) else cR t.of) = R → st''.tmps 27 = .one (.t (I ((i : Int) + 1))) → cH [1, 25, 26] st'.tmps st''.tmps → st''.heap 0 = st.heap 0 → 0 < st''.nx → J st'') →
    aT Tryz.prog 67 (aC [.tmp 2] (.one (.t (I R)))) c107t35 [.blk 1, .thn (.region 21 false 2 c107r21), .post J, .blk 0, .thn c107t57] st2 := by
   intro J st2 k6 kid k0 knx kt hno hJ
   simp at kt
   rw [hno] at hR
   simp only [Bool.false_eq_true, if_false] at hR
   refine aM3 f hfo.2.2.1 hfo.2.2.2 _ _ st2 _ k6 kid (by omega) (fun st3 hz kt3 kh3 => ?_) fun st3 hz k2 => ?_
   ·rw [hz] at hR
    simp at kt3 kh3
    simp -implicitDefEqProofs [-aA, -gval, kt3, kt, hx, hw]
    refine hJ _ (by simpa using hR) (by simp) (by simp [kt3, kt]) (by simp [kh3, k0]) (by simp)
   ·have : bK f.dflt = R := by simpa [hz] using hR
    simp -implicitDefEqProofs [-aA, -gval, aC, k2, this]
  have hid : ∀ o : O, ((st'.heap.set (st'.nx + 1 + 2) o) (st'.nx + 1 + 2)) = some o := fun o => by simp [Hp.set]
  have hk0 : ∀ o : O, ((st'.heap.set (st'.nx + 1 + 2) o) 0) = st.heap 0 := fun o => by simp only [Hp.set]; rw [if_neg hne]; exact hh.1
  cases b
  ·simp -implicitDefEqProofs [-aA, -gval]
   refine fin _ _ (by simp) (by simp [hid]) (by simp [hk0]) (by simp; omega) (by simp) rfl fun st'' a1 a2 a3 a4 a5 => ?_
   simp [hk] at a3
   simp [a2, a3, a4, a5]
   exact ⟨by simpa using a1, h1.symm⟩
  ·simp -implicitDefEqProofs [-aA, -gval]
   refine aD.tree (IHf f hy) rfl ?_
   rcases eqCases f.ty.bS 0 with e | e
   ·simp -implicitDefEqProofs [-aA, -gval, e]
    refine fin _ _ (by simp) (by simp [hid]) (by simp [hk0]) (by simp; omega) (by simp) (by simp [e]) fun st'' a1 a2 a3 a4 a5 => ?_
    simp [hk] at a3
    simp [a2, a3, a4, a5]
    exact ⟨by simpa using a1, h1.symm⟩
   ·simp -implicitDefEqProofs [-aA, -gval, e, aC]
    simpa [e] using hR
 ·intro _ st' hR hx hk hh
  simp [h1] at hk hh
  rw [bG] at hR
  simp only [bne_self_eq_false, Bool.false_eq_true, if_false] at hR
  rw [← hR]
  simp -implicitDefEqProofs [-aA, -gval, hx, hk]
  exact rest _ ⟨by simp [hk], by simp [hh.1, h2]⟩ (by simp)
theorem vF (t : Ty) (h : t.bU = 0) : 0 ≤ t.root ∧ t.root ≤ t.fields.length := by
 cases t
 simp only [Ty.bU, Ty.root, Ty.fields] at h ⊢
 split at h
 ·cases h
 ·split at h
  ·cases h
  ·split at h
   ·cases h
   ·rename_i hh
    simp at hh
    exact hh.2
attribute [local simp] c107r0 c107r1 c107r2 c107r3 c107t4 c107t5 c107r4 c107r5 c107r6 c107t9 c107t10 c107r7 c107r8 c107r9 c107r10 c107r11 c107r12 c107r13 c107t18 c107t19 c107t20 c107r14 c107r15 c107r16 c107r17 c107r18 c107r19 c107t27 c107t28 c107t29 c107r20 c107t31 c107t32 c107b33 c107t34 c107t35 c107t36 c107r21 c107t38 c107t39 c107b40 c107t41 c107r22 c107r23 c107r24 c107r25 c107r26 c107r27 c107t48 c107t49 c107t50 c107r28 c107t52 c107t53 c107b54 c107t55 c107r29 c107t57 c107t59 c107t60 c107 in
theorem aM4 (t : Ty) (hn : t.narrow = true) (IHf : ∀ x ∈ t.fields, PSp Tryz.prog 107 [.agg (tyC x.ty)] (.one (.t (I x.ty.bS)))) (IH : ∀ x ∈ t.of, PSp Tryz.prog 107 [.agg (tyC x)] (.one (.t (I x.bS)))) : PSp Tryz.prog 107 [.agg (tyC t)] (.one (.t (I t.bS))) := by
 have hfine := Ty.iY t hn
 have hfine' := hfine
 rw [Ty.aX] at hfine'
 obtain ⟨g1, g2, g3, g4, g5, g6, g7, g8⟩ := hfine'
 have hna := ((Ty.aR t).1 hn).2.2.2.2.2.1
 rw [Ty.pO]
 have rest := type58 t hn IHf IH _ rfl _ rfl
 have aQV := aT6 t hfine
 rw [aJS] at aQV
 refine k107.aG (by simp) (by simp [D.closed, A.closed]) rfl ?_
 generalize (if bG (qS t.kind) t.fields != 0 then bG (qS t.kind) t.fields else cR t.of) = R at *
 simp -implicitDefEqProofs [-aA, -gval]
 refine aD.tree aQV rfl ?_
 have hroot := vF t
 generalize t.bU = e1 at *
 rcases eqCases e1 0 with q | q
 ·obtain ⟨r0, r1⟩ := hroot q
  have aUF := aTX t g3 (fun x hx => by have := (hna x hx).2; omega) g1 (fun f hf => by have := g4 f hf; rw [Fd.aX] at this; exact this.1) r0 r1
  simp -implicitDefEqProofs [-aA, -gval, q]
  refine aD.tree aUF rfl ?_
  generalize t.dN = e2 at *
  rcases eqCases e2 0 with q2 | q2
  ·simp -implicitDefEqProofs [-aA, -gval, q2]
   exact rest _ ⟨by simp, by simp [Hp.set]⟩ (by simp)
  ·simp -implicitDefEqProofs [-aA, -gval, q2, aC]
 ·simp -implicitDefEqProofs [-aA, -gval, q, aC]
theorem aUG : ∀ t : Ty, t.narrow = true → PSp Tryz.prog 107 [.agg (tyC t)] (.one (.t (I t.bS))) :=
 Ty.ind fun t IHf IH hn => by
  have h := (Ty.aR t).1 hn
  exact aM4 t hn (fun x hx => IHf x hx ((Fd.aR x).1 (h.2.2.2.2.2.2.1 x hx)).2.2.1) fun x hx => IH x hx (h.2.2.2.2.2.2.2 x hx)
def Ty.check (t : Ty) : Int := if (t.sz 9 (60, false)).2 then 2 else t.bS
attribute [local simp] c59t5 c59t6 c59t8 c59t9 c59 in
theorem P59 (t : Ty) (hn : t.narrow = true) : PSp Tryz.prog 59 [.agg (tyC t)] (.one (.t (I t.check))) := by
 have hfine := Ty.iY t hn
 have k106 := aAO t hfine
 rw [aJS] at k106
 refine k59.aG (by simp) (by simp [D.closed, A.closed]) rfl ?_
 have e0 : t.check = if (t.sz 9 (60, false)).2 then 2 else t.bS := rfl
 rw [e0]
 simp -implicitDefEqProofs [-aA, -gval]
 refine aD.imp (ISp.ok fun ho => k106 _ _ _ 9 (60, false) ho (by simp [tQ, aAM])) ?_
 obtain ⟨⟨s1, s2⟩, hs⟩ : ∃ s, t.sz 9 (60, false) = s := ⟨_, rfl⟩
 rw [hs]
 cases s2
 ·simp -implicitDefEqProofs [-aA, -gval, cQ, hs]
  refine aD.tree (aUG t hn) rfl ?_
  simp -implicitDefEqProofs [-aA, -gval, aC]
 ·simp -implicitDefEqProofs [-aA, -gval, cQ, hs, aC]
end Go.Proofs.YtdpbobkcbakpfaaGreatDoor

namespace Go.Proofs.YtdpbobkcbakpfaaGreatDoor
open Go Go.Ab
set_option maxRecDepth 100000
set_option maxHeartbeats 4000000
attribute [local simp] bL aM aS aK aY aO bI tyC fdC vlC ndC aP D.dQ D.pt
theorem Ty.sR (lv : Int) (t : Ty) (s : Sz) : t.sz lv s = if (bJ lv s).2 then bJ lv s else kJ (wr (lv - 1)) t.of (kV (wr (lv - 1)) t.fields (bJ lv s)) := by
 cases t; rw [Ty.sz]; rfl
theorem Fd.sR (lv : Int) (f : Fd) (s : Sz) : f.sz lv s = eY lv f.dflt (f.ty.sz lv s) := by cases f; rw [Fd.sz]; rfl
def SB (h : Hp) (n0 id : Nat) (t : Ty) (lv : Int) (s : Sz) (st : St) : Prop := SzH h n0 id s st.heap st.nx ∧ st.heap n0 = some (.arr 0 false 8 [tyC t]) ∧ n0 < st.nx ∧ st.tmps 0 = .one (.ptr ⟨id, 0, 2, 0, 0⟩) ∧ st.tmps 2 = .one (.t (I lv)) ∧ st.tmps 4 = .one (.ptr ⟨n0, 0, 8, 0, 0⟩)
attribute [local simp] c57t2 c57t5 c57t9 c57b12 c57t13 c57t14 c57t16 c57b17 c57t18 c57t21 c57b24 c57t25 c57t26 c57t27 c57t28 c57 in
theorem aM5 (h : Hp) (n0 id : Nat) (t : Ty) (lv : Int) (R : Sz) (hl : short t.of) (ho : aN h n0) (IH : ∀ x ∈ t.of, iW 57 (.agg (tyC x)) fun lv s => x.sz lv s) (s0 : Sz) (hR : kJ (wr (lv - 1)) t.of s0 = R) (st : St) (hs : SB h n0 id t lv s0 st) :
  aT Tryz.prog 91 (jF [] (.tup []) (cQ h id R) n0) c57t26 [] st := by
 obtain ⟨k, hb, hnx, j0, j2, j4⟩ := hs
 have hlt := k.lt
 simp -implicitDefEqProofs [-aA, -gval, -Prod.exists, -Bool.exists_bool]
 refine dP t.of (fun _ r s => kJ (wr (lv - 1)) r s) R s0 [] [] (fun i s st => SB h n0 id t lv s st ∧ st.tmps 8 = .one (.t (I i))) hl hR ⟨⟨⟨k.more (by simp <;> omega), hb, by simp <;> omega, by simp [j0], by simp [j2], by simp [j4]⟩, by simp⟩, by simp, by simp⟩ ?_ ?_
 ·rintro i y s st hi hiI hw hg hy hR ⟨⟨k, hb, hnx, j0, j2, j4⟩, j8⟩ _ _
  obtain ⟨o1, o2, o3, o4⟩ := aF k.obj
  obtain ⟨p1, p2, p3, p4⟩ := aF hb
  rw [kJ] at hR
  obtain ⟨sl, sb⟩ := s
  cases sb
  ·simp only [Bool.false_eq_true, if_false] at hR
   simp -implicitDefEqProofs [-aA, -gval, -Prod.exists, -Bool.exists_bool, j0, j2, j4, j8, hi, hiI, o1, o2, o3, p1, p2, p3, aE hg, Ty.aJ, -List.getElem_map]
   refine aD.imp (ISp.ok fun ho' => IH y hy _ _ id _ _ ho' k.obj) ?_
   have hne : ¬ n0 = id := by have := k.lt; omega
   simp -implicitDefEqProofs [-aA, -gval, -Prod.exists, -Bool.exists_bool, j8, hw]
   refine ⟨_, hR, k.put.more (by simp <;> omega), ?_, by simp <;> omega, by simp [j0], by simp [j2], by simp [j4]⟩
   simp only [cQ, Hp.set]; rw [if_neg hne]; exact hb
  ·simp only [if_true] at hR
   simp -implicitDefEqProofs [-aA, -gval, -Prod.exists, -Bool.exists_bool, j0, j4, j8, hiI, o1, o2, o3, p1, p2, p3]
   exact dM (.inl rfl) (k.fin hR) (okS ho hlt)
 ·rintro s st hR ⟨⟨k, hb, hnx, j0, j2, j4⟩, j8⟩ _ _
  obtain ⟨p1, p2, p3, p4⟩ := aF hb
  rw [kJ] at hR
  simp -implicitDefEqProofs [-aA, -gval, -Prod.exists, -Bool.exists_bool, j0, j4, j8, p1, p2, p3]
  exact dM (.inl rfl) (k.fin hR) (okS ho hlt)
attribute [local simp] c57t2 c57t5 c57t9 c57b12 c57t13 c57t14 c57t16 c57b17 c57t18 c57t21 c57b24 c57t25 c57t27 c57t28 c57 in
theorem aM6 (h : Hp) (n0 id : Nat) (t : Ty) (lv : Int) (R : Sz) (ht : t.fine) (ho : aN h n0) (IHf : ∀ x ∈ t.fields, iW 57 (.agg (tyC x.ty)) fun lv s => x.ty.sz lv s) (IH : ∀ x ∈ t.of, iW 57 (.agg (tyC x)) fun lv s => x.sz lv s) (s0 : Sz) (hR : kJ (wr (lv - 1)) t.of (kV (wr (lv - 1)) t.fields s0) = R) (st : St) (hs : SB h n0 id t lv s0 st) :
  aT Tryz.prog 91 (jF [] (.tup []) (cQ h id R) n0) c57t27 [] st := by
 rw [Ty.aX] at ht
 obtain ⟨g1, g2, g3, g4, g5, g6, g7, g8⟩ := ht
 have rest := aM5 h n0 id t lv R g5 ho IH
 obtain ⟨k, hb, hnx, j0, j2, j4⟩ := hs
 have hlt := k.lt
 have hne : ¬ n0 = id := by omega
 simp -implicitDefEqProofs [-aA, -gval, -Prod.exists, -Bool.exists_bool]
 refine dP t.fields (fun _ r s => kJ (wr (lv - 1)) t.of (kV (wr (lv - 1)) r s)) R s0 [] [] (fun i s st => SB h n0 id t lv s st ∧ st.tmps 6 = .one (.t (I i))) g3 hR ⟨⟨⟨k.more (by simp <;> omega), hb, by simp <;> omega, by simp [j0], by simp [j2], by simp [j4]⟩, by simp⟩, by simp, by simp⟩ ?_ ?_
 ·rintro i f s st hi hiI hw hg hy hR ⟨⟨k, hb, hnx, j0, j2, j4⟩, j6⟩ _ _
  obtain ⟨o1, o2, o3, o4⟩ := aF k.obj
  obtain ⟨p1, p2, p3, p4⟩ := aF hb
  have hfo := g4 f hy
  rw [Fd.aX] at hfo
  obtain ⟨_, _, f3, f4⟩ := hfo
  obtain ⟨sl, sb⟩ := s
  cases sb
  ·rw [kV, if_neg (by simp), Fd.sR] at hR
   simp -implicitDefEqProofs [-aA, -gval, -Prod.exists, -Bool.exists_bool, j0, j2, j4, j6, hi, hiI, o1, o2, o3, p1, p2, p3, aE hg, Fd.aJ, -List.getElem_map]
   refine aD.imp (ISp.ok fun ho' => IHf f hy _ _ id _ _ ho' k.obj) ?_
   have k2 := k.put (s' := f.ty.sz (wr (lv - 1)) (sl, false))
   have hb2 : (cQ st.heap id (f.ty.sz (wr (lv - 1)) (sl, false))) n0 = some (.arr 0 false 8 [tyC t]) := by simp only [cQ, Hp.set]; rw [if_neg hne]; exact hb
   show zT _ _ _ _ _ (cQ st.heap id (f.ty.sz (wr (lv - 1)) (sl, false)))
   generalize cQ st.heap id (f.ty.sz (wr (lv - 1)) (sl, false)) = h2 at *
   simp -implicitDefEqProofs [-aA, -gval, -Prod.exists, -Bool.exists_bool]
   refine dP f.dflt (fun _ r s => kJ (wr (lv - 1)) t.of (kV (wr (lv - 1)) (t.fields.drop (i + 1)) (eY (wr (lv - 1)) r s))) R _ [] [] (fun j s st => SB h n0 id t lv s st ∧ st.tmps 6 = .one (.t (I i)) ∧ st.tmps 7 = .one (.t (I j))) f3 hR ⟨⟨⟨k2.more (by simp <;> omega), hb2, by simp <;> omega, by simp [j0], by simp [j2], by simp [j4]⟩, by simp [j6], by simp⟩, by simp, by simp⟩ ?_ ?_
   ·rintro j v s st hj hjI hwj hgv hyv hR ⟨⟨k, hb, hnx, j0, j2, j4⟩, j6, j7⟩ _ _
    obtain ⟨o1, o2, o3, o4⟩ := aF k.obj
    obtain ⟨p1, p2, p3, p4⟩ := aF hb
    obtain ⟨sl, sb⟩ := s
    cases sb
    ·rw [eY, if_neg (by simp)] at hR
     simp -implicitDefEqProofs [-aA, -gval, -Prod.exists, -Bool.exists_bool, j0, j2, j4, j6, j7, hi, hiI, hj, hjI, o1, o2, o3, p1, p2, p3, aE hg, aE hgv, Fd.aJ, Vl.aJ, -List.getElem_map]
     have v105 := qO v (f4 v hyv)
     rw [aAR] at v105
     refine aD.imp (ISp.ok fun ho' => v105 _ _ id _ _ ho' k.obj) ?_
     simp -implicitDefEqProofs [-aA, -gval, -Prod.exists, -Bool.exists_bool, j7, hwj]
     refine ⟨_, hR, ⟨k.put.more (by simp <;> omega), ?_, by simp <;> omega, by simp [j0], by simp [j2], by simp [j4]⟩, by simp [j6]⟩
     simp only [cQ, Hp.set]; rw [if_neg hne]; exact hb
    ·rw [nJ (by simp)] at hR
     simp -implicitDefEqProofs [-aA, -gval, -Prod.exists, -Bool.exists_bool, j0, j4, j6, j7, hi, hiI, hjI, hw, o1, o2, o3, p1, p2, p3, aE hg, Fd.aJ, -List.getElem_map]
     exact ⟨_, hR, k.more (by simp <;> omega), hb, by simp <;> omega, by simp [j0], by simp [j2], by simp [j4]⟩
   ·rintro s st hR ⟨⟨k, hb, hnx, j0, j2, j4⟩, j6, j7⟩ _ _
    obtain ⟨p1, p2, p3, p4⟩ := aF hb
    rw [eY] at hR
    simp -implicitDefEqProofs [-aA, -gval, -Prod.exists, -Bool.exists_bool, j0, j4, j6, j7, hi, hiI, hw, p1, p2, p3, aE hg, Fd.aJ, -List.getElem_map]
    exact ⟨_, hR, k.more (by simp <;> omega), hb, by simp <;> omega, by simp [j0], by simp [j2], by simp [j4]⟩
  ·rw [uV (by simp)] at hR
   simp -implicitDefEqProofs [-aA, -gval, -Prod.exists, -Bool.exists_bool, j0, j4, j6, hiI, o1, o2, o3, p1, p2, p3]
   exact rest _ hR _ ⟨k.more (by simp <;> omega), hb, by simp <;> omega, by simp [j0], by simp [j2], by simp [j4]⟩
 ·rintro s st hR ⟨⟨k, hb, hnx, j0, j2, j4⟩, j6⟩ _ _
  obtain ⟨p1, p2, p3, p4⟩ := aF hb
  rw [kV] at hR
  simp -implicitDefEqProofs [-aA, -gval, -Prod.exists, -Bool.exists_bool, j0, j4, j6, p1, p2, p3]
  exact rest _ hR _ ⟨k.more (by simp <;> omega), hb, by simp <;> omega, by simp [j0], by simp [j2], by simp [j4]⟩
attribute [local simp] c57t2 c57t5 c57t9 c57b12 c57t13 c57t14 c57t16 c57b17 c57t18 c57t21 c57b24 c57t25 c57t26 c57t28 c57 in
theorem aOG (t : Ty) (ht : t.fine) (IHf : ∀ x ∈ t.fields, iW 57 (.agg (tyC x.ty)) fun lv s => x.ty.sz lv s) (IH : ∀ x ∈ t.of, iW 57 (.agg (tyC x)) fun lv s => x.sz lv s) : iW 57 (.agg (tyC t)) fun lv s => t.sz lv s := by
 intro h n0 id lv s ho hid
 have hlt := fK ho hid
 show ISp _ _ _ _ _ _ (cQ h id (t.sz lv s))
 rw [Ty.sR]
 have rest := aM6 h n0 id t lv _ ht ho IHf IH (bJ lv s) rfl
 refine k57.kU (by simp) ?_
 have k0 : SzH h n0 id s h n0 := ⟨ho, hid, hlt, Nat.le_refl _, fun _ _ _ => rfl⟩
 have k1 := (k0.more (nx' := n0 + 1) (by omega)).own (a := n0) (o := .arr 0 false 8 [tyC t]) (Nat.le_refl _) (by omega) (by simp [O.below, A.below])
 simp -implicitDefEqProofs [-aA, -gval, -Prod.exists, -Bool.exists_bool]
 refine aD.imp (ISp.ok fun ho' => aGC _ _ id lv s ho' k1.obj) ?_
 have k2 := k1.put (s' := bJ lv s)
 have hb2 : (cQ (h.set n0 (.arr 0 false 8 [tyC t])) id (bJ lv s)) n0 = some (.arr 0 false 8 [tyC t]) := by
  simp only [cQ, Hp.set]; rw [if_neg (by omega)]; simp
 show zT _ _ _ _ _ (cQ (h.set n0 (.arr 0 false 8 [tyC t])) id (bJ lv s))
 generalize cQ (h.set n0 (.arr 0 false 8 [tyC t])) id (bJ lv s) = h2 at *
 cases hb : (bJ lv s).2 with
 | true =>
  simp -implicitDefEqProofs [-aA, -gval, -Prod.exists, -Bool.exists_bool]
  exact dM (.inr rfl) (k2.fin (by simp)) (okS ho hlt)
 | false =>
  simp -implicitDefEqProofs [-aA, -gval, -Prod.exists, -Bool.exists_bool]
  exact rest _ ⟨k2.more (by simp <;> omega), hb2, by simp <;> omega, by simp, by simp, by simp⟩
theorem P57 : ∀ t : Ty, t.fine → iW 57 (.agg (tyC t)) fun lv s => t.sz lv s :=
 Ty.ind fun t IHf IH ht => by
  have h := (Ty.aX t).1 ht
  exact aOG t ht (fun x hx => IHf x hx ((Fd.aX x).1 (h.2.2.2.1 x hx)).2.1) fun x hx => IH x hx (h.2.2.2.2.2.1 x hx)
attribute [local simp] c112 in
theorem aUH (t : Ty) (m : Int) (ht : t.fine) : PSp Tryz.prog 112 [.agg (tyC t), .one (.t (I m))] (.one (.t (.bool (!(t.sz 9 (m, false)).2)))) := by
 have k57 := P57 t ht
 refine k112.aG (by simp) (by simp [D.closed, A.closed]) rfl ?_
 simp -implicitDefEqProofs [-aA, -gval]
 refine aD.imp (ISp.ok fun ho => k57 _ _ _ 9 (m, false) ho (by simp [tQ, aAM])) ?_
 obtain ⟨⟨s1, s2⟩, hs⟩ : ∃ s, t.sz 9 (m, false) = s := ⟨_, rfl⟩
 rw [hs]
 simp -implicitDefEqProofs [-aA, -gval, cQ, hs, aC]
attribute [local simp] c126 in
theorem aUI (v : Vl) (m : Int) (hv : v.fine) : PSp Tryz.prog 126 [.agg (vlC v), .one (.t (I m))] (.one (.t (.bool (!(v.sz 8 (m, false)).2)))) := by
 have k105 := qO v hv
 rw [aAR] at k105
 refine k126.aG (by simp) (by simp [D.closed, A.closed]) rfl ?_
 simp -implicitDefEqProofs [-aA, -gval]
 refine aD.imp (ISp.ok fun ho => k105 _ _ _ 8 (m, false) ho (by simp [tQ, aAM])) ?_
 obtain ⟨⟨s1, s2⟩, hs⟩ : ∃ s, v.sz 8 (m, false) = s := ⟨_, rfl⟩
 rw [hs]
 simp -implicitDefEqProofs [-aA, -gval, cQ, hs, aC]
end Go.Proofs.YtdpbobkcbakpfaaGreatDoor

