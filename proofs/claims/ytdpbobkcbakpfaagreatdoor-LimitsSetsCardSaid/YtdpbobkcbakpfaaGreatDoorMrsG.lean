/- Texts of this proof, laid one behind the other (Rg1, Rg2, Is0, Rg3, Rg4, Rg5, Ow, Cv, Fm, Fm2, Fm3, Fm4, Fm5, Wi, Pv, Szp, Wn, Al, Lm, Tn, Tn2, Cp, Cp2). -/
import Derived.Test.YtdpbobkcbakpfaaGreatDoorMrsF
namespace Go.Proofs.YtdpbobkcbakpfaaGreatDoor
open Go Go.Ab
set_option maxRecDepth 100000
set_option maxHeartbeats 4000000
attribute [local simp] bL aM aS aK aY aO bI tyC fdC vlC ndC aP D.dQ D.pt
theorem aCW (k : Int) : ([2, 4, 5, 6, 11, 12, 15].any fun x => x == k) = fZ k := by
 rw [Bool.eq_iff_iff]; simp [fZ]; omega
attribute [local simp] c236 in
theorem aUJ (k : Int) : PSp Tryz.prog 236 [.one (.t (I k))] (.one (.t (.bool (fZ k)))) := by
 refine k236.aG (by simp) rfl rfl ?_
 rw [← aCW]
 simp -implicitDefEqProofs [-aA, -gval]
 refine aD.pure (P46 [2, 4, 5, 6, 11, 12, 15] k (by simp [short])) (by simp) (by simp [ints]) ?_
 simp -implicitDefEqProofs [-aA, -gval, aC]
theorem aM7 (k : Int) : PSp Tryz.prog 235 [.one (.t (I k))] (.one (.t (.bool (bR k)))) := aSY k
attribute [local simp] c237 in
theorem aUK (t : Ty) (hn : t.narrow = true) : PSp Tryz.prog 237 [.agg (tyC t)] (.one (.t (.bool t.isZ))) := by
 have h := (Ty.aR t).1 hn
 obtain ⟨_, h2, h3, h4, h5, _⟩ := h
 have w1 : IntKind.i64.wrap ((t.tags.length : Int) + (t.fields.length : Int)) = ((t.tags.length + t.fields.length : Nat) : Int) := bZ _ (by omega) (by omega)
 have w2 : IntKind.i64.wrap ((t.tags.length : Int) + (t.fields.length : Int) + (t.of.length : Int)) = ((t.tags.length + t.fields.length + t.of.length : Nat) : Int) := bZ _ (by omega) (by omega)
 have w3 : IntKind.i64.wrap ((t.tags.length : Int) + (t.fields.length : Int) + (t.of.length : Int) + (t.limits.length : Int)) = ((t.tags.length + t.fields.length + t.of.length + t.limits.length : Nat) : Int) := bZ _ (by omega) (by omega)
 obtain ⟨z, hz⟩ : ∃ z, ((((t.tags.length + t.fields.length + t.of.length + t.limits.length : Nat) : Int)) == 0) = z := ⟨_, rfl⟩
 have e0 : t.isZ = (t.kind == 0 && bF t.name (bs []) && z && !t.opn && t.root == 0) := by
  rw [← hz, Bool.eq_iff_iff]
  simp [Ty.isZ, -List.length_eq_zero_iff]
  constructor
  ·rintro ⟨⟨⟨⟨⟨⟨⟨a, b⟩, c⟩, d⟩, e⟩, f⟩, g⟩, i⟩
   exact ⟨⟨⟨⟨a, b⟩, by omega⟩, e⟩, f⟩
  ·rintro ⟨⟨⟨⟨a, b⟩, c⟩, e⟩, f⟩
   exact ⟨⟨⟨⟨⟨⟨⟨a, b⟩, by omega⟩, by omega⟩, e⟩, f⟩, by omega⟩, by omega⟩
 rw [e0]
 refine k237.aG (by simp) (by simp [D.closed, A.closed]) rfl ?_
 simp -implicitDefEqProofs [-aA, -gval, aC, bF, w1, w2, w3]
 rw [← hz]
 push_cast
 rfl
def Ty.dS (t : Ty) : Bool := t.tags.any mA || t.fields.any Fd.eJ || !(decide (0 ≤ t.root) && decide (t.root ≤ (t.fields.length : Int)))
theorem Fd.sS (f : Fd) : f.eJ = (!(decide (0 ≤ f.pres) && decide (f.pres ≤ 2)) || decide (f.grp < 0)) := by cases f; rfl
attribute [local simp] c195t3 c195t7 c195t8 c195t10 c195b11 c195t12 c195t15 c195t18 c195t20 c195b21 c195t22 c195t24 c195t25 c195 in
theorem aJY (t : Ty) (hn : t.narrow = true) (st : St) (h1 : TB t 1 st) (_hnx : 0 < st.nx) : aT Tryz.prog 65 (aC [.tmp 2] (.one (.t (.bool (t.fields.any Fd.eJ || !(decide (0 ≤ t.root) && decide (t.root ≤ (t.fields.length : Int)))))))) c195t24 [] st := by
 have h := (Ty.aR t).1 hn
 obtain ⟨_, h2', h3, h4, h5, _⟩ := h
 obtain ⟨h1, h2⟩ := h1
 obtain ⟨o1, o2, o3, o4⟩ := aF h2
 obtain ⟨w, hw⟩ : ∃ w, (decide (0 ≤ t.root) && decide (t.root ≤ (t.fields.length : Int))) = w := ⟨_, rfl⟩
 rw [hw]
 simp -implicitDefEqProofs [-aA, -gval]
 refine bB t.fields Fd.eJ [1] [0] (fun i st => st.tmps 5 = .one (.t (I i))) (by simp [short]; omega) ⟨by simp, by simp, by simp []⟩ ?_ ?_
 ·intro i f st' hi hiI hw' hg hy hany hx hk hh
  simp [h1] at hk hh
  obtain ⟨o1, o2, o3, o4⟩ := aF (hh.1.trans h2)
  rw [Fd.sS] at hany ⊢
  simp -implicitDefEqProofs [-aA, -gval, h1, hx, hk, hi, hiI, o1, o2, o3, aE hg, Fd.aJ, -List.getElem_map]
  refine aD.tree (dC _ _ _) rfl ?_
  obtain ⟨a, ha⟩ : ∃ a, (decide (0 ≤ f.pres) && decide (f.pres ≤ 2)) = a := ⟨_, rfl⟩
  rw [ha] at hany ⊢
  rcases bb a with rfl | rfl
  ·rcases oH f.grp 0 with q | q
   ·simp -implicitDefEqProofs [-aA, -gval, hk, hx, hi, hiI, o1, o2, o3, aE hg, Fd.aJ, -List.getElem_map, q, aC]
    left; simpa using hany (by simp [q])
   ·simp -implicitDefEqProofs [-aA, -gval, hk, hx, hi, hiI, hw', o1, o2, o3, aE hg, Fd.aJ, -List.getElem_map, q]
    exact ⟨by simpa using ha, hh.1⟩
  ·simp -implicitDefEqProofs [-aA, -gval, aC]
   left; simpa using hany (by simp)
 ·intro st' hany hx hk hh
  simp [h1] at hk hh
  obtain ⟨o1, o2, o3, o4⟩ := aF (hh.1.trans h2)
  rw [hany]
  simp -implicitDefEqProofs [-aA, -gval, hk, hx, o1, o2, o3]
  refine aD.tree (dC _ _ _) rfl ?_
  rw [hw]
  simp -implicitDefEqProofs [-aA, -gval, aC]
attribute [local simp] c195t3 c195t7 c195t8 c195t10 c195b11 c195t12 c195t15 c195t18 c195t20 c195b21 c195t22 c195t25 c195 in
theorem aUL (t : Ty) (hn : t.narrow = true) : PSp Tryz.prog 195 [.agg (tyC t)] (.one (.t (.bool t.dS))) := by
 have h := (Ty.aR t).1 hn
 obtain ⟨_, h2', h3, h4, h5, _⟩ := h
 have rest := aJY t hn
 have e0 : t.dS = (t.tags.any mA || (t.fields.any Fd.eJ || !(decide (0 ≤ t.root) && decide (t.root ≤ (t.fields.length : Int))))) := by simp only [Ty.dS, Bool.or_assoc]
 rw [e0]
 generalize (t.fields.any Fd.eJ || !(decide (0 ≤ t.root) && decide (t.root ≤ (t.fields.length : Int)))) = R at *
 refine k195.aG (by simp) (by simp [D.closed, A.closed]) rfl ?_
 simp -implicitDefEqProofs [-aA, -gval]
 refine bB t.tags mA [1] [0] (fun i st => st.tmps 3 = .one (.t (I i))) (by simp [short]; omega) ⟨by simp, by simp, by simp [Hp.set]⟩ ?_ ?_
 ·rintro i ⟨c, n, w⟩ st hi hiI hw hg hy hany hx hk hh
  simp [Hp.set] at hk hh
  obtain ⟨o1, o2, o3, o4⟩ := aF hh.1
  have hne : ¬ 0 = st.nx + 5 + 5 := by omega
  have uY : ¬ 0 = st.nx + 10 := by omega
  have hbad : mA ⟨c, n, w⟩ = (!(decide (1 ≤ c) && decide (c ≤ 3)) || !(decide (0 ≤ n) && decide (n ≤ 100000)) || !(decide (0 ≤ w) && decide (w ≤ 2))) := rfl
  rw [hbad] at hany ⊢
  obtain ⟨a, ha⟩ : ∃ a, (decide (1 ≤ c) && decide (c ≤ 3)) = a := ⟨_, rfl⟩
  obtain ⟨b, hb⟩ : ∃ a, (decide (0 ≤ n) && decide (n ≤ 100000)) = a := ⟨_, rfl⟩
  obtain ⟨d, hd⟩ : ∃ a, (decide (0 ≤ w) && decide (w ≤ 2)) = a := ⟨_, rfl⟩
  rw [ha, hb, hd] at hany ⊢
  simp -implicitDefEqProofs [-aA, -gval, hx, hk, hi, hiI, o1, o2, o3, aE hg, Tg.row, -List.getElem_map]
  refine aD.tree (dC _ _ _) rfl ?_
  rw [ha]
  rcases bb a with rfl | rfl
  ·simp -implicitDefEqProofs [-aA, -gval]
   refine aD.tree (dC _ _ _) rfl ?_
   rw [hb]
   rcases bb b with rfl | rfl
   ·simp -implicitDefEqProofs [-aA, -gval]
    refine aD.tree (dC _ _ _) rfl ?_
    rw [hd]
    rcases bb d with rfl | rfl
    ·simp -implicitDefEqProofs [-aA, -gval, hx, hk, hw]
     simp [Hp.set, hh.1]
    ·simp -implicitDefEqProofs [-aA, -gval, aC]
     left; simpa using hany (by simp)
   ·simp -implicitDefEqProofs [-aA, -gval, aC]
    left; simpa using hany (by simp)
  ·simp -implicitDefEqProofs [-aA, -gval, aC]
   left; simpa using hany (by simp)
 ·intro st hany hx hk hh
  simp [Hp.set] at hk hh
  obtain ⟨o1, o2, o3, o4⟩ := aF hh.1
  rw [hany]
  simp -implicitDefEqProofs [-aA, -gval, hk, hx, o1, o2, o3]
  exact rest _ ⟨by simp [hk], by simp [hh]⟩ (by simp)
def Fd.bM (k root : Int) (i : Nat) (f : Fd) : Bool :=
 (f.num != 0 && k != 3) || (!bF f.name (bs []) && k == 15) || (!f.ty.isZ && (k == 3 || k == 14)) || (!bR k && (f.pres != 0 || decide (0 < f.dflt.length) || f.grp != 0)) || (k == 13 && f.pres != 0) || (decide (0 < f.dflt.length) && f.pres != 2) || (f.grp != 0 && decide ((i : Int) < root))
def jG (k root : Int) (l : List Fd) (i : Nat) : Bool := match l[i]? with | some f => f.bM k root i | none => false
def Ty.iZ (t : Ty) : Bool :=
 dY (t.kind == 6 || t.kind == 14 || t.kind == 15) (bF t.name (bs [])) (bR t.kind || t.kind == 3 || t.kind == 14 || t.kind == 15) (decide (0 < t.fields.length)) (bR t.kind || t.kind == 3) t.opn (t.root != 0) (t.root != (t.fields.length : Int)) ||
  (!lI t.kind && decide (0 < t.of.length)) || (!fZ t.kind && decide (0 < t.limits.length)) || (List.range t.fields.length).any (jG t.kind t.root t.fields)
end Go.Proofs.YtdpbobkcbakpfaaGreatDoor

namespace Go.Proofs.YtdpbobkcbakpfaaGreatDoor
open Go Go.Ab
set_option maxRecDepth 100000
set_option maxHeartbeats 4000000
attribute [local simp] bL aM aS aK aY aO bI tyC fdC vlC ndC aP D.dQ D.pt
def aUM (a b c d e f g : Bool) : Bool := (a && !b) || (!c && d) || (!e && (f || g))
attribute [local simp] c196t7 c196t10 c196t14 c196t17 c196t18 c196t19 c196t21 c196b22 c196t23 c196t25 c196t26 c196t27 c196t28 c196t29 c196t30 c196 in
theorem aOH (f : Fd) (k root : Int) (t : Ty) (hk0 : t.kind = k) (hr0 : t.root = root) (i : Nat) (A : Exit → St → Prop) (ks : List KF) (st : St) (id : Nat) (h1 : TB t 1 st) (h7 : st.tmps 7 = .one (.t (I i))) (h8 : st.tmps 8 = .one (.ptr ⟨id, 0, 13, 0, 0⟩)) (hid : st.heap id = some (.arr 0 false 13 [fdC f])) (x _y : Bool)
  (hR : ((!bR k && (f.pres != 0 || decide (0 < f.dflt.length) || f.grp != 0)) || (k == 13 && f.pres != 0) || (decide (0 < f.dflt.length) && f.pres != 2) || (f.grp != 0 && decide ((i : Int) < root))) = x)
  (hok : x = false → ∀ st', cH [1, 7] st.tmps st'.tmps → st'.heap = st.heap → st.nx ≤ st'.nx → cO Tryz.prog 222 A ks .normal st') (hbad : x = true → ∀ st', st'.tmps 2 = .one (.t (.bool true)) → cO Tryz.prog 222 A ks .ret st') :
  aT Tryz.prog 222 A c196t18 ks st := by
 obtain ⟨h1, h2⟩ := h1
 obtain ⟨o1, o2, o3, o4⟩ := aF h2
 obtain ⟨p1, p2, p3, p4⟩ := aF hid
 obtain ⟨g, eg⟩ : ∃ x, bR k = x := ⟨_, rfl⟩
 obtain ⟨a, ea⟩ : ∃ x, (f.pres != 0) = x := ⟨_, rfl⟩
 obtain ⟨b, eb⟩ : ∃ x, decide (0 < f.dflt.length) = x := ⟨_, rfl⟩
 obtain ⟨c, ec⟩ : ∃ x, (f.grp != 0) = x := ⟨_, rfl⟩
 obtain ⟨d, ed⟩ : ∃ x, (k == 13) = x := ⟨_, rfl⟩
 obtain ⟨e, ee⟩ : ∃ x, (f.pres != 2) = x := ⟨_, rfl⟩
 obtain ⟨z, ez⟩ : ∃ x, decide ((i : Int) < root) = x := ⟨_, rfl⟩
 obtain ⟨u1, m1⟩ : ∃ x, (a || b) = x := ⟨_, rfl⟩
 obtain ⟨u2, m2⟩ : ∃ x, (u1 || c) = x := ⟨_, rfl⟩
 obtain ⟨u3, m3⟩ : ∃ x, (!g && u2) = x := ⟨_, rfl⟩
 obtain ⟨u4, m4⟩ : ∃ x, (d && a) = x := ⟨_, rfl⟩
 obtain ⟨u5, m5⟩ : ∃ x, (u3 || u4) = x := ⟨_, rfl⟩
 obtain ⟨u6, m6⟩ : ∃ x, (b && e) = x := ⟨_, rfl⟩
 obtain ⟨u7, m7⟩ : ∃ x, (u5 || u6) = x := ⟨_, rfl⟩
 obtain ⟨u8, m8⟩ : ∃ x, (c && z) = x := ⟨_, rfl⟩
 obtain ⟨u9, m9⟩ : ∃ x, (u7 || u8) = x := ⟨_, rfl⟩
 simp only [eg, ea, eb, ec, ed, ee, ez, m1, m2, m3, m4, m5, m6, m7, m8, m9] at hR
 subst hR
 have qT := aM7 k
 rw [eg] at qT
 simp -implicitDefEqProofs [-aA, -gval, h1, o1, o2, o3, hk0, hr0]
 refine aD.tree qT rfl ?_
 simp -implicitDefEqProofs [-aA, -gval, h1, h7, h8, o1, o2, o3, p1, p2, p3, hk0, hr0, ea, eb, ec, ed, ee, ez, m1, m2, m3, m4, m5, m6, m7, m8, m9, -Bool.not_or, -Bool.not_and]
 refine ⟨fun h => by simp [h], fun h => by simp [h], fun h => by simp [h], fun h => by simp [h], fun h => by simp [h], fun h => ?_, fun h => ?_⟩
 ·exact hbad h _ (by simp)
 ·exact hok h _ (by simp) rfl (by simp <;> omega)
attribute [local simp] c196t7 c196t10 c196t14 c196t17 c196t19 c196t21 c196b22 c196t23 c196t25 c196t26 c196t27 c196t28 c196t29 c196t30 c196 in
theorem aOI (f : Fd) (hn : f.ty.narrow = true) (k root : Int) (t : Ty) (hk0 : t.kind = k) (hr0 : t.root = root) (i : Nat) (A : Exit → St → Prop) (ks : List KF) (st : St) (id : Nat) (h1 : TB t 1 st) (h7 : st.tmps 7 = .one (.t (I i))) (h8 : st.tmps 8 = .one (.ptr ⟨id, 0, 13, 0, 0⟩)) (hid : st.heap id = some (.arr 0 false 13 [fdC f])) (x : Bool)
  (hR : f.bM k root i = x)
  (hok : x = false → ∀ st', cH [1, 7] st.tmps st'.tmps → st'.heap = st.heap → st.nx ≤ st'.nx → cO Tryz.prog 222 A ks .normal st') (hbad : x = true → ∀ st', st'.tmps 2 = .one (.t (.bool true)) → cO Tryz.prog 222 A ks .ret st') :
  aT Tryz.prog 222 A c196t19 ks st := by
 have rest := aOH f k root t hk0 hr0 i A ks
 obtain ⟨h1, h2⟩ := h1
 obtain ⟨o1, o2, o3, o4⟩ := aF h2
 obtain ⟨p1, p2, p3, p4⟩ := aF hid
 obtain ⟨a, ea⟩ : ∃ x, (f.num != 0) = x := ⟨_, rfl⟩
 obtain ⟨b, eb⟩ : ∃ x, (k != 3) = x := ⟨_, rfl⟩
 obtain ⟨c, ec⟩ : ∃ x, (f.name.toList == (bs []).toList) = x := ⟨_, rfl⟩
 obtain ⟨d, ed⟩ : ∃ x, (k == 15) = x := ⟨_, rfl⟩
 obtain ⟨e, ee⟩ : ∃ x, (k == 3) = x := ⟨_, rfl⟩
 obtain ⟨z, ez⟩ : ∃ x, (k == 14) = x := ⟨_, rfl⟩
 obtain ⟨q, eq⟩ : ∃ x, f.ty.isZ = x := ⟨_, rfl⟩
 obtain ⟨u1, m1⟩ : ∃ x, (a && b) = x := ⟨_, rfl⟩
 obtain ⟨u2, m2⟩ : ∃ x, (!c && d) = x := ⟨_, rfl⟩
 obtain ⟨u3, m3⟩ : ∃ x, (u1 || u2) = x := ⟨_, rfl⟩
 obtain ⟨u4, m4⟩ : ∃ x, (e || z) = x := ⟨_, rfl⟩
 obtain ⟨u5, m5⟩ : ∃ x, (!q && u4) = x := ⟨_, rfl⟩
 obtain ⟨u6, m6⟩ : ∃ x, (u3 || u5) = x := ⟨_, rfl⟩
 obtain ⟨y, ey⟩ : ∃ y, ((!bR k && (f.pres != 0 || decide (0 < f.dflt.length) || f.grp != 0)) || (k == 13 && f.pres != 0) || (decide (0 < f.dflt.length) && f.pres != 2) || (f.grp != 0 && decide ((i : Int) < root))) = y := ⟨_, rfl⟩
 have ex : x = (u6 || y) := by
  rw [← hR, ← ey]
  simp only [Fd.bM, bF, ea, eb, ec, ed, ee, ez, eq, m1, m2, m3, m4, m5, m6, Bool.or_assoc]
  try (rw [← m6, ← m3]; simp only [Bool.or_assoc])
 simp -implicitDefEqProofs [-aA, -gval, h1, h8, o1, o2, o3, p1, p2, p3, hk0, hr0, ea, eb, ec, ed, m1, m2, m3, -Bool.not_or, -Bool.not_and]
 refine ⟨fun h => by simp [h], fun h => ?_, fun h => ?_⟩
 ·subst h
  refine aD.tree (aUK f.ty hn) rfl ?_
  rw [eq]
  have m6' : u5 = u6 := by simpa using m6
  subst m6'
  simp -implicitDefEqProofs [-aA, -gval, h1, o1, o2, o3, hk0, hr0, ee, ez, m4, m5, -Bool.not_or, -Bool.not_and]
  refine ⟨fun h => by simp [h], fun h => ?_, fun h => ?_⟩
  ·exact hbad (by rw [ex, h]; rfl) _ (by simp)
  ·refine rest _ id ⟨by simp [h1], by simp [h2]⟩ (by simp [h7]) (by simp [h8]) (by simp [hid]) y y ey (fun hx st' k1 k2 k3 => ?_) fun hx st' k2 => hbad (by rw [ex, hx]; simp) _ k2
   refine hok (by rw [ex, h, hx]; rfl) st' (by simpa using k1) (by simpa using k2) (by simp at k3; omega)
 ·subst h
  have hu : u6 = true := by rw [← m6]; rfl
  simp -implicitDefEqProofs [-aA, -gval]
  exact hbad (by rw [ex, hu]; rfl) _ (by simp)
attribute [local simp] c196t7 c196t10 c196t14 c196t17 c196t18 c196t21 c196b22 c196t23 c196t25 c196t26 c196t27 c196t28 c196t29 c196t30 c196 in
theorem aOJ (t : Ty) (hn : t.narrow = true) (st : St) (h1 : TB t 1 st) (_hnx : 0 < st.nx) : aT Tryz.prog 222 (aC [.tmp 2] (.one (.t (.bool ((List.range t.fields.length).any (jG t.kind t.root t.fields)))))) c196t25 [] st := by
 have hnr := (Ty.aR t).1 hn
 obtain ⟨h1, h2⟩ := h1
 obtain ⟨o1, o2, o3, o4⟩ := aF h2
 have hle := hnr.2.2.1
 simp -implicitDefEqProofs [-aA, -gval]
 refine bB (List.range t.fields.length) (jG t.kind t.root t.fields) [1] [0] (fun i st => st.tmps 7 = .one (.t (I i))) (by simp [short]; omega) ⟨by simp, by simp, by simp []⟩ ?_ ?_
 ·intro i y st' hi hiI hw hg hy hany hx hk hh
  obtain rfl := gH hg
  simp [h1] at hk hh
  have hi' : y < t.fields.length := by simpa using hi
  have aHJ : (y : Int) < (t.fields.length : Int) := by omega
  have q1 : t.fields[y]? = some t.fields[y] := List.getElem?_eq_getElem hi'
  have hfn := ((Fd.aR _).1 (hnr.2.2.2.2.2.2.1 _ (List.mem_of_getElem? q1))).2.2.1
  have hd : jG t.kind t.root t.fields y = (t.fields[y]).bM t.kind t.root y := by simp [jG, q1]
  rw [hd] at hany ⊢
  generalize t.fields[y] = f at *
  obtain ⟨o1, o2, o3, o4⟩ := aF (hh.1.trans h2)
  have hne : ¬ 0 = st'.nx + 5 + 5 := by omega
  simp -implicitDefEqProofs [-aA, -gval, h1, hx, hk, hi', aHJ, o1, o2, o3, aE q1, Fd.aJ, -List.getElem_map]
  refine aOI f hfn _ _ t rfl rfl y _ _ _ (st'.nx + 5 + 5) ⟨by simp [hk], ?_⟩ (by simp [hx]) (by simp) (by simp [Hp.set]) (f.bM t.kind t.root y) rfl (fun hf st2 k1 k2 k3 => ?_) fun hf st2 k2 => ?_
  ·simp only [Hp.set]; rw [if_neg hne]; exact hh.1.trans h2
  ·simp at k1
   simp -implicitDefEqProofs [-aA, -gval, k1, hk, hx, hw]
   refine ⟨hf, ?_⟩
   rw [k2]; simp only [Hp.set]; rw [if_neg hne]; exact hh.1
  ·simp -implicitDefEqProofs [-aA, -gval, aC, k2]
   simpa using hany hf
 ·intro st' hany hx hk hh
  simp [h1] at hk hh
  simp only [List.length_range] at hx
  obtain ⟨o1, o2, o3, o4⟩ := aF (hh.1.trans h2)
  rw [hany]
  simp -implicitDefEqProofs [-aA, -gval, hk, hx, o1, o2, o3, aC]
attribute [local simp] c196t7 c196t10 c196t14 c196t17 c196t18 c196t19 c196t21 c196b22 c196t23 c196t26 c196t27 c196t28 c196t29 c196t30 c196 in
theorem aOK (t : Ty) (hn : t.narrow = true) (a c e l : Bool) (st : St) (h1 : TB t 1 st) (_hnx : 0 < st.nx) (h3 : st.tmps 3 = .one (.t (.bool a))) (h4 : st.tmps 4 = .one (.t (.bool c))) (h5 : st.tmps 5 = .one (.t (.bool e))) (h6 : st.tmps 6 = .one (.t (.bool l))) (R : Bool)
  (hR : (dY a (bF t.name (bs [])) c (decide (0 < t.fields.length)) e t.opn (t.root != 0) (t.root != (t.fields.length : Int)) || (!l && decide (0 < t.of.length)) || (!fZ t.kind && decide (0 < t.limits.length)) || (List.range t.fields.length).any (jG t.kind t.root t.fields)) = R) :
  aT Tryz.prog 222 (aC [.tmp 2] (.one (.t (.bool R)))) c196t26 [] st := by
 have rest := aOJ t hn
 obtain ⟨h1, h2⟩ := h1
 obtain ⟨o1, o2, o3, o4⟩ := aF h2
 obtain ⟨b, e0⟩ : ∃ b, (t.name.toList == (bs []).toList) = b := ⟨_, rfl⟩
 obtain ⟨d, e1⟩ : ∃ b, decide (0 < t.fields.length) = b := ⟨_, rfl⟩
 obtain ⟨p, e2⟩ : ∃ b, (t.root == 0) = b := ⟨_, rfl⟩
 obtain ⟨q, e3⟩ : ∃ b, (t.root == (t.fields.length : Int)) = b := ⟨_, rfl⟩
 obtain ⟨m, e4⟩ : ∃ b, decide (0 < t.of.length) = b := ⟨_, rfl⟩
 obtain ⟨v, e5⟩ : ∃ b, decide (0 < t.limits.length) = b := ⟨_, rfl⟩
 have e0' : bF t.name (bs []) = b := e0
 simp only [e0', e1, bne, e2, e3, e4, e5] at hR
 generalize (List.range t.fields.length).any (jG t.kind t.root t.fields) = W at *
 obtain ⟨x1, f1⟩ : ∃ x, (!a && !b) = x := ⟨_, rfl⟩
 obtain ⟨x2, f2⟩ : ∃ x, (!c && d) = x := ⟨_, rfl⟩
 obtain ⟨y2, f3⟩ : ∃ x, (x1 || x2) = x := ⟨_, rfl⟩
 obtain ⟨x3, f4⟩ : ∃ x, (t.opn || !p) = x := ⟨_, rfl⟩
 obtain ⟨x4, f5⟩ : ∃ x, (!e && x3) = x := ⟨_, rfl⟩
 obtain ⟨y3, f6⟩ : ∃ x, (y2 || x4) = x := ⟨_, rfl⟩
 obtain ⟨x5, f7⟩ : ∃ x, (e && !t.opn) = x := ⟨_, rfl⟩
 obtain ⟨x6, f8⟩ : ∃ x, (x5 && !q) = x := ⟨_, rfl⟩
 obtain ⟨y4, f9⟩ : ∃ x, (y3 || x6) = x := ⟨_, rfl⟩
 obtain ⟨x7, f10⟩ : ∃ x, (!l && m) = x := ⟨_, rfl⟩
 obtain ⟨y5, f11⟩ : ∃ x, (y4 || x7) = x := ⟨_, rfl⟩
 have ef : dY a b c d e t.opn (!p) (!q) = y4 := by simp only [dY, f1, f2, f4, f5, f7, f8, f3, f6, f9]
 rw [ef, f10, f11] at hR
 simp -implicitDefEqProofs [-aA, -gval, h1, h3, h4, h5, h6, o1, o2, o3, e0, e1, e2, e3, e4, e5, bne, f1, f2, f3, f4, f5, f6, f7, f8, f9, f10, f11, -Bool.not_or, -Bool.not_and]
 refine ⟨fun h => by simp [h], fun h h' => by simp [h, h'], fun h => by simp [h], fun h => by simp [h], fun h => by simp [h], fun h => by simp [h], fun h => ?_, fun h => ?_⟩
 ·subst h
  refine aD.tree (aUJ _) rfl ?_
  rcases bb (fZ t.kind) with g2 | g2
  ·rw [g2] at hR ⊢
   have hRW : W = R := by simpa using hR
   subst hRW
   simp -implicitDefEqProofs [-aA, -gval]
   exact rest _ ⟨by simp [h1], by simp [h2]⟩ (by simp <;> omega)
  ·rw [g2] at hR ⊢
   cases v
   ·have hRW : W = R := by simpa using hR
    subst hRW
    simp -implicitDefEqProofs [-aA, -gval, h1, o1, o2, o3, e5]
    exact rest _ ⟨by simp [h1], by simp [h2]⟩ (by simp <;> omega)
   ·have hRW : true = R := by simpa using hR
    subst hRW
    simp -implicitDefEqProofs [-aA, -gval, h1, o1, o2, o3, e5, aC]
 ·subst h
  have hRW : true = R := by simpa using hR
  subst hRW
  simp -implicitDefEqProofs [-aA, -gval, aC]
attribute [local simp] c196t7 c196t10 c196t14 c196t17 c196t18 c196t19 c196t21 c196b22 c196t23 c196t25 c196t27 c196t28 c196t29 c196t30 c196 in
theorem aUN (t : Ty) (hn : t.narrow = true) : PSp Tryz.prog 196 [.agg (tyC t)] (.one (.t (.bool t.iZ))) := by
 refine k196.aG (by simp) (by simp [D.closed, A.closed]) rfl ?_
 obtain ⟨a, ea⟩ : ∃ x, (t.kind == 6 || t.kind == 14 || t.kind == 15) = x := ⟨_, rfl⟩
 obtain ⟨g, eg⟩ : ∃ x, bR t.kind = x := ⟨_, rfl⟩
 obtain ⟨e, ee⟩ : ∃ x, (g || t.kind == 3) = x := ⟨_, rfl⟩
 obtain ⟨e', ee'⟩ : ∃ x, (e || t.kind == 14) = x := ⟨_, rfl⟩
 obtain ⟨c, ec⟩ : ∃ x, (e' || t.kind == 15) = x := ⟨_, rfl⟩
 obtain ⟨l, el⟩ : ∃ x, (t.kind == 11 || t.kind == 12) = x := ⟨_, rfl⟩
 have il : lI t.kind = l := el
 have rest := aOK t hn a c e l
 have qT := aM7 t.kind
 rw [eg] at qT
 have eR : (dY a (bF t.name (bs [])) c (decide (0 < t.fields.length)) e t.opn (t.root != 0) (t.root != (t.fields.length : Int)) || (!l && decide (0 < t.of.length)) || (!fZ t.kind && decide (0 < t.limits.length)) || (List.range t.fields.length).any (jG t.kind t.root t.fields)) = t.iZ := by
  simp only [Ty.iZ, ea, eg, ee, ee', ec, il]
 simp -implicitDefEqProofs [-aA, -gval, ea]
 refine aD.tree qT rfl ?_
 simp -implicitDefEqProofs [-aA, -gval, ee, ee', ec, -Bool.not_or]
 refine aD.tree qT rfl ?_
 simp -implicitDefEqProofs [-aA, -gval, ee, el, -Bool.not_or]
 exact rest _ ⟨by simp, by simp [Hp.set]⟩ (by simp) (by simp) (by simp) (by simp) (by simp) _ eR
end Go.Proofs.YtdpbobkcbakpfaaGreatDoor

namespace Go.Proofs.YtdpbobkcbakpfaaGreatDoor
open Go Go.Ab
set_option maxRecDepth 100000
set_option maxHeartbeats 4000000
attribute [local simp] bL aM aS aK aY aO bI tyC fdC vlC ndC aP D.dQ D.pt
attribute [local simp] c239 in
theorem aUO (s : ByteArray) : PSp Tryz.prog 239 [.one (.t (.str s))] (.one (.t (.bool (fD s)))) := by
 refine k239.aG (by simp) rfl rfl ?_
 simp -implicitDefEqProofs [-aA, -gval]
 refine aD.pure (aQ8 hX s (by simp [short, hX])) (by simp) (by simp [hX]) ?_
 simp -implicitDefEqProofs [-aA, -gval, aC]
 simp only [aHF, fD, bF]
 congr 1; funext x; exact Bool.beq_comm ..
def BS (bg : List Nat) (tm : Nat → D) (h : Hp) (nx : Nat) : Prop := (bg = [] ∧ tm 3 = .one (.tt 1 [])) ∨ (bg ≠ [] ∧ ∃ id ver, tm 3 = .one (.ref id ver 0 bg.length 1 false) ∧ h id = some (.arr ver false 1 (bg.map fun (n : Nat) => [.t (I n)])) ∧ id < nx)
theorem BS.more {bg : List Nat} {tm tm' : Nat → D} {h h' : Hp} {nx nx' : Nat} (hb : BS bg tm h nx) (h3 : tm' 3 = tm 3) (hh : h' = h) (hn : nx ≤ nx') : BS bg tm' h' nx' := by
 subst hh
 rcases hb with ⟨g1, g2⟩ | ⟨g1, id, ver, g2, g3, g4⟩
 ·exact .inl ⟨g1, h3.trans g2⟩
 ·exact .inr ⟨g1, id, ver, h3.trans g2, g3, by omega⟩
theorem BS.aQW {bg : List Nat} {tm tm' : Nat → D} {h h' : Hp} {nx nx' : Nat} (hb : BS bg tm h nx) (h3 : tm' 3 = tm 3) (hh : ∀ j, j < nx → h' j = h j) (hn : nx ≤ nx') : BS bg tm' h' nx' := by
 rcases hb with ⟨g1, g2⟩ | ⟨g1, id, ver, g2, g3, g4⟩
 ·exact .inl ⟨g1, h3.trans g2⟩
 ·exact .inr ⟨g1, id, ver, h3.trans g2, by rw [hh _ g4]; exact g3, by omega⟩
attribute [local simp] c238t3 c238t6 c238t10 c238t16 c238t21 c238t22 c238t26 c238t27 c238t28 c238t29 c238t33 c238t37 c238t40 c238t43 c238b44 c238t45 c238t47 c238t48 c238t49 c238t50 c238t51 c238t52 c238t54 c238b55 c238t56 c238t58 c238t59 c238t60 c238t61 c238 in
theorem aQX (x : Nd) (bg : List Nat) (hbg : ∀ (j b : Nat), bg[j]? = some b → b ≤ j) (hsm : bg.length ≤ 20) (has : x.args.length ≤ 1000000) (i5 : Nat) (A : Exit → St → Prop) (ks : List KF) (st : St)
  (h4 : st.tmps 4 = .one (.t (I bg.length))) (h5 : st.tmps 5 = .one (.ptr ⟨i5, 0, 5, 0, 0⟩)) (h5' : st.heap i5 = some (.arr 0 false 5 [ndC x])) (hb : BS bg st.tmps st.heap st.nx)
  (hnone : dK bg x = none → ∀ st', st'.tmps 2 = .one (.t (.bool false)) → cO Tryz.prog 115 A ks .ret st')
  (hsome : ∀ n, dK bg x = some n → n ≤ bg.length → ∀ st', cH [0, 4] st.tmps st'.tmps → BS (bg ++ [n]) st'.tmps st'.heap st'.nx → st.nx ≤ st'.nx → cO Tryz.prog 115 A ks .normal st') :
  aT Tryz.prog 115 A c238t48 ks st := by
 obtain ⟨o1, o2, o3, o4⟩ := aF h5'
 have w0 : IntKind.i64.wrap ((x.args.length : Int) - 1) = (x.args.length : Int) - 1 := wrap_i64 (by omega) (by omega)
 simp -implicitDefEqProofs [-aA, -gval, h4, h5, o1, o2, o3, w0]
 refine W.fJ (fun j st' => ∃ nxt : Nat, j ≤ x.args.length ∧ nxt ≤ bg.length ∧ st'.tmps 10 = .one (.t (I ((j : Int) - 1))) ∧ st'.tmps 9 = .one (.t (I nxt)) ∧ jI bg (x.args.take j).reverse nxt = dK bg x ∧ cH [0, 3, 4, 5] st.tmps st'.tmps ∧ st'.heap = st.heap ∧ st.nx ≤ st'.nx) x.args.length ⟨bg.length, by omega, by omega, by simp, by simp, by simp [dK], by simp [h4, h5], by simp, by simp <;> omega⟩ ?_
 rintro j st' ⟨nxt, hj, hn, k10, k9, hx, kt, kh, kn⟩
 simp only [pN, rQ, h4, h5, and_true] at kt
 obtain ⟨kt0, kt3, kt4, kt5⟩ := kt
 rw [← kh] at o1 o2 o3 o4
 rcases Nat.eq_zero_or_pos j with rfl | hpos
 ·simp [jI] at hx
  have hsome' := hsome nxt hx.symm hn
  rcases hb with ⟨g1, g2⟩ | ⟨g1, id, ver, g2, g3, g4⟩
  ·simp -implicitDefEqProofs [-aA, -gval, k10, k9, kt3, g2, h4]
   refine hsome' _ (by simp [kt0, kt4, h4]) (.inr ⟨by simp, st'.nx + 2 + 3, 0, ?_⟩) (by simp <;> omega)
   subst g1
   simp [Hp.set]
  ·rw [← kh] at g3
   obtain ⟨p1, p2, p3, p4⟩ := aF g3
   simp -implicitDefEqProofs [-aA, -gval, k10, k9, kt3, g2, h4, p1, p2, p3, p4]
   refine ⟨by omega, hsome' _ (by simp [kt0, kt4, h4]) (.inr ⟨by simp, id, ver + 1, ?_⟩) (by simp <;> omega)⟩
   simp [Hp.set]
   omega
 ·obtain ⟨i, rfl⟩ : ∃ i, j = i + 1 := ⟨j - 1, by omega⟩
  have hi : i < x.args.length := by omega
  have hiI : (i : Int) < (x.args.length : Int) := by omega
  have q1 : x.args[i]? = some x.args[i] := List.getElem?_eq_getElem hi
  have htk : (x.args.take (i + 1)).reverse = x.args[i] :: (x.args.take i).reverse := by
   rw [List.take_add_one, q1]; simp
  rw [htk, jI] at hx
  generalize x.args[i] = a at *
  have hiW : ((i + 1 : Nat) : Int) - 1 = (i : Int) := by omega
  rw [hiW] at k10
  have hge : (0 : Int) ≤ (i : Int) := by omega
  have hwr : IntKind.i64.wrap ((nxt : Int) - 1) = (nxt : Int) - 1 := wrap_i64 (by omega) (by omega)
  have hwi : IntKind.i64.wrap ((i : Int) - 1) = (i : Int) - 1 := wrap_i64 (by omega) (by omega)
  by_cases hz : nxt = 0
  ·subst hz
   simp at hx
   simp -implicitDefEqProofs [-aA, -gval, k10, k9, kt5, o1, o2, o3]
   exact hnone hx.symm _ (by simp)
  ·have hzI : ¬ (nxt : Int) = 0 := by omega
   have hzB : ((nxt : Int) == 0) = false := by simp [hz]
   by_cases hne : a = (nxt : Int) - 1
   ·rw [if_neg (by simp [hz, hne])] at hx
    have hne' : bg ≠ [] := fun e => by rw [e] at hn; simp at hn; omega
    rcases hb with ⟨g1, _⟩ | ⟨g1, id, ver, g2, g3, g4⟩
    ·exact absurd g1 hne'
    ·rw [← kh] at g3
     obtain ⟨p1, p2, p3, p4⟩ := aF g3
     obtain ⟨m, rfl⟩ : ∃ m : Nat, nxt = m + 1 := ⟨nxt - 1, by omega⟩
     have hmI : ((m + 1 : Nat) : Int) - 1 = (m : Int) := by omega
     rw [hmI] at hwr hne
     have hm1 : (m : Int) < bg.length := by omega
     have hm2 : m < bg.length := by omega
     have hgd : bg.getD m 0 = bg[m] := by simp [List.getD_eq_getElem?_getD, List.getElem?_eq_getElem hm2]
     rw [Nat.add_sub_cancel, hgd] at hx
     simp only [Int.natCast_add, Int.natCast_one] at hzI hzB hwr k9
     simp -implicitDefEqProofs [-aA, -gval, k10, k9, kt5, o1, o2, o3, kt3, g2, p1, p2, p3, hzB, hwr, hwi, hm1, hm2, hi, hiI, aE q1, hne, kt0, kt4, h4]
     refine ⟨i, by omega, by omega, bg[m], by have := hbg m bg[m] (List.getElem?_eq_getElem hm2); omega, ?_⟩
     simp [hx, kh, h5]
     omega
   ·rw [if_pos (.inr hne)] at hx
    have aUP : (a == (nxt : Int) - 1) = false := by simp [hne]
    simp -implicitDefEqProofs [-aA, -gval, k10, k9, kt5, o1, o2, o3, hzB, hwr, hi, hiI, aE q1, aUP, bne]
    exact hnone hx.symm _ (by simp)
attribute [local simp] c238t3 c238t6 c238t10 c238t16 c238t21 c238t22 c238t26 c238t27 c238t28 c238t29 c238t33 c238t37 c238t40 c238t43 c238b44 c238t45 c238t47 c238t49 c238t50 c238t51 c238t52 c238t54 c238b55 c238t56 c238t58 c238t59 c238t60 c238t61 c238 in
theorem aQY (x : Nd) (bg : List Nat) (hbg : ∀ (j b : Nat), bg[j]? = some b → b ≤ j) (hsm : bg.length ≤ 20) (has : x.args.length ≤ 1000000) (i5 : Nat) (A : Exit → St → Prop) (ks : List KF) (st : St) (lo hi : Int)
  (h4 : st.tmps 4 = .one (.t (I bg.length))) (h5 : st.tmps 5 = .one (.ptr ⟨i5, 0, 5, 0, 0⟩)) (h5' : st.heap i5 = some (.arr 0 false 5 [ndC x])) (hb : BS bg st.tmps st.heap st.nx) (h6 : st.tmps 6 = .one (.t (I lo))) (h7 : st.tmps 7 = .one (.t (I hi)))
  (hr : x.right = ((decide (0 ≤ x.k) && decide (x.k ≤ 7)) && (decide (lo ≤ (x.args.length : Int)) && decide ((x.args.length : Int) ≤ hi))))
  (hnone : (x.ok = false ∨ dK bg x = none) → ∀ st', st'.tmps 2 = .one (.t (.bool false)) → cO Tryz.prog 115 A ks .ret st')
  (hsome : x.ok = true → ∀ n, dK bg x = some n → n ≤ bg.length → ∀ st', cH [0, 4] st.tmps st'.tmps → BS (bg ++ [n]) st'.tmps st'.heap st'.nx → st.nx ≤ st'.nx → cO Tryz.prog 115 A ks .normal st') :
  aT Tryz.prog 115 A c238t50 ks st := by
 obtain ⟨o1, o2, o3, o4⟩ := aF h5'
 obtain ⟨a, ea⟩ : ∃ y, (x.k == 0) = y := ⟨_, rfl⟩
 obtain ⟨b, eb⟩ : ∃ y, (x.lo == 0) = y := ⟨_, rfl⟩
 obtain ⟨c, ec⟩ : ∃ y, (x.hi == 0) = y := ⟨_, rfl⟩
 obtain ⟨d, ed⟩ : ∃ y, (x.k == 1) = y := ⟨_, rfl⟩
 obtain ⟨e, ee⟩ : ∃ y, (x.s.toList == (bs []).toList) = y := ⟨_, rfl⟩
 obtain ⟨u1, m1⟩ : ∃ y, (b && c) = y := ⟨_, rfl⟩
 obtain ⟨u2, m2⟩ : ∃ y, (a || u1) = y := ⟨_, rfl⟩
 obtain ⟨u3, m3⟩ : ∃ y, (d || e) = y := ⟨_, rfl⟩
 obtain ⟨u4, m4⟩ : ∃ y, (u2 && u3) = y := ⟨_, rfl⟩
 obtain ⟨w1, n1⟩ : ∃ y, (decide (0 ≤ x.k) && decide (x.k ≤ 7)) = y := ⟨_, rfl⟩
 obtain ⟨w2, n2⟩ : ∃ y, (decide (lo ≤ (x.args.length : Int)) && decide ((x.args.length : Int) ≤ hi)) = y := ⟨_, rfl⟩
 rw [n1, n2] at hr
 have hok : x.ok = (w1 && w2 && u4) := by
  rw [← m4, ← m3, ← m2, ← m1, ← ea, ← eb, ← ec, ← ed, ← ee, ← hr]
  rw [Bool.eq_iff_iff]
  simp [Nd.ok, and_assoc]
 simp -implicitDefEqProofs [-aA, -gval, h5, o1, o2, o3, ea, eb, ec, ed, ee, m1, m2, m3, m4, -Bool.not_or, -Bool.not_and]
 refine ⟨fun h => by simp [h], fun h => by simp [h], ?_⟩
 refine aD.tree (dC _ _ _) rfl ?_
 rw [n1]
 rcases bb w1 with rfl | rfl
 ·simp -implicitDefEqProofs [-aA, -gval, h5, h6, h7, o1, o2, o3]
  refine aD.tree (dC _ _ _) rfl ?_
  rw [n2]
  rcases bb w2 with rfl | rfl
  ·rcases bb u4 with rfl | rfl
   ·simp -implicitDefEqProofs [-aA, -gval]
    refine aQX x bg hbg hsm has i5 _ _ _ (by simp [h4]) (by simp [h5]) h5' (hb.more (by simp) rfl (by simp <;> omega)) (fun h => hnone (.inr h)) fun n h1 h2 st' k1 k2 k3 => hsome (by simpa using hok) n h1 h2 st' ?_ k2 ?_
    ·simpa using k1
    ·simp at k3; omega
   ·simp -implicitDefEqProofs [-aA, -gval]
    exact hnone (.inl (by simpa using hok)) _ (by simp)
  ·simp -implicitDefEqProofs [-aA, -gval]
   exact hnone (.inl (by simpa using hok)) _ (by simp)
 ·simp -implicitDefEqProofs [-aA, -gval]
  exact hnone (.inl (by simpa using hok)) _ (by simp)
attribute [local simp] c238t3 c238t6 c238t10 c238t16 c238t21 c238t22 c238t26 c238t27 c238t28 c238t29 c238t33 c238t37 c238t40 c238t43 c238b44 c238t45 c238t47 c238t48 c238t49 c238t51 c238t52 c238t54 c238b55 c238t56 c238t58 c238t59 c238t60 c238t61 c238 in
theorem aQZ (x : Nd) (bg : List Nat) (hbg : ∀ (j b : Nat), bg[j]? = some b → b ≤ j) (hsm : bg.length ≤ 20) (has : x.args.length ≤ 1000000) (i5 : Nat) (A : Exit → St → Prop) (ks : List KF) (st : St)
  (h4 : st.tmps 4 = .one (.t (I bg.length))) (h5 : st.tmps 5 = .one (.ptr ⟨i5, 0, 5, 0, 0⟩)) (h5' : st.heap i5 = some (.arr 0 false 5 [ndC x])) (hb : BS bg st.tmps st.heap st.nx) (h6 : st.tmps 6 = .one (.t (I 0))) (h7 : st.tmps 7 = .one (.t (I 0)))
  (hnone : (x.ok = false ∨ dK bg x = none) → ∀ st', st'.tmps 2 = .one (.t (.bool false)) → cO Tryz.prog 115 A ks .ret st')
  (hsome : x.ok = true → ∀ n, dK bg x = some n → n ≤ bg.length → ∀ st', cH [0, 4] st.tmps st'.tmps → BS (bg ++ [n]) st'.tmps st'.heap st'.nx → st.nx ≤ st'.nx → cO Tryz.prog 115 A ks .normal st') :
  aT Tryz.prog 115 A c238t51 ks st := by
 obtain ⟨o1, o2, o3, o4⟩ := aF h5'
 have go : ∀ lo hi : Int, x.right = ((decide (0 ≤ x.k) && decide (x.k ≤ 7)) && (decide (lo ≤ (x.args.length : Int)) && decide ((x.args.length : Int) ≤ hi))) → ∀ st' : St, cH [0, 3, 4, 5] st.tmps st'.tmps → st'.heap = st.heap → st.nx ≤ st'.nx → st'.tmps 6 = .one (.t (I lo)) → st'.tmps 7 = .one (.t (I hi)) → aT Tryz.prog 115 A c238t50 ks st' := fun lo hi hr st' k1 k2 k3 k6 k7 => by
  simp only [pN, rQ, and_true] at k1
  obtain ⟨u0, u3, u4, u5⟩ := k1
  exact aQY x bg hbg hsm has i5 A ks st' lo hi (u4.trans h4) (u5.trans h5) (by rw [k2]; exact h5') (hb.more u3 k2 k3) k6 k7 hr hnone fun e n g1 g2 st2 g3 g4 g5 => hsome e n g1 g2 st2 (by simp only [pN, rQ, and_true] at g3 ⊢; exact ⟨g3.1.trans u0, g3.2.trans u4⟩) g4 (by omega)
 have right : ∀ k : Int, x.k = k → x.right = (if k = 0 ∨ k = 1 then decide (x.args.length = 0) else if k = 2 ∨ k = 3 then decide (x.args.length = 1)
  else if k = 4 ∨ k = 5 ∨ k = 6 then decide (x.args.length = 2) else if k = 7 then decide (x.args.length = 1 ∨ x.args.length = 2) else false) := fun k e => by rw [← e]; rfl
 rcases eqCases x.k 2 with q2 | q2
 ·simp -implicitDefEqProofs [-aA, -gval, h5, o1, o2, o3, q2]
  exact go 1 1 (by rw [right 2 q2]; simp [q2]; try (rw [Bool.eq_iff_iff]; simp; omega)) _ (by simp) rfl (by simp <;> omega) (by simp) (by simp)
 ·rcases eqCases x.k 3 with q3 | q3
  ·simp -implicitDefEqProofs [-aA, -gval, h5, o1, o2, o3, q3]
   exact go 1 1 (by rw [right 3 q3]; simp [q3]; try (rw [Bool.eq_iff_iff]; simp; omega)) _ (by simp) rfl (by simp <;> omega) (by simp) (by simp)
  ·rcases eqCases x.k 4 with q4 | q4
   ·simp -implicitDefEqProofs [-aA, -gval, h5, o1, o2, o3, q4]
    exact go 2 2 (by rw [right 4 q4]; simp [q4]; try (rw [Bool.eq_iff_iff]; simp; omega)) _ (by simp) rfl (by simp <;> omega) (by simp) (by simp)
   ·rcases eqCases x.k 5 with q5 | q5
    ·simp -implicitDefEqProofs [-aA, -gval, h5, o1, o2, o3, q5]
     exact go 2 2 (by rw [right 5 q5]; simp [q5]; try (rw [Bool.eq_iff_iff]; simp; omega)) _ (by simp) rfl (by simp <;> omega) (by simp) (by simp)
    ·rcases eqCases x.k 6 with q6 | q6
     ·simp -implicitDefEqProofs [-aA, -gval, h5, o1, o2, o3, q6]
      exact go 2 2 (by rw [right 6 q6]; simp [q6]; try (rw [Bool.eq_iff_iff]; simp; omega)) _ (by simp) rfl (by simp <;> omega) (by simp) (by simp)
     ·rcases eqCases x.k 7 with q7 | q7
      ·simp -implicitDefEqProofs [-aA, -gval, h5, o1, o2, o3, q7]
       exact go 1 2 (by rw [right 7 q7]; simp [q7]; try (rw [Bool.eq_iff_iff]; simp; omega)) _ (by simp) rfl (by simp <;> omega) (by simp) (by simp)
      ·simp -implicitDefEqProofs [-aA, -gval, h5, o1, o2, o3, q2, q3, q4, q5, q6, q7]
       refine go 0 0 ?_ _ (by simp) rfl (by simp <;> omega) (by simp [h6]) (by simp [h7])
       have n2 := q2.2.1; have n3 := q3.2.1; have n4 := q4.2.1; have n5 := q5.2.1; have n6 := q6.2.1; have n7 := q7.2.1
       rw [right _ rfl, Bool.eq_iff_iff]
       by_cases z : x.k = 0 ∨ x.k = 1
       ·rw [if_pos z]; simp; omega
       ·rw [if_neg z, if_neg (by omega), if_neg (by omega), if_neg n7]; simp; omega
def mG (n : Nat) (o : Option (List Nat)) : Bool := match o with | none => false | some bg => decide (bg.getD (n - 1) 0 = 0)
attribute [local simp] c238t3 c238t6 c238t10 c238t16 c238t21 c238t22 c238t26 c238t27 c238t28 c238t29 c238t33 c238t37 c238t40 c238t43 c238b44 c238t45 c238t47 c238t48 c238t49 c238t50 c238t52 c238t54 c238b55 c238t56 c238t58 c238t59 c238t60 c238t61 c238 in
theorem aUQ (l : List Nd) (ha : ∀ x ∈ l, x.args.length ≤ 1000000) : PSp Tryz.prog 238 [.one (.t (aK l))] (.one (.t (.bool (bE l)))) := by
 refine k238.aG (by simp) rfl rfl ?_
 rcases eqCases (l.length : Int) 0 with z | z
 ·have e : l = [] := List.length_eq_zero_iff.1 (by omega)
  subst e
  simp -implicitDefEqProofs [-aA, -gval, aC]
  simp [bE, eP]
 ·by_cases hl : l.length ≤ 20
  ·have hlI : ¬ (20 : Int) < l.length := by omega
   have hF : bE l = mG l.length (eP l []) := by
    have : ¬ l.length = 0 := by omega
    simp only [bE, mG, hl, this, false_or, decide_true, Bool.true_and]
    cases eP l [] <;> rfl
   obtain ⟨R, hR⟩ : ∃ R, mG l.length (eP l []) = R := ⟨_, rfl⟩
   rw [hF, hR]
   simp -implicitDefEqProofs [-aA, -gval, z, hlI]
   refine dP l (fun _ r (bg : List Nat) => mG l.length (eP r bg)) R [] [0] [] (fun i bg st => st.tmps 4 = .one (.t (I i)) ∧ bg.length = i ∧ (∀ (j b : Nat), bg[j]? = some b → b ≤ j) ∧ BS bg st.tmps st.heap st.nx) (by simp [short]; omega) hR ⟨⟨by simp, by simp, by simp, .inl ⟨rfl, by simp⟩⟩, by simp, by simp⟩ ?_ ?_
   ·rintro i y bg st' hi hiI hw hg hy hany ⟨h4, rfl, hbg, hb⟩ hk hh
    simp at hk
    rw [eP] at hany
    simp -implicitDefEqProofs [-aA, -gval, hk, h4, hi, hiI, aE hg, -List.getElem_map, Nd.row]
    refine aQZ y bg hbg (by omega) (ha y hy) (st'.nx + 4 + 4) _ _ _ ?_ ?_ ?_ ?_ ?_ ?_ ?_ ?_
    ·simp [h4]
    ·simp
    ·simp [Hp.set]
    ·refine hb.aQW (by simp) (fun j hj => ?_) (by simp <;> omega)
     simp only [Hp.set]; rw [if_neg (by omega)]
    ·simp
    ·simp
    ·intro hno st2 k2
     simp -implicitDefEqProofs [-aA, -gval, aC, k2]
     rcases hno with h | h
     ·rw [h] at hany; simpa [mG] using hany
     ·rw [h] at hany; simpa [mG] using hany
    ·intro ho n hn hle st2 k1 k2 k3
     simp at k1
     simp -implicitDefEqProofs [-aA, -gval, k1, hk, h4, hw]
     rw [ho, hn] at hany
     refine ⟨bg ++ [n], by simpa using hany, by simp, fun j b hj => ?_, k2.more (by simp) rfl (by simp <;> omega)⟩
     rcases Nat.lt_or_ge j bg.length with h | h
     ·rw [List.getElem?_append_left h] at hj; exact hbg j b hj
     ·rw [List.getElem?_append_right h] at hj
      have : j - bg.length = 0 := by
       rcases Nat.eq_zero_or_pos (j - bg.length) with e | e
       ·exact e
       ·rw [List.getElem?_eq_none (by simp; omega)] at hj; cases hj
      rw [this] at hj
      simp at hj; omega
   ·rintro bg st' hany ⟨h4, hbl, hbg, hb⟩ hk hh
    simp at hk
    rw [eP] at hany
    have hpos : 0 < l.length := by omega
    rcases hb with ⟨g1, g2⟩ | ⟨g1, id, ver, g2, g3, g4⟩
    ·subst g1; simp at hbl; omega
    ·obtain ⟨q1, q2, q3, q4⟩ := aF g3
     obtain ⟨m, hm⟩ : ∃ m, l.length = m + 1 := ⟨l.length - 1, by omega⟩
     have hmb : m < bg.length := by omega
     have hmI : (m : Int) < bg.length := by omega
     have hw : IntKind.i64.wrap (m : Int) = m := wrap_i64 (by omega) (by omega)
     have hge : bg.getD m 0 = bg[m] := by simp [List.getD_eq_getElem?_getD, List.getElem?_eq_getElem hmb]
     have hw' : IntKind.i64.wrap ((m : Int) + 1 - 1) = m := by rw [Int.add_sub_cancel]; exact hw
     simp only [mG] at hany
     rw [hm, Nat.add_sub_cancel, hge] at hany
     simp -implicitDefEqProofs [-aA, -gval, hk, h4, g2, q1, q2, q3, hm, hw, hmI, hmb, aC]
     rw [← hany, aLI]
  ·have hF : bE l = false := by simp [bE, hl]
   have hlI : (20 : Int) < l.length := by omega
   rw [hF]
   simp -implicitDefEqProofs [-aA, -gval, z, hlI, aC]
end Go.Proofs.YtdpbobkcbakpfaaGreatDoor

namespace Go.Proofs.YtdpbobkcbakpfaaGreatDoor
open Go Go.Ab
set_option maxRecDepth 100000
set_option maxHeartbeats 4000000
attribute [local simp] bL aM aS aK aY aO bI tyC fdC vlC ndC aP D.dQ D.pt
def Fd.gL (f : Fd) : Bool := f.pres == 2 && (f.dflt.length : Int) != 1
def Ty.fR (t : Ty) : Bool := ((lI t.kind && (t.of.length : Int) != 1) || !bE t.limits) || ((t.kind == 13 || t.kind == 3) && decide (t.root < 1)) || t.gP || t.fields.any Fd.gL
attribute [local simp] c197t3 c197t6 c197t9 c197t12 c197t15 c197t17 c197b18 c197t19 c197t21 c197t22 c197t23 c197t24 c197 in
theorem aJZ (t : Ty) (hn : t.narrow = true) (st : St) (h1 : TB t 1 st) (_hnx : 0 < st.nx) : aT Tryz.prog 92 (aC [.tmp 2] (.one (.t (.bool (t.fields.any Fd.gL))))) c197t21 [] st := by
 have hnr := (Ty.aR t).1 hn
 have hle := hnr.2.2.1
 obtain ⟨h1, h2⟩ := h1
 obtain ⟨o1, o2, o3, o4⟩ := aF h2
 simp -implicitDefEqProofs [-aA, -gval]
 refine bB t.fields Fd.gL [1] [0] (fun i st => st.tmps 3 = .one (.t (I i))) (by simp [short]; omega) ⟨by simp, by simp, by simp []⟩ ?_ ?_
 ·intro i f st' hi hiI hw' hg hy hany hx hk hh
  simp [h1] at hk hh
  obtain ⟨o1, o2, o3, o4⟩ := aF (hh.1.trans h2)
  have hd : f.gL = (f.pres == 2 && !((f.dflt.length : Int) == 1)) := rfl
  rw [hd] at hany ⊢
  obtain ⟨a, ea⟩ : ∃ x, (f.pres == 2) = x := ⟨_, rfl⟩
  obtain ⟨b, eb⟩ : ∃ x, ((f.dflt.length : Int) == 1) = x := ⟨_, rfl⟩
  rw [ea, eb] at hany ⊢
  cases a <;> cases b
  all_goals simp -implicitDefEqProofs [-aA, -gval, h1, hx, hk, hi, hiI, hw', o1, o2, o3, aE hg, Fd.aJ, -List.getElem_map, ea, eb, bne, aC]
  all_goals first | exact hh.1 | simpa using hany
 ·intro st' hany hx hk hh
  simp [h1] at hk hh
  obtain ⟨o1, o2, o3, o4⟩ := aF (hh.1.trans h2)
  rw [hany]
  simp -implicitDefEqProofs [-aA, -gval, hk, hx, o1, o2, o3, aC]
attribute [local simp] c197t3 c197t6 c197t9 c197t12 c197t15 c197t17 c197b18 c197t19 c197t22 c197t23 c197t24 c197 in
theorem aK0 (t : Ty) (hn : t.narrow = true) (st : St) (h1 : TB t 1 st) (_hnx : 0 < st.nx) : aT Tryz.prog 92 (aC [.tmp 2] (.one (.t (.bool (t.gP || t.fields.any Fd.gL))))) c197t22 [] st := by
 have rest := aJZ t hn
 obtain ⟨h1, h2⟩ := h1
 obtain ⟨o1, o2, o3, o4⟩ := aF h2
 generalize t.fields.any Fd.gL = R at *
 obtain ⟨a, e0⟩ : ∃ a, (t.kind == 14) = a := ⟨_, rfl⟩
 obtain ⟨b, e1⟩ : ∃ b, (t.name.toList == (bs []).toList) = b := ⟨_, rfl⟩
 obtain ⟨c, e2⟩ : ∃ c, decide (0 < t.fields.length) = c := ⟨_, rfl⟩
 have e2' : decide ((t.fields.length : Int) > 0) = c := by rw [← e2]; congr 1; simp
 obtain ⟨d, e3⟩ : ∃ c, ((t.fields.length : Int) == 2) = c := ⟨_, rfl⟩
 obtain ⟨e, e4⟩ : ∃ c, ((t.fields.length : Int) == 3) = c := ⟨_, rfl⟩
 have s2 : t.gP = (a && ((b && c) || (!b && !d && !e))) := by
  simp only [Ty.gP, bF, e0, e1, e2', bne, e3, e4]
 rw [s2]
 obtain ⟨u1, m1⟩ : ∃ y, (b && c) = y := ⟨_, rfl⟩
 obtain ⟨u2, m2⟩ : ∃ y, (!b && !d) = y := ⟨_, rfl⟩
 obtain ⟨u3, m3⟩ : ∃ y, (u2 && !e) = y := ⟨_, rfl⟩
 obtain ⟨u4, m4⟩ : ∃ y, (u1 || u3) = y := ⟨_, rfl⟩
 obtain ⟨u5, m5⟩ : ∃ y, (a && u4) = y := ⟨_, rfl⟩
 simp only [m1, m2, m3, m4, m5]
 simp -implicitDefEqProofs [-aA, -gval, h1, o1, o2, o3, e0, e1, e2, e3, e4, bne, m1, m2, m3, m4, m5, -Bool.not_or, -Bool.not_and]
 refine ⟨fun h => by simp [h], fun h h' => by simp [h, h'], fun h h' => by simp [h, h'], fun h => by simp [h], fun h => ?_, fun h => ?_⟩
 ·subst h; simp -implicitDefEqProofs [-aA, -gval, aC]
 ·subst h; simp -implicitDefEqProofs [-aA, -gval]
  exact rest _ ⟨by simp [h1], by simp [h2]⟩ (by simp <;> omega)
attribute [local simp] c197t3 c197t6 c197t9 c197t12 c197t15 c197t17 c197b18 c197t19 c197t21 c197t23 c197t24 c197 in
theorem aK1 (t : Ty) (hn : t.narrow = true) (st : St) (h1 : TB t 1 st) (_hnx : 0 < st.nx) : aT Tryz.prog 92 (aC [.tmp 2] (.one (.t (.bool (((t.kind == 13 || t.kind == 3) && decide (t.root < 1)) || t.gP || t.fields.any Fd.gL))))) c197t23 [] st := by
 have rest := aK0 t hn
 obtain ⟨h1, h2⟩ := h1
 obtain ⟨o1, o2, o3, o4⟩ := aF h2
 rw [Bool.or_assoc]
 generalize (t.gP || t.fields.any Fd.gL) = R at *
 obtain ⟨a, e0⟩ : ∃ a, (t.kind == 13) = a := ⟨_, rfl⟩
 obtain ⟨b, e1⟩ : ∃ a, (t.kind == 3) = a := ⟨_, rfl⟩
 obtain ⟨c, e2⟩ : ∃ c, decide (t.root < 1) = c := ⟨_, rfl⟩
 obtain ⟨u1, m1⟩ : ∃ y, (a || b) = y := ⟨_, rfl⟩
 obtain ⟨u2, m2⟩ : ∃ y, (u1 && c) = y := ⟨_, rfl⟩
 simp only [e0, e1, e2, m1, m2]
 simp -implicitDefEqProofs [-aA, -gval, h1, o1, o2, o3, e0, e1, e2, m1, m2, -Bool.not_or, -Bool.not_and]
 refine ⟨fun h => ?_, fun h => ?_⟩
 ·subst h; simp -implicitDefEqProofs [-aA, -gval, aC]
 ·subst h; simp -implicitDefEqProofs [-aA, -gval]
  exact rest _ ⟨by simp [h1], by simp [h2]⟩ (by simp <;> omega)
attribute [local simp] c197t3 c197t6 c197t9 c197t12 c197t15 c197t17 c197b18 c197t19 c197t21 c197t22 c197t24 c197 in
theorem aK2 (t : Ty) (hn : t.narrow = true) (st : St) (h1 : TB t 1 st) (_hnx : 0 < st.nx) : aT Tryz.prog 92 (aC [.tmp 2] (.one (.t (.bool t.fR)))) c197t24 [] st := by
 have rest := aK1 t hn
 have hnr := (Ty.aR t).1 hn
 obtain ⟨h1, h2⟩ := h1
 obtain ⟨o1, o2, o3, o4⟩ := aF h2
 have e : t.fR = ((lI t.kind && (t.of.length : Int) != 1) || (!bE t.limits || (((t.kind == 13 || t.kind == 3) && decide (t.root < 1)) || t.gP || t.fields.any Fd.gL))) := by
  simp only [Ty.fR, Bool.or_assoc]
 rw [e]
 generalize (((t.kind == 13 || t.kind == 3) && decide (t.root < 1)) || t.gP || t.fields.any Fd.gL) = R at *
 obtain ⟨a, e0⟩ : ∃ a, (t.kind == 11 || t.kind == 12) = a := ⟨_, rfl⟩
 obtain ⟨c, e2⟩ : ∃ c, ((t.of.length : Int) != 1) = c := ⟨_, rfl⟩
 obtain ⟨u2, m2⟩ : ∃ y, (a && c) = y := ⟨_, rfl⟩
 have e0' : lI t.kind = a := e0
 simp only [e0', e2, m2]
 simp -implicitDefEqProofs [-aA, -gval, h1, o1, o2, o3, e0, e2, m2, -Bool.not_or, -Bool.not_and]
 refine ⟨fun h => ?_, fun h => ?_⟩
 ·subst h
  refine aD.tree (aUQ t.limits (fun x hx => by have := (hnr.2.2.2.2.2.1 x hx).2; omega)) rfl ?_
  cases bE t.limits
  ·simp -implicitDefEqProofs [-aA, -gval, aC]
  ·simp -implicitDefEqProofs [-aA, -gval]
   exact rest _ ⟨by simp [h1], by simp [h2]⟩ (by simp <;> omega)
 ·subst h
  simp -implicitDefEqProofs [-aA, -gval, aC]
attribute [local simp] c197t3 c197t6 c197t9 c197t12 c197t15 c197t17 c197b18 c197t19 c197t21 c197t22 c197t23 c197 in
theorem aUR (t : Ty) (hn : t.narrow = true) : PSp Tryz.prog 197 [.agg (tyC t)] (.one (.t (.bool t.fR))) := by
 refine k197.aG (by simp) (by simp [D.closed, A.closed]) rfl ?_
 have rest := aK2 t hn
 simp -implicitDefEqProofs [-aA, -gval]
 exact rest _ ⟨by simp, by simp [Hp.set]⟩ (by simp)
end Go.Proofs.YtdpbobkcbakpfaaGreatDoor

namespace Go.Proofs.YtdpbobkcbakpfaaGreatDoor
open Go Go.Ab
set_option maxRecDepth 100000
set_option maxHeartbeats 4000000
attribute [local simp] bL aM aS aK aY aO bI tyC fdC vlC ndC aP D.dQ D.pt
def Ty.fF (t : Ty) : Bool := t.kind == 3 && t.fields.any fun f => !isNum f.num
def cJ : List Fd → Int × Int → Bool
 | [], _ => true
 | f :: r, (last, before) => if f.grp != 0 && f.grp != before then (if f.grp != IntKind.i64.wrap (last + 1) then false else cJ r (f.grp, f.grp)) else cJ r (last, f.grp)
attribute [local simp] c198t3 c198t6 c198t9 c198t11 c198b12 c198t13 c198t16 c198t19 c198t22 c198t24 c198b25 c198t26 c198t28 c198b29 c198t30 c198t34 c198t39 c198t41 c198t43 c198t45 c198b46 c198t47 c198t50 c198t53 c198t55 c198b56 c198t57 c198t59 c198t60 c198t61 c198t62 c198t63 c198t64 c198 in
theorem aM8 (t : Ty) (hn : t.narrow = true) (st : St) (h1 : TB t 1 st) (_hnx : 0 < st.nx) : aT Tryz.prog 175 (aC [.tmp 2] (.one (.t (I (if t.fF then 3 else 0))))) c198t59 [] st := by
 have hnr := (Ty.aR t).1 hn
 have hle := hnr.2.2.1
 obtain ⟨h1, h2⟩ := h1
 obtain ⟨o1, o2, o3, o4⟩ := aF h2
 have e0 : t.fF = (t.kind == 3 && t.fields.any fun f => !isNum f.num) := rfl
 rcases eqCases t.kind 3 with q | q
 ·simp only [q, beq_self_eq_true, Bool.true_and] at e0
  obtain ⟨R, hR⟩ : ∃ R, (if t.fF then (3 : Int) else 0) = R := ⟨_, rfl⟩
  rw [hR]
  rw [e0] at hR
  simp -implicitDefEqProofs [-aA, -gval]
  refine bB t.fields (fun f => !isNum f.num) [1] [0] (fun i st => st.tmps 10 = .one (.t (I i))) (by simp [short]; omega) ⟨by simp, by simp, by simp []⟩ ?_ ?_
  ·intro i f st' hi hiI hw' hg hy hany hx hk hh
   simp [h1] at hk hh
   obtain ⟨o1, o2, o3, o4⟩ := aF (hh.1.trans h2)
   have hd : (!isNum f.num) = !(decide (-1152921504606846976 ≤ f.num) && decide (f.num ≤ 1152921504606846976)) := rfl
   rw [hd] at hany
   obtain ⟨a, ea⟩ : ∃ x, (decide (-1152921504606846976 ≤ f.num) && decide (f.num ≤ 1152921504606846976)) = x := ⟨_, rfl⟩
   rw [ea] at hany hd
   simp -implicitDefEqProofs [-aA, -gval, h1, hx, hk, hi, hiI, o1, o2, o3, aE hg, Fd.aJ, -List.getElem_map, q]
   refine aD.tree (dC _ _ _) rfl ?_
   rw [ea]
   cases a
   ·rw [hany rfl] at hR
    subst hR
    simp -implicitDefEqProofs [-aA, -gval, aC]
   ·simp -implicitDefEqProofs [-aA, -gval, hx, hk, hw']
    exact ⟨by simpa using hd, hh.1⟩
  ·intro st' hany hx hk hh
   simp [h1] at hk hh
   obtain ⟨o1, o2, o3, o4⟩ := aF (hh.1.trans h2)
   rw [hany] at hR
   subst hR
   simp -implicitDefEqProofs [-aA, -gval, hk, hx, o1, o2, o3, aC]
 ·have : t.fF = false := by rw [e0, q.1]; rfl
  rw [this]
  simp -implicitDefEqProofs [-aA, -gval]
  refine bB ([] : List Fd) (fun f => !isNum f.num) [1] [0] (fun i st => st.tmps 10 = .one (.t (I i))) (by simp [short]) ⟨by simp, by simp, by simp []⟩ ?_ ?_
  ·intro i f st' hi; simp at hi
  ·intro st' hany hx hk hh
   simp [h1] at hk hh hx
   obtain ⟨o1, o2, o3, o4⟩ := aF (hh.1.trans h2)
   simp -implicitDefEqProofs [-aA, -gval, hk, hx, o1, o2, o3, q, aC]
attribute [local simp] c198t3 c198t6 c198t9 c198t11 c198b12 c198t13 c198t16 c198t19 c198t22 c198t24 c198b25 c198t26 c198t28 c198b29 c198t30 c198t34 c198t39 c198t41 c198t43 c198t45 c198b46 c198t47 c198t50 c198t53 c198t55 c198b56 c198t57 c198t60 c198t61 c198t62 c198t63 c198t64 c198 in
theorem aM9 (t : Ty) (hn : t.narrow = true) (hrt : 0 ≤ t.root ∧ t.root ≤ t.fields.length) (st : St) (h1 : TB t 1 st) (_hnx : 0 < st.nx) (h6 : st.tmps 6 = .one (.t (I 0))) (h7 : st.tmps 7 = .one (.t (I 0))) :
  aT Tryz.prog 175 (aC [.tmp 2] (.one (.t (I (if bR t.kind && !cJ (t.fields.drop t.root.toNat) (0, 0) then 14 else if t.fF then 3 else 0))))) c198t60 [] st := by
 have rest := aM8 t hn
 have hnr := (Ty.aR t).1 hn
 have hle := hnr.2.2.1
 obtain ⟨h1, h2⟩ := h1
 obtain ⟨o1, o2, o3, o4⟩ := aF h2
 generalize (if t.fF then (3 : Int) else 0) = R3 at *
 obtain ⟨r, hr⟩ : ∃ r : Nat, t.root = r := ⟨t.root.toNat, by omega⟩
 rw [hr, Int.toNat_natCast]
 have qT := aM7 t.kind
 obtain ⟨g, eg⟩ : ∃ x, bR t.kind = x := ⟨_, rfl⟩
 rw [eg] at qT ⊢
 cases g
 ·simp -implicitDefEqProofs [-aA, -gval, h1, o1, o2, o3, hr]
  refine bB ([] : List Fd) (fun f => !isNum f.num) [1] [0] (fun i st => st.tmps 8 = .one (.t (I r))) (by simp [short]) ⟨by simp, by simp, by simp []⟩ ?_ ?_
  ·intro i f st' hi; simp at hi
  ·intro st' hany hx hk hh
   simp [h1] at hk hh hx
   obtain ⟨o1, o2, o3, o4⟩ := aF (hh.1.trans h2)
   obtain ⟨b, eb⟩ : ∃ x, decide ((r : Int) < (t.fields.length : Int)) = x := ⟨_, rfl⟩
   have eb' : decide (r < t.fields.length) = b := by rw [← eb]; congr 1; simp
   cases b
   ·simp -implicitDefEqProofs [-aA, -gval, hk, hx, o1, o2, o3, eb']
    exact rest _ ⟨by simp [hk], by simp [hh, h2]⟩ (by simp <;> omega)
   ·simp -implicitDefEqProofs [-aA, -gval, hk, hx, o1, o2, o3, eb']
    refine aD.tree qT rfl ?_
    simp -implicitDefEqProofs [-aA, -gval]
    exact rest _ ⟨by simp [hk], by simp [hh, h2]⟩ (by simp <;> omega)
 ·have hdl : (t.fields.drop r).length = t.fields.length - r := by simp
  obtain ⟨R, hR⟩ : ∃ R, (if (true && !cJ (t.fields.drop r) (0, 0)) then (14 : Int) else R3) = R := ⟨_, rfl⟩
  rw [hR]
  simp -implicitDefEqProofs [-aA, -gval, h1, o1, o2, o3, hr]
  refine dP (t.fields.drop r) (fun _ l s => if (true && !cJ l s) then (14 : Int) else R3) R (0, 0) [1] [0] (fun i s st => st.tmps 8 = .one (.t (I ((r + i : Nat) : Int))) ∧ st.tmps 6 = .one (.t (I s.1)) ∧ st.tmps 7 = .one (.t (I s.2))) (by simp [short]; omega) hR ⟨by simp [h6, h7], by simp, by simp []⟩ ?_ ?_
  ·rintro i f ⟨last, before⟩ st' hi hiI hw hg hy hany ⟨hx, k6, k7⟩ hk hh
   simp [h1] at hk hh
   simp only [] at k6 k7
   obtain ⟨o1, o2, o3, o4⟩ := aF (hh.1.trans h2)
   rw [List.getElem?_drop] at hg
   have hri : r + i < t.fields.length := by omega
   have aOL : ((r + i : Nat) : Int) < (t.fields.length : Int) := by omega
   have hw2 : IntKind.i64.wrap (((r + i : Nat) : Int) + 1) = ((r + i + 1 : Nat) : Int) := by
    exact wrap_i64 (by omega) (by omega)
   obtain ⟨m, em⟩ : ∃ m, r + i = m := ⟨_, rfl⟩
   rw [em] at hg hri aOL hw2 hx
   simp -implicitDefEqProofs [-aA, -gval, hk, hx, o1, o2, o3, aOL]
   refine aD.tree qT rfl ?_
   obtain ⟨a, ea⟩ : ∃ x, (f.grp == 0) = x := ⟨_, rfl⟩
   obtain ⟨b, eb⟩ : ∃ x, (f.grp == before) = x := ⟨_, rfl⟩
   obtain ⟨c, ec⟩ : ∃ x, (f.grp == IntKind.i64.wrap (last + 1)) = x := ⟨_, rfl⟩
   simp only [cJ, bne, ea, eb, ec] at hany
   cases a <;> cases b <;> cases c
   all_goals simp -implicitDefEqProofs [-aA, -gval, hk, hx, k6, k7, o1, o2, o3, hri, aOL, aE hg, Fd.aJ, -List.getElem_map, bne, ea, eb, ec, hw2]
   all_goals first | (exact ⟨_, _, by simpa using hany, ⟨by omega, rfl, rfl⟩, h1.symm, hh.1⟩) | (simp -implicitDefEqProofs [-aA, -gval, aC]; simpa using hany)
  ·rintro ⟨last, before⟩ st' hany ⟨hx, k6, k7⟩ hk hh
   simp [h1] at hk hh
   obtain ⟨o1, o2, o3, o4⟩ := aF (hh.1.trans h2)
   have hm : ((r + (t.fields.length - r) : Nat) : Int) = t.fields.length := by omega
   rw [hdl, hm] at hx
   simp [cJ] at hany
   rw [← hany]
   simp -implicitDefEqProofs [-aA, -gval, hk, hx, o1, o2, o3]
   exact rest _ ⟨by simp [hk], by simp [hh, h2]⟩ (by simp <;> omega)
def Ty.lJ (t : Ty) : Int :=
 if (t.kind == 6 && !fD t.name) || (t.kind == 15 && !aW t.name) || (t.kind == 14 && !bF t.name (bs []) && !aW t.name) then 7
 else if t.kind != 15 && t.fields.any (fun f => !aW f.name) then 7
 else if (bR t.kind || t.kind == 3) && (List.range t.fields.length).any (iF t.kind t.fields) then 13
 else if bR t.kind && !cJ (t.fields.drop t.root.toNat) (0, 0) then 14 else if t.fF then 3 else 0
attribute [local simp] c198t3 c198t6 c198t9 c198t11 c198b12 c198t13 c198t16 c198t19 c198t22 c198t24 c198b25 c198t26 c198t28 c198b29 c198t30 c198t34 c198t39 c198t41 c198t43 c198t45 c198b46 c198t47 c198t50 c198t53 c198t55 c198b56 c198t57 c198t59 c198t61 c198t62 c198t63 c198t64 c198 in
theorem aMA (t : Ty) (hn : t.narrow = true) (hrt : 0 ≤ t.root ∧ t.root ≤ t.fields.length) (st : St) (h1 : TB t 1 st) (_hnx : 0 < st.nx) :
  aT Tryz.prog 175 (aC [.tmp 2] (.one (.t (I (if (bR t.kind || t.kind == 3) && (List.range t.fields.length).any (iF t.kind t.fields) then 13 else if bR t.kind && !cJ (t.fields.drop t.root.toNat) (0, 0) then 14 else if t.fF then 3 else 0))))) c198t62 [] st := by
 have rest := aM9 t hn hrt
 have hnr := (Ty.aR t).1 hn
 have hle := hnr.2.2.1
 obtain ⟨h1, h2⟩ := h1
 obtain ⟨o1, o2, o3, o4⟩ := aF h2
 generalize (if bR t.kind && !cJ (t.fields.drop t.root.toNat) (0, 0) then 14 else if t.fF then (3 : Int) else 0) = R3 at *
 have qT := aM7 t.kind
 obtain ⟨g, eg⟩ : ∃ x, bR t.kind = x := ⟨_, rfl⟩
 obtain ⟨w, ew⟩ : ∃ x, (t.kind == 3) = x := ⟨_, rfl⟩
 obtain ⟨u, eu⟩ : ∃ x, (g || w) = x := ⟨_, rfl⟩
 rw [eg] at qT ⊢
 rw [ew, eu]
 cases u
 ·simp -implicitDefEqProofs [-aA, -gval]
  refine bB ([] : List Fd) (fun f => !isNum f.num) [1] [0] (fun i st => st.tmps 4 = .one (.t (I 0))) (by simp [short]) ⟨by simp, by simp, by simp []⟩ ?_ ?_
  ·intro i f st' hi; simp at hi
  ·intro st' hany hx hk hh
   simp [h1] at hk hh hx
   obtain ⟨o1, o2, o3, o4⟩ := aF (hh.1.trans h2)
   obtain ⟨b, eb⟩ : ∃ x, decide (0 < t.fields.length) = x := ⟨_, rfl⟩
   cases b
   ·simp -implicitDefEqProofs [-aA, -gval, hk, hx, o1, o2, o3, eb]
    exact rest _ ⟨by simp [hk], by simp [hh, h2]⟩ (by simp <;> omega) (by simp) (by simp)
   ·simp -implicitDefEqProofs [-aA, -gval, hk, hx, o1, o2, o3, eb]
    refine aD.tree qT rfl ?_
    simp -implicitDefEqProofs [-aA, -gval, hk, o1, o2, o3, ew, eu]
    exact rest _ ⟨by simp [hk], by simp [hh, h2]⟩ (by simp <;> omega) (by simp) (by simp)
 ·obtain ⟨R, hR⟩ : ∃ R, (if (true && (List.range t.fields.length).any (iF t.kind t.fields)) then (13 : Int) else R3) = R := ⟨_, rfl⟩
  rw [hR]
  simp only [Bool.true_and] at hR
  simp -implicitDefEqProofs [-aA, -gval]
  refine bB (List.range t.fields.length) (iF t.kind t.fields) [1] [0] (fun i st => st.tmps 4 = .one (.t (I i))) (by simp [short]; omega) ⟨by simp, by simp, by simp []⟩ ?_ ?_
  ·intro i y st' hi hiI hw hg hy hany hx hk hh
   obtain rfl := gH hg
   simp [h1] at hk hh
   have hi' : y < t.fields.length := by simpa using hi
   have aHJ : (y : Int) < (t.fields.length : Int) := by omega
   have hf : t.fields[y]? = some t.fields[y] := List.getElem?_eq_getElem hi'
   have hd : iF t.kind t.fields y = (t.fields.take y).any (dup t.kind t.fields[y]) := by simp [iF, hf]
   rw [hd] at hany ⊢
   generalize t.fields[y] = f at *
   obtain ⟨o1, o2, o3, o4⟩ := aF (hh.1.trans h2)
   simp -implicitDefEqProofs [-aA, -gval, h1, hx, hk, aHJ, o1, o2, o3, -List.getElem_map]
   refine aD.tree qT rfl ?_
   simp -implicitDefEqProofs [-aA, -gval, hk, o1, o2, o3, ew, eu]
   have htl : (t.fields.take y).length = y := by simp; omega
   refine bB (t.fields.take y) (dup t.kind f) [1, 4] [0] (fun i st => st.tmps 5 = .one (.t (I i))) (by simp [short]; omega) ⟨by simp, by simp [hk, hx], by simp [hh]⟩ ?_ ?_
   ·intro j f2 st2 hj hjI hw2 hg2 hy2 aCX hx2 hk2 hh2
    simp [hk, hx] at hk2 hh2
    rw [htl] at hj hjI
    have hg3 : t.fields[j]? = some f2 := by rw [List.getElem?_take, if_pos hj] at hg2; exact hg2
    obtain ⟨o1, o2, o3, o4⟩ := aF (hh2.1.trans (hh.1.trans h2))
    have hjf : j < t.fields.length := by omega
    have aUS : (j : Int) < (t.fields.length : Int) := by omega
    have hdd : dup t.kind f f2 = (f2.name.toList == f.name.toList || (w && f2.num == f.num)) := by rw [← ew]; rfl
    rw [hdd] at aCX ⊢
    obtain ⟨a, ea⟩ : ∃ x, (f2.name.toList == f.name.toList) = x := ⟨_, rfl⟩
    obtain ⟨b, eb⟩ : ∃ x, (f2.num == f.num) = x := ⟨_, rfl⟩
    rw [ea, eb] at aCX ⊢
    cases a <;> cases w <;> cases b
    all_goals simp -implicitDefEqProofs [-aA, -gval, hk2, hx2, hjI, hjf, aUS, hi', aHJ, aE hf, aE hg3, Fd.aJ, o1, o2, o3, ea, eb, ew, hw2, -List.getElem_map]
    all_goals first | exact ⟨⟨hk.symm, hx.symm⟩, hh2.1⟩ | (rw [if_pos (hany (aCX (by simp)))] at hR; subst hR; simp -implicitDefEqProofs [-aA, -gval, aC])
   ·intro st2 aCX hx2 hk2 hh2
    simp [hk, hx] at hk2 hh2
    rw [htl] at hx2
    simp -implicitDefEqProofs [-aA, -gval, hk2, hx2, hw]
    exact ⟨by simpa using aCX, hh2.1.trans hh.1⟩
  ·intro st' hany hx hk hh
   simp [h1] at hk hh
   simp only [List.length_range] at hx
   obtain ⟨o1, o2, o3, o4⟩ := aF (hh.1.trans h2)
   rw [hany] at hR
   subst hR
   simp -implicitDefEqProofs [-aA, -gval, hk, hx, o1, o2, o3]
   exact rest _ ⟨by simp [hk], by simp [hh, h2]⟩ (by simp <;> omega) (by simp) (by simp)
attribute [local simp] c198t3 c198t6 c198t9 c198t11 c198b12 c198t13 c198t16 c198t19 c198t22 c198t24 c198b25 c198t26 c198t28 c198b29 c198t30 c198t34 c198t39 c198t41 c198t43 c198t45 c198b46 c198t47 c198t50 c198t53 c198t55 c198b56 c198t57 c198t59 c198t60 c198t61 c198t63 c198t64 c198 in
theorem aMB (t : Ty) (hn : t.narrow = true) (hrt : 0 ≤ t.root ∧ t.root ≤ t.fields.length) (st : St) (h1 : TB t 1 st) (_hnx : 0 < st.nx) :
  aT Tryz.prog 175 (aC [.tmp 2] (.one (.t (I (if t.kind != 15 && t.fields.any (fun f => !aW f.name) then 7 else if (bR t.kind || t.kind == 3) && (List.range t.fields.length).any (iF t.kind t.fields) then 13 else if bR t.kind && !cJ (t.fields.drop t.root.toNat) (0, 0) then 14 else if t.fF then 3 else 0))))) c198t63 [] st := by
 have rest := aMA t hn hrt
 have hnr := (Ty.aR t).1 hn
 have hle := hnr.2.2.1
 obtain ⟨h1, h2⟩ := h1
 obtain ⟨o1, o2, o3, o4⟩ := aF h2
 generalize (if (bR t.kind || t.kind == 3) && (List.range t.fields.length).any (iF t.kind t.fields) then 13 else if bR t.kind && !cJ (t.fields.drop t.root.toNat) (0, 0) then 14 else if t.fF then (3 : Int) else 0) = R3 at *
 rcases eqCases t.kind 15 with q | q
 ·have e : (if t.kind != 15 && t.fields.any (fun f => !aW f.name) then (7 : Int) else R3) = R3 := by simp [q]
  rw [e]
  simp -implicitDefEqProofs [-aA, -gval]
  refine bB ([] : List Fd) (fun f => !isNum f.num) [1] [0] (fun i st => st.tmps 3 = .one (.t (I 0))) (by simp [short]) ⟨by simp, by simp, by simp []⟩ ?_ ?_
  ·intro i f st' hi; simp at hi
  ·intro st' hany hx hk hh
   simp [h1] at hk hh hx
   obtain ⟨o1, o2, o3, o4⟩ := aF (hh.1.trans h2)
   simp -implicitDefEqProofs [-aA, -gval, hk, hx, o1, o2, o3, q]
   exact rest _ ⟨by simp [hk], by simp [hh, h2]⟩ (by simp <;> omega)
 ·obtain ⟨R, hR⟩ : ∃ R, (if t.fields.any (fun f => !aW f.name) then (7 : Int) else R3) = R := ⟨_, rfl⟩
  have e : (if t.kind != 15 && t.fields.any (fun f => !aW f.name) then (7 : Int) else R3) = R := by rw [← hR, q.2.2.2.2.1]; rfl
  rw [e]
  simp -implicitDefEqProofs [-aA, -gval]
  refine bB t.fields (fun f => !aW f.name) [1] [0] (fun i st => st.tmps 3 = .one (.t (I i))) (by simp [short]; omega) ⟨by simp, by simp, by simp []⟩ ?_ ?_
  ·intro i f st' hi hiI hw' hg hy hany hx hk hh
   simp [h1] at hk hh
   obtain ⟨o1, o2, o3, o4⟩ := aF (hh.1.trans h2)
   have hfn := ((Fd.aR _).1 (hnr.2.2.2.2.2.2.1 _ hy))
   simp -implicitDefEqProofs [-aA, -gval, h1, hx, hk, hi, hiI, o1, o2, o3, aE hg, Fd.aJ, -List.getElem_map, q]
   refine aD.tree (aLT f.name (by omega)) rfl ?_
   rcases bb (aW f.name) with z | z
   ·simp -implicitDefEqProofs [-aA, -gval, z, hx, hk, hw']
    exact hh.1
   ·rw [hany (by simp [z])] at hR
    subst hR
    simp -implicitDefEqProofs [-aA, -gval, z, aC]
  ·intro st' hany hx hk hh
   simp [h1] at hk hh
   obtain ⟨o1, o2, o3, o4⟩ := aF (hh.1.trans h2)
   rw [hany] at hR
   subst hR
   simp -implicitDefEqProofs [-aA, -gval, hk, hx, o1, o2, o3]
   exact rest _ ⟨by simp [hk], by simp [hh, h2]⟩ (by simp <;> omega)
attribute [local simp] c198t3 c198t6 c198t9 c198t11 c198b12 c198t13 c198t16 c198t19 c198t22 c198t24 c198b25 c198t26 c198t28 c198b29 c198t30 c198t34 c198t39 c198t41 c198t43 c198t45 c198b46 c198t47 c198t50 c198t53 c198t55 c198b56 c198t57 c198t59 c198t60 c198t61 c198t62 c198t64 c198 in
theorem aUT (t : Ty) (hn : t.narrow = true) (hrt : 0 ≤ t.root ∧ t.root ≤ t.fields.length) : PSp Tryz.prog 198 [.agg (tyC t)] (.one (.t (I t.lJ))) := by
 have rest := aMB t hn hrt
 have hnr := (Ty.aR t).1 hn
 refine k198.aG (by simp) (by simp [D.closed, A.closed]) rfl ?_
 have e0 : t.lJ = if (t.kind == 6 && !fD t.name) || (t.kind == 15 && !aW t.name) || (t.kind == 14 && !bF t.name (bs []) && !aW t.name) then 7
  else if t.kind != 15 && t.fields.any (fun f => !aW f.name) then 7
  else if (bR t.kind || t.kind == 3) && (List.range t.fields.length).any (iF t.kind t.fields) then 13
  else if bR t.kind && !cJ (t.fields.drop t.root.toNat) (0, 0) then 14 else if t.fF then 3 else 0 := rfl
 rw [e0]
 generalize (if t.kind != 15 && t.fields.any (fun f => !aW f.name) then 7 else if (bR t.kind || t.kind == 3) && (List.range t.fields.length).any (iF t.kind t.fields) then 13 else if bR t.kind && !cJ (t.fields.drop t.root.toNat) (0, 0) then 14 else if t.fF then (3 : Int) else 0) = R3 at *
 have aK3 := aLT t.name (by omega)
 have aUU := aUO t.name
 rcases eqCases t.kind 6 with q6 | q6
 ·simp -implicitDefEqProofs [-aA, -gval, q6]
  refine aD.tree aUU rfl ?_
  cases fD t.name
  ·simp -implicitDefEqProofs [-aA, -gval, aC]
  ·simp -implicitDefEqProofs [-aA, -gval]
   exact rest _ ⟨by simp, by simp [Hp.set, q6]⟩ (by simp)
 ·rcases eqCases t.kind 15 with q15 | q15
  ·simp -implicitDefEqProofs [-aA, -gval, q15]
   refine aD.tree aK3 rfl ?_
   cases aW t.name
   ·simp -implicitDefEqProofs [-aA, -gval, aC]
   ·simp -implicitDefEqProofs [-aA, -gval]
    exact rest _ ⟨by simp, by simp [Hp.set, q15]⟩ (by simp)
  ·rcases eqCases t.kind 14 with q14 | q14
   ·obtain ⟨z, hz⟩ : ∃ z, (t.name.toList == (bs []).toList) = z := ⟨_, rfl⟩
    have hz' : bF t.name (bs []) = z := hz
    rw [hz']
    cases z
    ·simp -implicitDefEqProofs [-aA, -gval, q14, hz, bne]
     refine aD.tree aK3 rfl ?_
     cases aW t.name
     ·simp -implicitDefEqProofs [-aA, -gval, aC]
     ·simp -implicitDefEqProofs [-aA, -gval]
      exact rest _ ⟨by simp, by simp [Hp.set, q14]⟩ (by simp)
    ·simp -implicitDefEqProofs [-aA, -gval, q14, hz, bne]
     exact rest _ ⟨by simp, by simp [Hp.set, q14]⟩ (by simp)
   ·simp -implicitDefEqProofs [-aA, -gval, q6, q15, q14]
    exact rest _ ⟨by simp, by simp [Hp.set]⟩ (by simp)
end Go.Proofs.YtdpbobkcbakpfaaGreatDoor

namespace Go.Proofs.YtdpbobkcbakpfaaGreatDoor
open Go Go.Ab
set_option maxRecDepth 100000
set_option maxHeartbeats 4000000
attribute [local simp] bL aM aS aK aY aO bI tyC fdC vlC ndC aP D.dQ D.pt
def Ty.kW (t : Ty) : Int := if t.bU != 0 then t.bU else if t.iZ then 5 else if t.fR then 6 else t.lJ
theorem Ty.sT (t : Ty) : t.bU = if !(decide (0 ≤ t.kind) && decide (t.kind ≤ 15)) then 4 else if 3 < t.tags.length ∨ 16 < t.fields.length ∨ t.kind = 15 ∧ 4 < t.fields.length then 2 else if t.dS then 3 else 0 := by
 cases t; rfl
attribute [local simp] c153t3 c153t7 c153t10 c153t13 c153t16 c153t19 c153t21 c153t22 c153t23 c153t24 c153t25 c153t26 c153t27 c153 in
theorem aR0 (t : Ty) (hn : t.narrow = true) (R : Int) (hR : (if t.dS then 3 else if t.iZ then 5 else if t.fR then 6 else t.lJ) = R) (st : St) (h1 : TB t 1 st) (_hnx : 0 < st.nx) : aT Tryz.prog 30 (aC [.tmp 2] (.one (.t (I R)))) c153t23 [] st := by
 have hrt : t.dS = false → 0 ≤ t.root ∧ t.root ≤ t.fields.length := fun h => by
  simp [Ty.dS] at h; omega
 obtain ⟨h1, h2⟩ := h1
 obtain ⟨o1, o2, o3, o4⟩ := aF h2
 simp -implicitDefEqProofs [-aA, -gval, h1, o1, o2, o3]
 refine aD.tree (aUL t hn) rfl ?_
 rcases bb t.dS with z | z
 ·rw [z] at hR ⊢
  simp at hR; subst hR
  simp -implicitDefEqProofs [-aA, -gval, aC]
 ·have hrt := hrt z
  rw [z] at hR ⊢
  simp -implicitDefEqProofs [-aA, -gval, h1, o1, o2, o3]
  refine aD.tree (aUN t hn) rfl ?_
  rcases bb t.iZ with y | y
  ·rw [y] at hR ⊢
   simp at hR; subst hR
   simp -implicitDefEqProofs [-aA, -gval, aC]
  ·rw [y] at hR ⊢
   simp -implicitDefEqProofs [-aA, -gval, h1, o1, o2, o3]
   refine aD.tree (aUR t hn) rfl ?_
   rcases bb t.fR with x | x
   ·rw [x] at hR ⊢
    simp at hR; subst hR
    simp -implicitDefEqProofs [-aA, -gval, aC]
   ·rw [x] at hR ⊢
    simp -implicitDefEqProofs [-aA, -gval, h1, o1, o2, o3]
    refine aD.tree (aUT t hn hrt) rfl ?_
    simp at hR; subst hR
    simp -implicitDefEqProofs [-aA, -gval, aC]
attribute [local simp] c153t3 c153t7 c153t10 c153t13 c153t16 c153t19 c153t21 c153t22 c153t24 c153t25 c153t26 c153t27 c153 in
theorem aUV (t : Ty) (hn : t.narrow = true) : PSp Tryz.prog 153 [.agg (tyC t)] (.one (.t (I t.kW))) := by
 have rest := aR0 t hn
 obtain ⟨R, hR⟩ : ∃ R, t.kW = R := ⟨_, rfl⟩
 rw [hR]
 rw [Ty.kW, Ty.sT] at hR
 refine k153.aG (by simp) (by simp [D.closed, A.closed]) rfl ?_
 simp -implicitDefEqProofs [-aA, -gval]
 refine aD.tree (dC _ _ _) rfl ?_
 obtain ⟨a, ea⟩ : ∃ x, (decide (0 ≤ t.kind) && decide (t.kind ≤ 15)) = x := ⟨_, rfl⟩
 rw [ea] at hR ⊢
 cases a
 ·simp at hR; subst hR
  simp -implicitDefEqProofs [-aA, -gval, aC]
 ·simp only [Bool.not_true, Bool.false_eq_true, if_false] at hR
  rcases eqCases t.kind 15 with q | q
  ·simp -implicitDefEqProofs [-aA, -gval, q]
   refine ⟨fun h => ?_, fun h h' => ?_⟩
   ·have : 3 < t.tags.length ∨ 16 < t.fields.length ∨ t.kind = 15 ∧ 4 < t.fields.length := by omega
    simp only [if_pos this] at hR
    simp at hR; subst hR
    simp -implicitDefEqProofs [-aA, -gval, aC]
   ·have : ¬ (3 < t.tags.length ∨ 16 < t.fields.length ∨ t.kind = 15 ∧ 4 < t.fields.length) := by omega
    simp only [if_neg this] at hR
    exact rest R (by cases hz : t.dS <;> simpa [hz] using hR) _ ⟨by simp, by simp [Hp.set, q]⟩ (by simp)
  ·simp -implicitDefEqProofs [-aA, -gval, q]
   refine ⟨fun h => ?_, fun h h' => ?_⟩
   ·have : 3 < t.tags.length ∨ 16 < t.fields.length ∨ t.kind = 15 ∧ 4 < t.fields.length := by omega
    simp only [if_pos this] at hR
    simp at hR; subst hR
    simp -implicitDefEqProofs [-aA, -gval, aC]
   ·have : ¬ (3 < t.tags.length ∨ 16 < t.fields.length ∨ t.kind = 15 ∧ 4 < t.fields.length) := by omega
    simp only [if_neg this] at hR
    exact rest R (by cases hz : t.dS <;> simpa [hz] using hR) _ ⟨by simp, by simp [Hp.set]⟩ (by simp)
end Go.Proofs.YtdpbobkcbakpfaaGreatDoor

namespace Go.Proofs.YtdpbobkcbakpfaaGreatDoor
open Go Go.Ab
set_option maxRecDepth 100000
set_option maxHeartbeats 4000000
theorem aAV (root : Int) : ∀ (l : List Fd) (i : Nat) (last before : Int), (∀ f ∈ l, 0 ≤ f.grp) → root ≤ i → 0 ≤ last → last + l.length < 4611686018427387904 → (before = 0 ∨ before = last) → dH root i l (last, before) = cJ l (last, before)
 | [], i, last, before, _, _, _, _, _ => by simp [dH, cJ]
 | f :: r, i, last, before, hg, hi, h0, hl, hb => by
  have hf := hg f (by simp)
  have hg' : ∀ f ∈ r, 0 ≤ f.grp := fun x hx => hg x (by simp [hx])
  simp only [List.length_cons] at hl
  have hw : IntKind.i64.wrap (last + 1) = last + 1 := wrap_i64 (by omega) (by omega)
  simp only [dH, cJ, hw]
  by_cases z : f.grp = 0
  ·have h1 : ¬ last < 0 := by omega
   simp only [z, beq_self_eq_true, Bool.true_or, if_true, if_neg h1, bne_self_eq_false, Bool.false_and, Bool.false_eq_true, if_false]
   exact aAV root r (i + 1) last 0 hg' (by omega) h0 (by omega) (.inl rfl)
  ·have zb : (f.grp == 0) = false := by simp [z]
   have zn : (f.grp != 0) = true := by simp [z]
   have hge : decide ((i : Int) ≥ root) = true := by simp; omega
   simp only [zb, zn, hge, Bool.false_or, Bool.true_and]
   by_cases e : f.grp = before
   ·have hbl : before = last := by rcases hb with h | h <;> omega
    subst hbl
    have e1 : ¬ before < f.grp := by omega
    simp only [e, bne_self_eq_false, beq_self_eq_true, Bool.and_self, Bool.or_true, if_true, Bool.false_eq_true, if_false]
    rw [if_neg (by omega)]
    exact aAV root r (i + 1) before before hg' (by omega) h0 (by omega) (.inr rfl)
   ·have en : (f.grp != before) = true := by simp [e]
    simp only [en, if_true]
    by_cases e2 : f.grp = last + 1
    ·have q1 : (f.grp == last + 1) = true := by simp [e2]
     have q2 : (f.grp != last + 1) = false := by simp [e2]
     simp only [q1, q2, Bool.true_or, if_true, Bool.false_eq_true, if_false]
     rw [if_pos (by omega)]
     exact aAV root r (i + 1) f.grp f.grp hg' (by omega) (by omega) (by omega) (.inr rfl)
    ·have q1 : (f.grp == last + 1) = false := by simp [e2]
     have q2 : (f.grp != last + 1) = true := by simp [e2]
     have q3 : (f.grp == last && before == last) = false := by
      rw [Bool.eq_false_iff]; simp; intro a b; exact e (a.trans b.symm)
     simp only [q1, q2, q3, Bool.or_self, Bool.false_eq_true, if_false, if_true]
theorem aGE (root : Int) : ∀ (a b : List Fd) (i : Nat), (∀ f ∈ a, f.grp = 0) → dH root i (a ++ b) (0, 0) = dH root (i + a.length) b (0, 0)
 | [], b, i, _ => by simp
 | f :: r, b, i, h => by
  have hf := h f (by simp)
  simp only [List.cons_append, dH, hf, beq_self_eq_true, Bool.true_or, if_true]
  rw [if_neg (by omega), aGE root r b (i + 1) (fun x hx => h x (by simp [hx]))]
  simp only [List.length_cons]
  congr 1; omega
theorem aF7 (t : Ty) (hl : t.fields.length ≤ 1000) (hr : 0 ≤ t.root ∧ t.root ≤ t.fields.length) (hg : ∀ f ∈ t.fields, 0 ≤ f.grp) (h0 : (t.fields.take t.root.toNat).any (fun f => f.grp != 0) = false) :
  dH t.root 0 t.fields (0, 0) = cJ (t.fields.drop t.root.toNat) (0, 0) := by
 have h0' : ∀ f ∈ t.fields.take t.root.toNat, f.grp = 0 := fun f hf => by
  have := (List.any_eq_false.1 h0) f hf
  simpa using this
 have e : t.fields = t.fields.take t.root.toNat ++ t.fields.drop t.root.toNat := (List.take_append_drop _ _).symm
 have := aGE t.root (t.fields.take t.root.toNat) (t.fields.drop t.root.toNat) 0 h0'
 rw [← e] at this
 rw [this]
 refine aAV t.root _ _ 0 0 (fun f hf => hg f (List.mem_of_mem_drop hf)) ?_ (by omega) ?_ (.inl rfl)
 ·simp; omega
 ·simp; omega
def eK (k : Int) : Bool := bR k || k == 3 || k == 14 || k == 15
theorem aF8 (k root : Int) (i : Nat) (f : Fd) (hk : eK k = true) : f.bM k root i = (!f.fits k || (f.grp != 0 && decide ((i : Int) < root))) := by
 have hd : ((f.dflt.length : Int) == 0) = !decide (0 < f.dflt.length) := by rw [Bool.eq_iff_iff]; simp
 simp only [Fd.bM, Fd.fits, Fd.alone, hd, bR]
 generalize decide (0 < f.dflt.length) = d
 generalize decide ((i : Int) < root) = w
 have h1 : k = 9 ∨ k = 10 ∨ k = 13 ∨ k = 3 ∨ k = 14 ∨ k = 15 := by
  simp [eK, bR] at hk; omega
 by_cases p2 : f.pres = 2
 ·rcases h1 with rfl | rfl | rfl | rfl | rfl | rfl <;> simp [p2, bne] <;> (try generalize (f.num == 0) = a) <;> (try generalize (f.grp == 0) = b) <;> (try generalize f.ty.isZ = c) <;> (try generalize bF f.name (bs []) = e) <;> revert d w <;> (try revert a) <;> (try revert b) <;> (try revert c) <;> (try revert e) <;> decide
 ·by_cases p0 : f.pres = 0
  ·rcases h1 with rfl | rfl | rfl | rfl | rfl | rfl <;> simp [p0, bne] <;> (try generalize (f.num == 0) = a) <;> (try generalize (f.grp == 0) = b) <;> (try generalize f.ty.isZ = c) <;> (try generalize bF f.name (bs []) = e) <;> revert d w <;> (try revert a) <;> (try revert b) <;> (try revert c) <;> (try revert e) <;> decide
  ·have q2 : (f.pres == 2) = false := by simp [p2]
   have q0 : (f.pres == 0) = false := by simp [p0]
   rcases h1 with rfl | rfl | rfl | rfl | rfl | rfl <;> simp [q0, q2, bne] <;> (try generalize (f.num == 0) = a) <;> (try generalize (f.grp == 0) = b) <;> (try generalize f.ty.isZ = c) <;> (try generalize bF f.name (bs []) = e) <;> revert d w <;> (try revert a) <;> (try revert b) <;> (try revert c) <;> (try revert e) <;> decide
theorem aF9 (k root : Int) (l : List Fd) (hk : eK k = true) (hr : 0 ≤ root) : (List.range l.length).any (jG k root l) = (l.any (fun f => !f.fits k) || (l.take root.toNat).any fun f => f.grp != 0) := by
 rw [Bool.eq_iff_iff]
 simp only [Bool.or_eq_true, List.any_eq_true, List.mem_range]
 constructor
 ·rintro ⟨i, hi, h⟩
  have q : l[i]? = some l[i] := List.getElem?_eq_getElem hi
  simp only [jG, q, aF8 k root i _ hk, Bool.or_eq_true, Bool.and_eq_true, decide_eq_true_eq] at h
  rcases h with h | ⟨h1, h2⟩
  ·exact .inl ⟨_, List.getElem_mem hi, h⟩
  ·refine .inr ⟨l[i], List.mem_of_getElem? (i := i) ?_, h1⟩
   rw [List.getElem?_take, if_pos (by omega), q]
 ·rintro (⟨f, hf, h⟩ | ⟨f, hf, h⟩)
  ·obtain ⟨i, hi, rfl⟩ := List.getElem_of_mem hf
   refine ⟨i, hi, ?_⟩
   have q : l[i]? = some l[i] := List.getElem?_eq_getElem hi
   simp only [jG, q, aF8 k root i _ hk, h, Bool.true_or]
  ·obtain ⟨i, hi, rfl⟩ := List.getElem_of_mem hf
   simp only [List.length_take] at hi
   rw [List.getElem_take] at h
   refine ⟨i, by omega, ?_⟩
   have q : l[i]? = some l[i] := List.getElem?_eq_getElem (by omega)
   have hw : decide ((i : Int) < root) = true := by simp; omega
   simp only [jG, q, aF8 k root i _ hk, h, hw, Bool.and_self, Bool.or_true]
theorem aMC (t : Ty) (hr : 0 ≤ t.root) : t.iZ = t.bM := by
 have hk : (bR t.kind || t.kind == 3 || t.kind == 14 || t.kind == 15) = eK t.kind := rfl
 simp only [Ty.iZ, Ty.bM, Ty.aCR]
 rcases bb (eK t.kind) with h | h
 ·rw [aF9 _ _ _ h hr]
 ·rcases Nat.eq_zero_or_pos t.fields.length with z | z
  ·have : t.fields = [] := List.length_eq_zero_iff.1 z
   simp [this]
  ·have hz : decide (0 < t.fields.length) = true := by simp [z]
   rw [hk, h]
   simp only [dY, hz, Bool.not_false, Bool.and_self, Bool.or_true, Bool.true_or]
theorem aHO (t : Ty) : t.fR = !t.eG := by
 have hd : (t.fields.any fun f => f.pres == 2 && (f.dflt.length : Int) != 1) = t.fields.any Fd.gL := rfl
 simp only [Ty.fR, Ty.eG, Ty.aAT, hd, lI]
 generalize t.fields.any Fd.gL = a
 generalize bE t.limits = b
 generalize t.gP = c
 generalize ((t.kind == 11 || t.kind == 12) && (t.of.length : Int) != 1) = d
 rw [Bool.or_comm (t.kind == 13)]
 generalize ((t.kind == 3 || t.kind == 13) && decide (t.root < 1)) = e
 revert a b c d e; decide
theorem eQ : bW [] = 0 := rfl
theorem bV (x : Int) (l : List Int) : bW (x :: l) = if x != 0 then x else bW l := by
 simp only [bW, List.findSome?_cons, ne0]
 by_cases h : (x != 0) = true
 ·simp [h]
 ·simp [h]
theorem aK4 (t : Ty) (hl : t.fields.length ≤ 1000) (hr : 0 ≤ t.root ∧ t.root ≤ t.fields.length) (hg : ∀ f ∈ t.fields, 0 ≤ f.grp) (hf : t.bM = false) (hs : t.eG = true) :
  t.lJ = if t.cW != 0 then t.cW else t.jT := by
 have hb : t.aCR = false := by
  simp only [Ty.bM, Bool.or_eq_false_iff] at hf
  exact hf.2
 have h0 : (t.fields.take t.root.toNat).any (fun f => f.grp != 0) = false := by
  simp only [Ty.aCR, Bool.or_eq_false_iff] at hb
  exact hb.2
 have he : eK t.kind = false → t.fields = [] := fun h => by
  have hk : (bR t.kind || t.kind == 3 || t.kind == 14 || t.kind == 15) = eK t.kind := rfl
  simp only [Ty.bM, Bool.or_eq_false_iff, dY, hk, h] at hf
  simpa using hf.1.1.1.1.1.2
 have hgr := aF7 t hl hr hg h0
 simp only [Ty.cW, Ty.jT, hs, if_true, bV, eQ, bne_self_eq_false, Bool.false_eq_true, if_false, hgr]
 simp only [Ty.lJ, Ty.oI, Ty.jS, Ty.fF]
 have isf : ∀ k : Int, k = t.kind → bR t.kind = bR k := fun k h => by rw [h]
 obtain ⟨A, hA⟩ : ∃ x, fD t.name = x := ⟨_, rfl⟩
 obtain ⟨B, hB⟩ : ∃ x, aW t.name = x := ⟨_, rfl⟩
 obtain ⟨C, hC⟩ : ∃ x, bF t.name (bs []) = x := ⟨_, rfl⟩
 rcases bb (eK t.kind) with h | h
 ·obtain ⟨D', hD⟩ : ∃ x, (t.fields.any fun f => !aW f.name) = x := ⟨_, rfl⟩
  obtain ⟨E, hE⟩ : ∃ x, (List.range t.fields.length).any (iF t.kind t.fields) = x := ⟨_, rfl⟩
  obtain ⟨G, hG⟩ : ∃ x, cJ (t.fields.drop t.root.toNat) (0, 0) = x := ⟨_, rfl⟩
  obtain ⟨H, hH⟩ : ∃ x, (t.fields.any fun f => !isNum f.num) = x := ⟨_, rfl⟩
  simp only [hA, hB, hC, hD, hE, hG, hH]
  have h1 : t.kind = 9 ∨ t.kind = 10 ∨ t.kind = 13 ∨ t.kind = 3 ∨ t.kind = 14 ∨ t.kind = 15 := by
   simp [eK, bR] at h; omega
  rcases h1 with q | q | q | q | q | q
  all_goals
   simp only [q, bR]
   clear hA hB hC hD hE hG hH
   revert A B C D' E G H
   decide
 ·have hf := he h
  have h1 : ¬ t.kind = 9 ∧ ¬ t.kind = 10 ∧ ¬ t.kind = 13 ∧ ¬ t.kind = 3 ∧ ¬ t.kind = 14 ∧ ¬ t.kind = 15 := by
   simp [eK, bR] at h; omega
  have hgrp : bR t.kind = false := by simp [bR, h1]
  simp only [hf, hgrp, hA]
  by_cases q : t.kind = 6
  ·cases A <;> simp [q]
  ·simp [q, h1]
theorem aAW (t : Ty) (h : t.bU = 0) : t.fields.length ≤ 16 ∧ ∀ f ∈ t.fields, 0 ≤ f.grp ∧ 0 ≤ f.pres ∧ f.pres ≤ 2 := by
 rw [Ty.sT] at h
 split at h
 ·cases h
 ·split at h
  ·cases h
  ·rename_i h1
   split at h
   ·cases h
   ·rename_i h2
    refine ⟨by omega, fun f hf => ?_⟩
    have h3 : t.fields.any Fd.eJ = false := by
     have : t.dS = false := by simpa using h2
     simp only [Ty.dS, Bool.or_eq_false_iff] at this
     exact this.1.2
    have := List.any_eq_false.1 h3 f hf
    rw [Fd.sS] at this
    simp at this
    omega
theorem aOM (t : Ty) : t.kW = if t.bU != 0 then t.bU else t.dN := by
 rw [Ty.kW]
 by_cases h : t.bU = 0
 ·have hr := vF t h
  obtain ⟨hl, hg⟩ := aAW t h
  have hb : (t.bU != 0) = false := by simp [h]
  simp only [hb, Bool.false_eq_true, if_false, aMC t hr.1, aHO, Ty.dN]
  rcases bb t.bM with x | x
  ·simp only [x, if_true]
  ·simp only [x, Bool.false_eq_true, if_false]
   rcases bb t.eG with y | y
   ·simp only [y, Bool.not_true, Bool.false_eq_true, if_false]
    exact aK4 t (by omega) hr (fun f hf => (hg f hf).1) x y
   ·simp only [y, Bool.not_false, if_true, Ty.cW, bV, Bool.false_eq_true, if_false]
    rfl
 ·have hb : (t.bU != 0) = true := by simp [h]
  simp only [hb, if_true]
end Go.Proofs.YtdpbobkcbakpfaaGreatDoor

namespace Go.Proofs.YtdpbobkcbakpfaaGreatDoor
open Go Go.Ab
set_option maxRecDepth 100000
set_option maxHeartbeats 4000000
attribute [local simp] bL aM aS aK aY aO bI tyC fdC vlC ndC aP D.dQ D.pt
theorem nL : ∀ l : List UInt8, Op.bytesLess l l = false
 | [] => rfl
 | a :: r => by simp [Op.bytesLess, nL r]
theorem yE : ∀ a b : List UInt8, (if Op.bytesLess a b then (-1 : Int) else if !(Op.bytesLess a b || a == b) then 1 else 0) = Lib.compareBytes a b
 | [], [] => rfl
 | [], _ :: _ => rfl
 | _ :: _, [] => rfl
 | a :: r, b :: s => by
  have ih := yE r s
  simp only [Op.bytesLess, Lib.compareBytes]
  by_cases h : a < b
  ·simp [h]
  ·by_cases h2 : b < a
   ·have : ¬ a = b := fun e => by subst e; exact h h2
    simp [h, h2, this]
   ·have : a = b := UInt8.le_antisymm (UInt8.not_lt.1 h2) (UInt8.not_lt.1 h)
    subst this
    simp only [h, decide_false, Bool.false_or, beq_self_eq_true, Bool.true_and, if_false]
    rw [← ih]
    have : ((a :: r) == (a :: s)) = (r == s) := by simp
    rw [this]
theorem rV (a b : ByteArray) : dR a b = Lib.compareBytes a.data.toList b.data.toList := by
 rw [dR, ByteArray.toList_eq, ByteArray.toList_eq]
 exact yE _ _
def sg (b : Bool) : Int := if b then 1 else -1
theorem yF (a b : ByteArray) (h : (a.toList == b.toList) = false) : dR a b = sg (!Op.bytesLess a.toList b.toList) := by
 simp only [dR, h, Bool.or_false, sg]
 cases Op.bytesLess a.toList b.toList <;> rfl
theorem sU (a b : ByteArray) (h : (a.toList == b.toList) = true) : dR a b = 0 := by
 have e : a.toList = b.toList := by simpa using h
 simp only [dR, e, nL]
 simp
theorem aMD (a b : Int) (h : ¬ a = b) : iX a b = sg (decide (b < a)) := by
 simp only [iX, sg]
 by_cases h1 : a < b
 ·have : ¬ b < a := by omega
  simp [h1, this]
 ·have : b < a := by omega
  simp [h1, this]
theorem wA : IntKind.i64.wrap (IntKind.i64.wrap 0 - 1) = -1 := by decide
theorem wB : IntKind.i64.wrap (IntKind.i64.wrap 2 - 1) = 1 := by decide
theorem wC : IntKind.i64.wrap (1 : Int) = 1 := by decide
theorem wD : IntKind.i64.wrap (-1 : Int) = -1 := by decide
theorem wE : IntKind.i64.wrap (0 : Int) = 0 := by decide
def fG : List Int → List Int → Int
 | [], [] => 0
 | [], _ :: _ => -1
 | _ :: _, [] => 1
 | x :: xs, y :: ys => if iX x y != 0 then iX x y else fG xs ys
attribute [local simp] c138t3 c138t6 c138t8 c138b9 c138t10 c138t12 c138 in
theorem aUW (a b : List Int) (ha : short a) (_hb : short b) : PSp Tryz.prog 138 [.one (.t (bI a)), .one (.t (bI b))] (.one (.t (I (fG a b)))) := by
 refine k138.aG (by simp) rfl rfl ?_
 simp -implicitDefEqProofs [-aA, -gval]
 refine dP a (fun i r (_ : Unit) => fG r (b.drop i)) (fG a b) () [0, 1] [] (fun i _ st => st.tmps 5 = .one (.t (I i)) ∧ i ≤ b.length) ha (by simp) ⟨by simp, by simp, by simp⟩ ?_ ?_
 ·rintro i y _ st hi hiI hw hg hy hR ⟨hx, hib⟩ hk hh
  simp at hk
  generalize fG a b = R at *
  rcases Nat.lt_or_ge i b.length with h | h
  ·have hg2 : b[i]? = some b[i] := List.getElem?_eq_getElem h
   rw [List.drop_eq_getElem_cons h, fG] at hR
   generalize b[i] = z at *
   have h'' : (i : Int) < (b.length : Int) := by omega
   rcases eqCases y z with e | e
   ·subst e
    have e0 : iX y y = 0 := by simp [iX]
    rw [e0] at hR
    simp at hR
    simp -implicitDefEqProofs [-aA, -gval, hx, hk, hiI, hi, aE hg, aE hg2, h'', h, hw]
    exact ⟨hR, by omega⟩
   ·have e0 := aMD y z e.2.1
    have e1 : (iX y z != 0) = true := by rw [e0]; cases decide (z < y) <;> rfl
    rw [e1, e0] at hR
    simp only [if_true] at hR
    simp -implicitDefEqProofs [-aA, -gval, hx, hk, hiI, hi, aE hg, aE hg2, h'', h, e]
    refine aD.bO (P19 _) rfl ?_
    subst hR
    generalize decide (z < y) = q
    cases q
    ·simp -implicitDefEqProofs [-aA, -gval, aC, sg, wA]
    ·simp -implicitDefEqProofs [-aA, -gval, aC, sg, wB]
  ·rw [List.drop_eq_nil_of_le h, fG] at hR
   have h1 : ¬ (i : Int) < (b.length : Int) := by omega
   have h2 : b.length < a.length := by omega
   have h3 : ¬ a.length < b.length := by omega
   simp -implicitDefEqProofs [-aA, -gval, hx, hk, hiI, h1]
   refine aD.tree (P19 _) rfl ?_
   simp -implicitDefEqProofs [-aA, -gval, hk, h2, h3]
   refine aD.tree (P19 _) rfl ?_
   subst hR
   simp -implicitDefEqProofs [-aA, -gval, aC, wC]
 ·rintro _ st hR ⟨hx, hib⟩ hk hh
  simp at hk
  generalize fG a b = R at *
  rcases Nat.lt_or_ge a.length b.length with h | h
  ·rw [List.drop_eq_getElem_cons h, fG] at hR
   have h3 : ¬ b.length < a.length := by omega
   simp -implicitDefEqProofs [-aA, -gval, hx, hk, h, h3]
   refine aD.tree (P19 _) rfl ?_
   simp -implicitDefEqProofs [-aA, -gval, hk, h]
   refine aD.tree (P19 _) rfl ?_
   subst hR
   simp -implicitDefEqProofs [-aA, -gval, aC, wD]
  ·rw [List.drop_eq_nil_of_le h, fG] at hR
   have h' : ¬ a.length < b.length := by omega
   have h3 : ¬ b.length < a.length := by omega
   simp -implicitDefEqProofs [-aA, -gval, hx, hk, h', h3]
   refine aD.tree (P19 _) rfl ?_
   simp -implicitDefEqProofs [-aA, -gval, hk, h']
   refine aD.tree (P19 _) rfl ?_
   subst hR
   simp -implicitDefEqProofs [-aA, -gval, aC, wE]
attribute [local simp] c139t3 c139t7 c139t8 c139t10 c139b11 c139t12 c139t14 c139 in
theorem aUX (a b : List Vl) (ha : short a) (_hb : short b) (IH : ∀ x ∈ a, ∀ y ∈ b, PSp Tryz.prog 100 [.agg (vlC x), .agg (vlC y)] (.one (.t (I (x.cmp y))))) : PSp Tryz.prog 139 [.one (.t (aY a)), .one (.t (aY b))] (.one (.t (I (bC a b)))) := by
 refine k139.aG (by simp) (by simp [D.closed, A.closed]) rfl ?_
 simp -implicitDefEqProofs [-aA, -gval]
 refine dP a (fun i r (_ : Unit) => bC r (b.drop i)) (bC a b) () [0, 1] [] (fun i _ st => st.tmps 5 = .one (.t (I i)) ∧ i ≤ b.length) ha (by simp) ⟨by simp, by simp, by simp⟩ ?_ ?_
 ·rintro i y _ st hi hiI hw hg hy hR ⟨hx, hib⟩ hk hh
  simp at hk
  generalize bC a b = R at *
  rcases Nat.lt_or_ge i b.length with h | h
  ·have hg2 : b[i]? = some b[i] := List.getElem?_eq_getElem h
   have hz : b[i] ∈ b := List.getElem_mem h
   rw [List.drop_eq_getElem_cons h, bC] at hR
   generalize b[i] = z at *
   have h'' : (i : Int) < (b.length : Int) := by omega
   simp -implicitDefEqProofs [-aA, -gval, hx, hk, hiI, hi, aE hg, aE hg2, h'', h, Vl.aJ, -List.getElem_map]
   refine aD.bO (IH y hy z hz) rfl ?_
   rcases eqCases (y.cmp z) 0 with e | e
   ·rw [e] at hR ⊢
    simp at hR
    simp -implicitDefEqProofs [-aA, -gval, hx, hk, hw]
    exact ⟨hR, by omega⟩
   ·simp -implicitDefEqProofs [-aA, -gval, e, aC]
    simpa [e] using hR
  ·rw [List.drop_eq_nil_of_le h, bC] at hR
   have h1 : ¬ (i : Int) < (b.length : Int) := by omega
   have h2 : b.length < a.length := by omega
   have h3 : ¬ a.length < b.length := by omega
   simp -implicitDefEqProofs [-aA, -gval, hx, hk, hiI, h1]
   refine aD.tree (P19 _) rfl ?_
   simp -implicitDefEqProofs [-aA, -gval, hk, h2, h3]
   refine aD.tree (P19 _) rfl ?_
   subst hR
   simp -implicitDefEqProofs [-aA, -gval, aC, wC]
 ·rintro _ st hR ⟨hx, hib⟩ hk hh
  simp at hk
  generalize bC a b = R at *
  rcases Nat.lt_or_ge a.length b.length with h | h
  ·rw [List.drop_eq_getElem_cons h, bC] at hR
   have h3 : ¬ b.length < a.length := by omega
   simp -implicitDefEqProofs [-aA, -gval, hx, hk, h, h3]
   refine aD.tree (P19 _) rfl ?_
   simp -implicitDefEqProofs [-aA, -gval, hk, h]
   refine aD.tree (P19 _) rfl ?_
   subst hR
   simp -implicitDefEqProofs [-aA, -gval, aC, wD]
  ·rw [List.drop_eq_nil_of_le h, bC] at hR
   have h' : ¬ a.length < b.length := by omega
   have h3 : ¬ b.length < a.length := by omega
   simp -implicitDefEqProofs [-aA, -gval, hx, hk, h', h3]
   refine aD.tree (P19 _) rfl ?_
   simp -implicitDefEqProofs [-aA, -gval, hk, h']
   refine aD.tree (P19 _) rfl ?_
   subst hR
   simp -implicitDefEqProofs [-aA, -gval, aC, wE]
def VB2 (a b : Vl) (st : St) : Prop := st.tmps 2 = .one (.ptr ⟨0, 0, 6, 0, 0⟩) ∧ st.tmps 3 = .one (.ptr ⟨1, 0, 6, 0, 0⟩) ∧ st.heap 0 = some (.arr 0 false 6 [vlC a]) ∧ st.heap 1 = some (.arr 0 false 6 [vlC b])
attribute [local simp] c100t4 c100t5 c100t8 c100t11 c100t14 c100t16 c100b17 c100t18 c100t21 c100t23 c100t24 c100t25 c100t26 c100 in
theorem aR1 (a b : Vl) (aFA : PSp Tryz.prog 139 [.one (.t (aY a.items)), .one (.t (aY b.items))] (.one (.t (I (bC a.items b.items))))) (R : Int) (st : St) (h1 : VB2 a b st)
  (hR : (if a.names.length = b.names.length then bC a.items b.items else sg (decide (b.names.length < a.names.length))) = R) :
  aT Tryz.prog 99 (aC [.tmp 4] (.one (.t (I R)))) c100t23 [] st := by
 obtain ⟨h1, h2, h3, h4⟩ := h1
 obtain ⟨o1, o2, o3, o4⟩ := aF h3
 obtain ⟨p1, p2, p3, p4⟩ := aF h4
 rcases eqCases (a.names.length : Int) (b.names.length : Int) with e | e
 ·have e' : a.names.length = b.names.length := by omega
  rw [if_pos e'] at hR
  subst hR
  simp -implicitDefEqProofs [-aA, -gval, h1, h2, o1, o2, o3, p1, p2, p3, e']
  refine aD.tree aFA rfl ?_
  simp -implicitDefEqProofs [-aA, -gval, aC]
 ·have e' : ¬ a.names.length = b.names.length := by omega
  rw [if_neg e'] at hR
  simp -implicitDefEqProofs [-aA, -gval, h1, h2, o1, o2, o3, p1, p2, p3, e]
  refine aD.tree (P19 _) rfl ?_
  generalize decide (b.names.length < a.names.length) = q at *
  subst hR
  cases q
  ·simp -implicitDefEqProofs [-aA, -gval, aC, sg, wA]
  ·simp -implicitDefEqProofs [-aA, -gval, aC, sg, wB]
attribute [local simp] c100t4 c100t5 c100t8 c100t11 c100t14 c100t16 c100b17 c100t18 c100t21 c100t24 c100t25 c100t26 c100 in
theorem aR2 (a b : Vl) (ha : short a.names) (_hb : short b.names) (aFA : PSp Tryz.prog 139 [.one (.t (aY a.items)), .one (.t (aY b.items))] (.one (.t (I (bC a.items b.items))))) (R : Int) (st : St) (h1 : VB2 a b st) (hnx : 1 < st.nx)
  (hR : (if bD a.names b.names != 0 then bD a.names b.names else bC a.items b.items) = R) :
  aT Tryz.prog 99 (aC [.tmp 4] (.one (.t (I R)))) c100t24 [] st := by
 have rest := aR1 a b aFA R
 generalize bC a.items b.items = V at *
 obtain ⟨h1, h2, h3, h4⟩ := h1
 simp -implicitDefEqProofs [-aA, -gval]
 refine dP a.names (fun i r (_ : Unit) => if bD r (b.names.drop i) != 0 then bD r (b.names.drop i) else V) R () [2, 3] [0, 1] (fun i _ st => st.tmps 6 = .one (.t (I i)) ∧ i ≤ b.names.length) ha (by simpa using hR) ⟨by simp, by simp, by simp; omega⟩ ?_ ?_
 ·rintro i y _ st' hi hiI hw hg hy hR ⟨hx, hib⟩ hk hh
  simp [h1, h2] at hk hh
  have q0 := hh.1.1.trans h3
  have q1 := hh.2.1.trans h4
  obtain ⟨o1, o2, o3, o4⟩ := aF q0
  obtain ⟨p1, p2, p3, p4⟩ := aF q1
  rcases Nat.lt_or_ge i b.names.length with h | h
  ·have hg2 : b.names[i]? = some b.names[i] := List.getElem?_eq_getElem h
   rw [List.drop_eq_getElem_cons h, bD] at hR
   generalize b.names[i] = z at *
   have h'' : (i : Int) < (b.names.length : Int) := by omega
   obtain ⟨w, hw2⟩ : ∃ w, (y.toList == z.toList) = w := ⟨_, rfl⟩
   cases w
   ·have e0 := yF y z hw2
    have e1 : (dR y z != 0) = true := by rw [e0]; cases Op.bytesLess y.toList z.toList <;> rfl
    simp only [e0] at hR
    have e2 : (sg (!Op.bytesLess y.toList z.toList) != 0) = true := by cases Op.bytesLess y.toList z.toList <;> rfl
    simp only [e2, if_true] at hR
    simp -implicitDefEqProofs [-aA, -gval, hx, hk, hiI, hi, aE hg, aE hg2, h'', h, o1, o2, o3, p1, p2, p3, hw2, bne]
    refine aD.bO (P19 _) rfl ?_
    subst hR
    generalize Op.bytesLess y.toList z.toList = q
    cases q
    ·simp -implicitDefEqProofs [-aA, -gval, aC, sg, wB]
    ·simp -implicitDefEqProofs [-aA, -gval, aC, sg, wA]
   ·have e0 := sU y z hw2
    simp only [e0, bne_self_eq_false, Bool.false_eq_true, if_false] at hR
    simp -implicitDefEqProofs [-aA, -gval, hx, hk, hiI, hi, aE hg, aE hg2, h'', h, hw, o1, o2, o3, p1, p2, p3, hw2, bne]
    exact ⟨by simpa using hR, by omega, ⟨h1.symm, h2.symm⟩, hh.1.1, hh.2.1⟩
  ·rw [List.drop_eq_nil_of_le h, bD] at hR
   have h1 : ¬ (i : Int) < (b.names.length : Int) := by omega
   simp -implicitDefEqProofs [-aA, -gval, hx, hk, hiI, h1, o1, o2, o3, p1, p2, p3]
   refine rest _ ⟨by simp [hk], by simp [hk], by simp [q0], by simp [q1]⟩ ?_
   rw [if_neg (by omega)]
   have : decide (b.names.length < a.names.length) = true := by simp; omega
   rw [this]
   simpa [sg] using hR
 ·rintro _ st' hR ⟨hx, hib⟩ hk hh
  simp [h1, h2] at hk hh
  have q0 := hh.1.1.trans h3
  have q1 := hh.2.1.trans h4
  obtain ⟨o1, o2, o3, o4⟩ := aF q0
  obtain ⟨p1, p2, p3, p4⟩ := aF q1
  rcases Nat.lt_or_ge a.names.length b.names.length with h | h
  ·rw [List.drop_eq_getElem_cons h, bD] at hR
   simp -implicitDefEqProofs [-aA, -gval, hx, hk, o1, o2, o3, p1, p2, p3]
   refine rest _ ⟨by simp [hk], by simp [hk], by simp [q0], by simp [q1]⟩ ?_
   rw [if_neg (by omega)]
   have : decide (b.names.length < a.names.length) = false := by simp; omega
   rw [this]
   simpa [sg] using hR
  ·rw [List.drop_eq_nil_of_le h, bD] at hR
   simp -implicitDefEqProofs [-aA, -gval, hx, hk, o1, o2, o3, p1, p2, p3]
   refine rest _ ⟨by simp [hk], by simp [hk], by simp [q0], by simp [q1]⟩ ?_
   rw [if_pos (by omega)]
   simpa using hR
attribute [local simp] c100t4 c100t5 c100t8 c100t11 c100t14 c100t16 c100b17 c100t18 c100t21 c100t23 c100t25 c100t26 c100 in
theorem aR3 (a b : Vl) (ha : short a.names) (hb : short b.names) (aFA : PSp Tryz.prog 139 [.one (.t (aY a.items)), .one (.t (aY b.items))] (.one (.t (I (bC a.items b.items))))) (R : Int) (st : St) (h1 : VB2 a b st) (_hnx : 1 < st.nx)
  (hR : (if dR a.s b.s != 0 then dR a.s b.s else if bD a.names b.names != 0 then bD a.names b.names else bC a.items b.items) = R) :
  aT Tryz.prog 99 (aC [.tmp 4] (.one (.t (I R)))) c100t25 [] st := by
 have rest := aR2 a b ha hb aFA R
 generalize (if bD a.names b.names != 0 then bD a.names b.names else bC a.items b.items) = V at *
 obtain ⟨h1, h2, h3, h4⟩ := h1
 obtain ⟨o1, o2, o3, o4⟩ := aF h3
 obtain ⟨p1, p2, p3, p4⟩ := aF h4
 obtain ⟨w, hw2⟩ : ∃ w, (a.s.toList == b.s.toList) = w := ⟨_, rfl⟩
 cases w
 ·have e0 := yF a.s b.s hw2
  have e1 : (dR a.s b.s != 0) = true := by rw [e0]; cases Op.bytesLess a.s.toList b.s.toList <;> rfl
  simp only [e0] at hR
  have e2 : (sg (!Op.bytesLess a.s.toList b.s.toList) != 0) = true := by cases Op.bytesLess a.s.toList b.s.toList <;> rfl
  simp only [e2, if_true] at hR
  simp -implicitDefEqProofs [-aA, -gval, h1, h2, o1, o2, o3, p1, p2, p3, hw2]
  refine aD.tree (P19 _) rfl ?_
  subst hR
  generalize Op.bytesLess a.s.toList b.s.toList = q
  cases q
  ·simp -implicitDefEqProofs [-aA, -gval, aC, sg, wB]
  ·simp -implicitDefEqProofs [-aA, -gval, aC, sg, wA]
 ·have e0 := sU a.s b.s hw2
  simp only [e0, bne_self_eq_false, Bool.false_eq_true, if_false] at hR
  simp -implicitDefEqProofs [-aA, -gval, h1, h2, o1, o2, o3, p1, p2, p3, hw2]
  exact rest _ ⟨by simp [h1], by simp [h2], by simp [h3], by simp [h4]⟩ (by simp <;> omega) hR
theorem Vl.aME (a b : Vl) : a.cmp b = if fG [a.kind, a.n, a.e] [b.kind, b.n, b.e] != 0 then fG [a.kind, a.n, a.e] [b.kind, b.n, b.e] else if dR a.s b.s != 0 then dR a.s b.s else if bD a.names b.names != 0 then bD a.names b.names else bC a.items b.items := by
 rw [Vl.cmp_eq]
 simp only [bV, eQ, fG, rV]
 generalize iX a.kind b.kind = x
 generalize iX a.n b.n = y
 generalize iX a.e b.e = z
 generalize bC a.items b.items = v
 generalize bD a.names b.names = u
 generalize Lib.compareBytes a.s.data.toList b.s.data.toList = w
 by_cases h1 : x = 0 <;> by_cases h2 : y = 0 <;> by_cases h3 : z = 0 <;> by_cases h4 : w = 0 <;> by_cases h5 : u = 0 <;> by_cases h6 : v = 0 <;> simp [h1, h2, h3, h4, h5, h6]
attribute [local simp] c100t4 c100t5 c100t8 c100t11 c100t14 c100t16 c100b17 c100t18 c100t21 c100t23 c100t24 c100t26 c100 in
theorem aMF (a b : Vl) (ha : a.fine) (hb : b.fine) (IH : ∀ x ∈ a.items, ∀ y ∈ b.items, PSp Tryz.prog 100 [.agg (vlC x), .agg (vlC y)] (.one (.t (I (x.cmp y))))) : PSp Tryz.prog 100 [.agg (vlC a), .agg (vlC b)] (.one (.t (I (a.cmp b)))) := by
 rw [Vl.aX] at ha hb
 have aFA := aUX a.items b.items ha.2.2.2.1 hb.2.2.2.1 IH
 have rest := aR3 a b ha.2.1 hb.2.1 aFA
 refine k100.aG (by simp) (by simp [D.closed, A.closed]) rfl ?_
 obtain ⟨R, hR⟩ : ∃ R, a.cmp b = R := ⟨_, rfl⟩
 rw [hR]
 rw [Vl.aME] at hR
 simp -implicitDefEqProofs [-aA, -gval]
 refine aD.pure (aUW [a.kind, a.n, a.e] [b.kind, b.n, b.e] (by simp [short]) (by simp [short])) (by simp) (by simp) ?_
 rcases eqCases (fG [a.kind, a.n, a.e] [b.kind, b.n, b.e]) 0 with e | e
 ·simp only [e, bne_self_eq_false, Bool.false_eq_true, if_false] at hR
  rw [e]
  simp -implicitDefEqProofs [-aA, -gval]
  refine rest R _ ?_ ?_ hR
  ·exact ⟨by simp, by simp, by simp [Hp.set], by simp [Hp.set]⟩
  ·simp
 ·rw [e.2.2.2.2.1] at hR
  simp only [if_true] at hR
  simp -implicitDefEqProofs [-aA, -gval, e, aC]
  exact hR
theorem aUY : ∀ a : Vl, a.fine → ∀ b : Vl, b.fine → PSp Tryz.prog 100 [.agg (vlC a), .agg (vlC b)] (.one (.t (I (a.cmp b)))) := by
 refine Vl.ind fun a IH ha b hb => aMF a b ha hb fun x hx y hy => ?_
 rw [Vl.aX] at ha hb
 exact IH x hx (ha.2.2.2.2 x hx) y (hb.2.2.2.2 y hy)
end Go.Proofs.YtdpbobkcbakpfaaGreatDoor

namespace Go.Proofs.YtdpbobkcbakpfaaGreatDoor
open Go Go.Ab
set_option maxRecDepth 100000
set_option maxHeartbeats 4000000
attribute [local simp] bL aM aS aK aY aO bI tyC fdC vlC ndC aP D.dQ D.pt
attribute [local simp] c200 in
theorem aUZ (k : Int) : PSp Tryz.prog 200 [.one (.t (I k))] (.one (.t (.bool (kE k)))) := by
 refine k200.aG (by simp) rfl rfl ?_
 simp -implicitDefEqProofs [-aA, -gval]
 refine aD.pure (P46 [3, 4, 5, 6, 13] k (by simp [short])) (by simp) (by simp [ints]) ?_
 simp -implicitDefEqProofs [-aA, -gval, aC]
 rw [Bool.eq_iff_iff]; simp [kE]; omega
attribute [local simp] c202 in
theorem aV0 (k : Int) : PSp Tryz.prog 202 [.one (.t (I k))] (.one (.t (.bool (gI k)))) := by
 refine k202.aG (by simp) rfl rfl ?_
 simp -implicitDefEqProofs [-aA, -gval]
 refine aD.pure (P46 [7, 9, 10, 11, 12, 13] k (by simp [short])) (by simp) (by simp [ints]) ?_
 simp -implicitDefEqProofs [-aA, -gval, aC]
 rw [Bool.eq_iff_iff]; simp [gI]; omega
theorem aV1 (n : Int) : (IntKind.i64.wrap ((((n % 2 ^ IntKind.i64.bits).toNat &&& 1 % 2 ^ IntKind.i64.bits) : Nat) : Int) == 1) = !(n.tmod 2 == 0) := by
 have hb : IntKind.i64.bits = 64 := rfl
 rw [hb]
 have h1 : (1 % 2 ^ 64 : Nat) = 1 := by decide
 rw [h1, Nat.and_one_is_mod]
 have h2 : ((((n % 2 ^ 64).toNat % 2) : Nat) : Int) = n % 2 := by omega
 rw [h2]
 have h3 : IntKind.i64.wrap (n % 2) = n % 2 := wrap_i64 (by omega) (by omega)
 rw [h3, Bool.eq_iff_iff]
 have h4 : n.tmod 2 = 0 ↔ n % 2 = 0 := by
  rw [← Int.dvd_iff_tmod_eq_zero, ← Int.dvd_iff_emod_eq_zero]
 simp
 omega
attribute [local simp] c203r0 c203r1 c203r2 c203r3 c203r4 c203r5 c203r6 c203r7 c203r8 c203r9 c203r10 c203r11 c203t12 c203r13 c203r14 c203t15 c203r15 c203r16 c203r17 c203r18 c203t20 c203t21 c203t22 c203t23 c203t24 c203r12 c203t26 c203b27 c203t28 c203t29 c203t30 c203t31 c203t32 c203t33 c203r19 c203t35 c203 in
theorem aR4 (v : Vl) (hl : short v.items) (st : St) (h1 : VB v 1 st) (h9 : st.tmps 9 = .one (.t (I v.kind))) (h2 : st.tmps 2 = .one (.t (.bool false))) (_hnx : 0 < st.nx) : aT Tryz.prog 117 (aC [.tmp 2] (.one (.t (.bool (!v.cI))))) c203t33 [.thn (.seq (.region 19 false 10 c203r19) .ret)] st := by
 obtain ⟨h1, h2⟩ := h1
 obtain ⟨o1, o2, o3, o4⟩ := aF h2
 rcases eqCases v.kind 1 with q1 | q1
 ·simp -implicitDefEqProofs [-aA, -gval, h1, h9, o1, o2, o3, q1]
  refine aD.tree (dC _ _ _) rfl ?_
  simp -implicitDefEqProofs [-aA, -gval, aC, Vl.cI, q1]
 ·rcases eqCases v.kind 14 with q14 | q14
  ·simp -implicitDefEqProofs [-aA, -gval, h1, h9, o1, o2, o3, q14]
   refine aD.tree (dC _ _ _) rfl ?_
   simp -implicitDefEqProofs [-aA, -gval, aC, Vl.cI, q14]
  ·rcases eqCases v.kind 8 with q8 | q8
   ·obtain ⟨a, ea⟩ : ∃ a, (v.n == 0) = a := ⟨_, rfl⟩
    obtain ⟨b, eb⟩ : ∃ a, (v.e == 0) = a := ⟨_, rfl⟩
    obtain ⟨c, ec⟩ : ∃ a, isNum v.n = a := ⟨_, rfl⟩
    obtain ⟨d, ed⟩ : ∃ a, (v.n.tmod 2 == 0) = a := ⟨_, rfl⟩
    obtain ⟨e, ee⟩ : ∃ a, (decide (-1000 ≤ v.e) && decide (v.e ≤ 1000)) = a := ⟨_, rfl⟩
    have hR : v.cI = ((a && b) || (c && !d && e)) := by
     simp only [Vl.cI, q8, ea, eb, ec, bne, ed, ee]; rfl
    rw [hR]
    have hz : a = true → c = true := fun h => by
     rw [← ec]; have h0 : v.n = 0 := by rw [← ea] at h; simpa using h
     rw [h0]; decide
    have od := aV1 v.n
    rw [ed] at od
    have p37 : PSp Tryz.prog 37 [.one (.t (I v.n)), .one (.t (I (-1152921504606846976))), .one (.t (I 1152921504606846976))] (.one (.t (.bool c))) := by
     rw [← ec]; exact dC _ _ _
    cases d
    ·simp only [Bool.not_false] at od
     have od' := of_decide_eq_true (p := IntKind.i64.wrap ((((v.n % 2 ^ IntKind.i64.bits).toNat &&& 1 % 2 ^ IntKind.i64.bits) : Nat) : Int) = 1) (by simpa using od)
     simp -implicitDefEqProofs [-aA, -gval, h1, h9, o1, o2, o3, q8, od']
     refine aD.tree (dC _ _ _) rfl ?_
     rw [ee]
     simp -implicitDefEqProofs [-aA, -gval, h1, o1, o2, o3]
     refine aD.tree p37 rfl ?_
     cases c <;> cases a <;> cases b <;> cases e
     all_goals first | exact absurd (hz rfl) (by decide) | simp -implicitDefEqProofs [-aA, -gval, h1, o1, o2, o3, ea, eb, bne, aC]
    ·simp only [Bool.not_true] at od
     have od' : ¬ IntKind.i64.wrap ((((v.n % 2 ^ IntKind.i64.bits).toNat &&& 1 % 2 ^ IntKind.i64.bits) : Nat) : Int) = 1 := by simpa using od
     simp -implicitDefEqProofs [-aA, -gval, h1, h9, o1, o2, o3, q8, od]
     refine aD.tree p37 rfl ?_
     cases c <;> cases a <;> cases b
     all_goals first | exact absurd (hz rfl) (by decide) | simp -implicitDefEqProofs [-aA, -gval, h1, o1, o2, o3, ea, eb, bne, aC]
   ·rcases eqCases v.kind 7 with q7 | q7
    ·have hR : v.cI = vA v.items := by simp only [Vl.cI, q7]; rfl
     rw [hR]
     simp -implicitDefEqProofs [-aA, -gval, h9, q7]
     refine bB (List.range v.items.length) (eV v.items) [1] [0] (fun i st => st.tmps 4 = .one (.t (I i)) ∧ st.tmps 2 = .one (.t (.bool false))) (by simpa [short] using hl) ⟨by simp [*], by simp, by simp []⟩ ?_ ?_
     ·rintro i y st' hi hiI hw hg hy hany ⟨hx, hx2⟩ hk hh
      obtain rfl := gH hg
      simp [h1] at hk hh
      simp at hi
      obtain ⟨o1, o2, o3, o4⟩ := aF (hh.1.trans h2)
      have hi' : (y : Int) < (v.items.length : Int) := by omega
      have q1 : v.items[y]? = some v.items[y] := List.getElem?_eq_getElem hi
      have q2 : v.items[0]? = some v.items[0] := List.getElem?_eq_getElem (by omega)
      have c0 : 0 < v.items.length := by omega
      have hd : eV v.items y = ((v.items[y]).kind == 2 && uZ y v.items[y] v.items[0]) := by simp [eV, q1, q2]
      rw [hd] at hany ⊢
      have e0 : vA v.items = !(List.range v.items.length).any (eV v.items) := rfl
      rw [e0, Bool.not_not]
      generalize (List.range v.items.length).any (eV v.items) = W at *
      generalize v.items[y] = x at *
      generalize v.items[0] = x0 at *
      have hne : ∀ c, ¬ 0 = st'.nx + c + 1 := fun c => by omega
      obtain ⟨a, ea⟩ : ∃ a, (decide (0 ≤ x.n) && decide (x.n ≤ 1152921504606846976)) = a := ⟨_, rfl⟩
      obtain ⟨b, eb⟩ : ∃ a, decide (x.n > 2) = a := ⟨_, rfl⟩
      obtain ⟨c, ec⟩ : ∃ a, decide (x0.n < 2) = a := ⟨_, rfl⟩
      obtain ⟨d, ed⟩ : ∃ a, decide (x.n > 39) = a := ⟨_, rfl⟩
      obtain ⟨e, ee⟩ : ∃ a, (x0.kind == 2) = a := ⟨_, rfl⟩
      obtain ⟨z0, ez0⟩ : ∃ a, ((y : Int) == 0) = a := ⟨_, rfl⟩
      obtain ⟨z1, ez1⟩ : ∃ a, ((y : Int) == 1) = a := ⟨_, rfl⟩
      have eb' : decide (2 < x.n) = b := eb
      have ed' : decide (39 < x.n) = d := ed
      obtain ⟨u1, m1⟩ : ∃ a, (z0 && b) = a := ⟨_, rfl⟩
      obtain ⟨u2, m2⟩ : ∃ a, (z1 && e) = a := ⟨_, rfl⟩
      obtain ⟨u3, m3⟩ : ∃ a, (u2 && c) = a := ⟨_, rfl⟩
      obtain ⟨u4, m4⟩ : ∃ a, (u3 && d) = a := ⟨_, rfl⟩
      simp only [uZ, ea, eb, ec, ed, ee, ez0, ez1, m1, m2, m3, m4] at hany ⊢
      rcases eqCases x.kind 2 with q | q
      ·simp only [q, beq_self_eq_true, Bool.true_and] at hany
       cases z1
       ·simp only [Bool.false_and] at m2
        subst m2
        simp only [Bool.false_and] at m3
        subst m3
        simp only [Bool.false_and] at m4
        subst m4
        simp -implicitDefEqProofs [-aA, -gval, hx, hk, hi', hi, q, o1, o2, o3, aE q1, aE q2, c0, Vl.aJ, -List.getElem_map, eb', ec, ed', ee, ez0, ez1, m1, -Bool.not_or, -Bool.not_and]
        refine aD.tree (dC _ _ _) rfl ?_
        rw [ea]
        cases a <;> cases u1
        all_goals simp -implicitDefEqProofs [-aA, -gval, hx, hx2, hk, hw, aC]
        all_goals first | exact hany rfl | simp [Hp.set, h1, hh.1]
       ·cases e
        ·simp only [Bool.and_false] at m2
         subst m2
         simp only [Bool.false_and] at m3
         subst m3
         simp only [Bool.false_and] at m4
         subst m4
         simp -implicitDefEqProofs [-aA, -gval, hx, hk, hi', hi, q, o1, o2, o3, aE q1, aE q2, c0, Vl.aJ, -List.getElem_map, eb', ec, ed', ee, ez0, ez1, m1, -Bool.not_or, -Bool.not_and]
         refine aD.tree (dC _ _ _) rfl ?_
         rw [ea]
         cases a <;> cases u1
         all_goals simp -implicitDefEqProofs [-aA, -gval, hx, hx2, hk, hw, aC]
         all_goals first | exact hany rfl | simp [Hp.set, h1, hh.1]
        ·simp only [Bool.and_true] at m2
         subst m2
         simp only [Bool.true_and] at m3
         subst m3
         simp -implicitDefEqProofs [-aA, -gval, hx, hk, hi', hi, q, o1, o2, o3, aE q1, aE q2, c0, Vl.aJ, -List.getElem_map, eb', ec, ed', ee, ez0, ez1, m1, m4, -Bool.not_or, -Bool.not_and]
         refine aD.tree (dC _ _ _) rfl ?_
         rw [ea]
         cases a <;> cases u1 <;> cases u4
         all_goals simp -implicitDefEqProofs [-aA, -gval, hx, hx2, hk, hw, aC]
         all_goals first | exact hany rfl | simp [Hp.set, h1, hh.1]
      ·simp -implicitDefEqProofs [-aA, -gval, hx, hx2, hk, hi', hi, hw, q, o1, o2, o3, aE q1, Vl.aJ, -List.getElem_map]
       simp [Hp.set, h1, hh.1]
     ·rintro st' hany ⟨hx, hx2⟩ hk hh
      simp [h1] at hk hh
      simp only [List.length_range] at hx
      obtain ⟨o1, o2, o3, o4⟩ := aF (hh.1.trans h2)
      have e0 : vA v.items = !(List.range v.items.length).any (eV v.items) := rfl
      rw [e0, hany]
      simp -implicitDefEqProofs [-aA, -gval, hx, hx2, hk, o1, o2, o3, q7, aC]
    ·rcases eqCases v.kind 2 with q2 | q2
     ·simp -implicitDefEqProofs [-aA, -gval, h1, h9, o1, o2, o3, q2]
      refine aD.tree (dC _ _ _) rfl ?_
      simp -implicitDefEqProofs [-aA, -gval, aC, Vl.cI, q2, isNum]
     ·simp -implicitDefEqProofs [-aA, -gval, h1, h9, o1, o2, o3, q1, q14, q8, q7, q2, aC, Vl.cI]
attribute [local simp] c203r0 c203r1 c203r2 c203r3 c203r4 c203r5 c203r6 c203r7 c203r8 c203r9 c203r10 c203r11 c203t12 c203r13 c203r14 c203t15 c203r15 c203r16 c203r17 c203r18 c203t20 c203t21 c203t22 c203t23 c203t24 c203r12 c203t26 c203b27 c203t28 c203t29 c203t30 c203t31 c203t32 c203r19 c203t35 c203 in
theorem aV2 (v : Vl) (hl : short v.items) : PSp Tryz.prog 203 [.agg (vlC v)] (.one (.t (.bool (!v.cI)))) := by
 refine k203.aG (by simp) (by simp [D.closed, A.closed]) rfl ?_
 have rest := aR4 v hl
 simp -implicitDefEqProofs [-aA, -gval]
 exact rest _ ⟨by simp, by simp [Hp.set]⟩ (by simp) (by simp) (by simp)
end Go.Proofs.YtdpbobkcbakpfaaGreatDoor

namespace Go.Proofs.YtdpbobkcbakpfaaGreatDoor
open Go Go.Ab
set_option maxRecDepth 100000
set_option maxHeartbeats 4000000
attribute [local simp] bL aM aS aK aY aO bI tyC fdC vlC ndC aP D.dQ D.pt
attribute [local simp] c204r0 c204r1 c204r2 c204r3 c204r4 c204r5 c204r6 c204r7 c204r8 c204r9 c204r10 c204t11 c204r12 c204r13 c204t14 c204r11 c204t16 c204b17 c204t18 c204r14 c204t20 c204t21 c204t22 c204t23 c204t24 c204r15 c204t26 c204 in
theorem aMG (v : Vl) (hl : short v.items) (st : St) (h1 : VB v 1 st) (h9 : st.tmps 5 = .one (.t (I v.kind))) (_hnx : 0 < st.nx) : aT Tryz.prog 66 (aC [.tmp 2] (.one (.t (.bool (!v.shaped))))) c204t24 [.thn (.seq (.region 15 false 1 c204r15) .ret)] st := by
 obtain ⟨h1, h2⟩ := h1
 obtain ⟨o1, o2, o3, o4⟩ := aF h2
 rcases eqCases v.kind 9 with q9 | q9
 ·simp -implicitDefEqProofs [-aA, -gval, h1, h9, o1, o2, o3, q9, aC, Vl.shaped, bne]
 ·rcases eqCases v.kind 12 with q12 | q12
  ·obtain ⟨a, ea⟩ : ∃ a, ((v.names.length : Int) == 1) = a := ⟨_, rfl⟩
   obtain ⟨b, eb⟩ : ∃ a, ((v.items.length : Int) == 1) = a := ⟨_, rfl⟩
   cases a <;> cases b
   all_goals simp -implicitDefEqProofs [-aA, -gval, h1, h9, o1, o2, o3, q12, ea, eb, bne, aC, Vl.shaped]
  ·rcases eqCases v.kind 13 with q13 | q13
   ·obtain ⟨a, ea⟩ : ∃ a, ((v.items.length : Int) == 1) = a := ⟨_, rfl⟩
    obtain ⟨b, eb⟩ : ∃ a, (v.s.toList == (bs []).toList) = a := ⟨_, rfl⟩
    have eb' : bF v.s (bs []) = b := eb
    rcases bb a with rfl | rfl
    ·rcases bb b with rfl | rfl
     ·have hl1 : v.items.length = 1 := by have := ea; simp at this; omega
      have g : v.items[0]? = some (v.items[0]'(by omega)) := List.getElem?_eq_getElem (by omega)
      have hp : 0 < v.items.length := by omega
      generalize hgx : v.items[0]'(by omega) = x at g
      simp -implicitDefEqProofs [-aA, -gval, h1, h9, o1, o2, o3, q13, ea, eb, bne, hp, aE g, Vl.aJ, -List.getElem_map, aC, Vl.shaped, eb', hgx]
     ·simp -implicitDefEqProofs [-aA, -gval, h1, h9, o1, o2, o3, q13, ea, eb, eb', bne, aC, Vl.shaped]
    ·simp -implicitDefEqProofs [-aA, -gval, h1, h9, o1, o2, o3, q13, ea, bne, aC, Vl.shaped]
   ·rcases eqCases v.kind 7 with q7 | q7
    ·have e0 : v.shaped = (decide ((v.items.length : Int) ≥ 2) && !v.items.any (fun x => !(x.kind == 2))) := by simp only [Vl.shaped, q7]; rfl
     rw [e0]
     simp -implicitDefEqProofs [-aA, -gval, h9, q7]
     refine bB v.items (fun x => !(x.kind == 2)) [1] [0] (fun i st => st.tmps 3 = .one (.t (I i))) hl ⟨by simp [*], by simp, by simp []⟩ ?_ ?_
     ·intro i x st' hi hiI hw hg hy hany hx hk hh
      simp [h1] at hk hh
      obtain ⟨o1, o2, o3, o4⟩ := aF (hh.1.trans h2)
      generalize v.items.any (fun x => !(x.kind == 2)) = W at *
      rcases eqCases x.kind 2 with q | q
      ·simp -implicitDefEqProofs [-aA, -gval, hx, hk, hi, hiI, hw, o1, o2, o3, q, aE hg, Vl.aJ, -List.getElem_map]
       exact ⟨h1.symm, hh.1⟩
      ·rw [q.1] at hany
       have := hany rfl
       subst this
       simp -implicitDefEqProofs [-aA, -gval, hx, hk, hi, hiI, o1, o2, o3, q, aE hg, Vl.aJ, -List.getElem_map, aC]
     ·intro st' hany hx hk hh
      simp [h1] at hk hh
      obtain ⟨o1, o2, o3, o4⟩ := aF (hh.1.trans h2)
      rw [hany]
      simp -implicitDefEqProofs [-aA, -gval, hx, hk, o1, o2, o3, aC]
      rw [Bool.eq_iff_iff]; simp; try omega
    ·simp -implicitDefEqProofs [-aA, -gval, h9, q9, q12, q13, q7, aC, Vl.shaped]
attribute [local simp] c204r0 c204r1 c204r2 c204r3 c204r4 c204r5 c204r6 c204r7 c204r8 c204r9 c204r10 c204t11 c204r12 c204r13 c204t14 c204r11 c204t16 c204b17 c204t18 c204r14 c204t20 c204t21 c204t22 c204t23 c204r15 c204t26 c204 in
theorem aV3 (v : Vl) (hl : short v.items) : PSp Tryz.prog 204 [.agg (vlC v)] (.one (.t (.bool (!v.shaped)))) := by
 refine k204.aG (by simp) (by simp [D.closed, A.closed]) rfl ?_
 have rest := aMG v hl
 simp -implicitDefEqProofs [-aA, -gval]
 exact rest _ ⟨by simp, by simp [Hp.set]⟩ (by simp) (by simp)
end Go.Proofs.YtdpbobkcbakpfaaGreatDoor

namespace Go.Proofs.YtdpbobkcbakpfaaGreatDoor
open Go Go.Ab
set_option maxRecDepth 100000
set_option maxHeartbeats 4000000
attribute [local simp] bL aM aS aK aY aO bI tyC fdC vlC ndC aP D.dQ D.pt
def aHP (l : List Vl) (j : Nat) : Bool := match l[j]?, l[j + 1]? with | some x, some y => decide (0 < x.cmp y) | _, _ => false
def unsorted (l : List Vl) : Bool := (List.range (l.length - 1)).any (aHP l)
attribute [local simp] c158t3 c158t7 c158t10 c158t14 c158t17 c158t20 c158t24 c158t27 c158t29 c158b30 c158t31 c158t32 c158t35 c158t38 c158t40 c158b41 c158t42 c158t45 c158t48 c158t51 c158t53 c158b54 c158t55 c158t58 c158t61 c158t63 c158b64 c158t65 c158t68 c158t71 c158t73 c158b74 c158t75 c158t77 c158t78 c158t79 c158t80 c158t81 c158t82 c158t83 c158t84 c158t85 c158t86 c158t87 c158t88 c158t89 c158t90 c158 in
theorem aR5 (v : Vl) (hv : v.fine) (st : St) (h1 : VB v 1 st) (_hnx : 0 < st.nx) : aT Tryz.prog 218 (aC [.tmp 2] (.one (.t (I (if v.kind == 11 && unsorted v.items then 14 else 0))))) c158t77 [] st := by
 have hv' := (Vl.aX v).1 hv
 have hl := hv'.2.2.2.1
 obtain ⟨h1, h2⟩ := h1
 obtain ⟨o1, o2, o3, o4⟩ := aF h2
 rcases eqCases v.kind 11 with q | q
 ·obtain ⟨R, hR⟩ : ∃ R, (if v.kind == 11 && unsorted v.items then (14 : Int) else 0) = R := ⟨_, rfl⟩
  rw [hR]
  simp only [q, beq_self_eq_true, Bool.true_and, unsorted] at hR
  simp -implicitDefEqProofs [-aA, -gval]
  have hsr : short (List.range (v.items.length - 1)) := by simp [short] at hl ⊢; omega
  refine bB (List.range (v.items.length - 1)) (aHP v.items) [1] [0] (fun i st => st.tmps 9 = .one (.t (I ((i + 1 : Nat) : Int)))) hsr ⟨by simp, by simp, by simp []⟩ ?_ ?_
  ·intro i y st' hi hiI hw hg hy hany hx hk hh
   obtain rfl := gH hg
   simp [h1] at hk hh
   simp at hi
   obtain ⟨o1, o2, o3, o4⟩ := aF (hh.1.trans h2)
   have b1 : y + 1 < v.items.length := by omega
   have b2 : ((y + 1 : Nat) : Int) < (v.items.length : Int) := by omega
   have g1 : v.items[y + 1]? = some v.items[y + 1] := List.getElem?_eq_getElem b1
   have g0 : v.items[y]? = some v.items[y] := List.getElem?_eq_getElem (by omega)
   have w1 : IntKind.i64.wrap (((y + 1 : Nat) : Int) - 1) = (y : Int) := by
    rw [show ((y + 1 : Nat) : Int) - 1 = (y : Int) by omega]; exact bZ _ (by omega) (by simp [short] at hl; omega)
   have w2 : IntKind.i64.wrap (((y + 1 : Nat) : Int) + 1) = ((y + 1 + 1 : Nat) : Int) := bZ _ (by omega) (by simp [short] at hl; omega)
   have hd : aHP v.items y = decide (0 < (v.items[y]).cmp v.items[y + 1]) := by simp [aHP, g0, g1]
   have m0 : v.items[y] ∈ v.items := List.getElem_mem _
   have m1 : v.items[y + 1] ∈ v.items := List.getElem_mem _
   rw [hd] at hany ⊢
   generalize v.items[y] = x0 at *
   generalize v.items[y + 1] = x1 at *
   have b0 : y < v.items.length := by omega
   have b0' : (y : Int) < (v.items.length : Int) := by omega
   obtain ⟨m, hm⟩ : ∃ m, y + 1 = m := ⟨_, rfl⟩
   rw [hm] at hx b1 b2 g1 w1 w2
   simp -implicitDefEqProofs [-aA, -gval, hx, hk, b1, b2, b0, b0', w1, o1, o2, o3, q, aE g0, aE g1, Vl.aJ, -List.getElem_map]
   refine aD.bO (aUY x0 (hv'.2.2.2.2 x0 m0) x1 (hv'.2.2.2.2 x1 m1)) rfl ?_
   rcases oH 0 (x0.cmp x1) with c | c
   ·rw [if_pos (hany (by simp [c]))] at hR
    subst hR
    simp -implicitDefEqProofs [-aA, -gval, c, aC]
   ·simp -implicitDefEqProofs [-aA, -gval, c, hx, hk, w2, hh.1, h1]
    omega
  ·intro st' hany hx hk hh
   simp [h1] at hk hh
   simp only [List.length_range] at hx
   obtain ⟨o1, o2, o3, o4⟩ := aF (hh.1.trans h2)
   obtain ⟨m, hm⟩ : ∃ m, v.items.length - 1 + 1 = m := ⟨_, rfl⟩
   rw [hm] at hx
   have b1 : ¬ (m : Int) < (v.items.length : Int) := by omega
   rw [hany] at hR
   subst hR
   simp -implicitDefEqProofs [-aA, -gval, hx, hk, b1, o1, o2, o3, aC]
 ·have e : (if v.kind == 11 && unsorted v.items then (14 : Int) else 0) = 0 := by simp [q]
  rw [e]
  simp -implicitDefEqProofs [-aA, -gval]
  refine bB ([] : List Fd) (fun f => !isNum f.num) [1] [0] (fun i st => st.tmps 9 = .one (.t (I 1))) (by simp [short]) ⟨by simp, by simp, by simp []⟩ ?_ ?_
  ·intro i f st' hi; simp at hi
  ·intro st' hany hx hk hh
   simp [h1] at hk hh hx
   obtain ⟨o1, o2, o3, o4⟩ := aF (hh.1.trans h2)
   simp -implicitDefEqProofs [-aA, -gval, hk, hx, o1, o2, o3, q, aC]
attribute [local simp] c158t3 c158t7 c158t10 c158t14 c158t17 c158t20 c158t24 c158t27 c158t29 c158b30 c158t31 c158t32 c158t35 c158t38 c158t40 c158b41 c158t42 c158t45 c158t48 c158t51 c158t53 c158b54 c158t55 c158t58 c158t61 c158t63 c158b64 c158t65 c158t68 c158t71 c158t73 c158b74 c158t75 c158t78 c158t79 c158t80 c158t81 c158t82 c158t83 c158t84 c158t85 c158t86 c158t87 c158t88 c158t89 c158t90 c158 in
theorem aR6 (v : Vl) (hv : v.fine) (R : Int) (hR : (if (List.range v.names.length).any (jJ v.names) then (13 : Int) else if v.kind == 11 && unsorted v.items then 14 else 0) = R) (st : St) (h1 : VB v 1 st) (_hnx : 0 < st.nx) : aT Tryz.prog 218 (aC [.tmp 2] (.one (.t (I R)))) c158t78 [] st := by
 have rest := aR5 v hv
 have hv' := (Vl.aX v).1 hv
 have hl := hv'.2.1
 obtain ⟨h1, h2⟩ := h1
 obtain ⟨o1, o2, o3, o4⟩ := aF h2
 generalize (if v.kind == 11 && unsorted v.items then (14 : Int) else 0) = R3 at *
 simp -implicitDefEqProofs [-aA, -gval]
 refine bB (List.range v.names.length) (jJ v.names) [1] [0] (fun i st => st.tmps 8 = .one (.t (I i))) (by simpa [short] using hl) ⟨by simp, by simp, by simp []⟩ ?_ ?_
 ·intro i y st' hi hiI hw hg hy hany hx hk hh
  obtain rfl := gH hg
  simp [h1] at hk hh
  simp at hi
  obtain ⟨o1, o2, o3, o4⟩ := aF (hh.1.trans h2)
  have hi' : (y : Int) < (v.names.length : Int) := by omega
  have g0 : v.names[y]? = some v.names[y] := List.getElem?_eq_getElem hi
  have hd : jJ v.names y = aHF (v.names.take y) v.names[y] := by
   simp only [jJ, g0, aHF]
   congr 1; funext x; simp only [bF]; exact Bool.beq_comm ..
  rw [hd] at hany ⊢
  generalize v.names[y] = x at *
  have hle : y ≤ v.names.length := by omega
  have aR7 := aQ8 (v.names.take y) x (by simp [short] at hl ⊢; omega)
  simp -implicitDefEqProofs [-aA, -gval, hx, hk, hi, hi', hle, o1, o2, o3, aE g0, -List.getElem_map]
  simp only [aO, List.map_take] at aR7
  refine aD.bO aR7 rfl ?_
  rcases bb (aHF (v.names.take y) x) with c | c
  ·rw [if_pos (hany c)] at hR
   subst hR
   rw [c]
   simp -implicitDefEqProofs [-aA, -gval, aC]
  ·rw [c]
   simp -implicitDefEqProofs [-aA, -gval, hx, hk, hw, h1]
   exact hh.1
 ·intro st' hany hx hk hh
  simp [h1] at hk hh
  simp only [List.length_range] at hx
  obtain ⟨o1, o2, o3, o4⟩ := aF (hh.1.trans h2)
  rw [hany] at hR
  subst hR
  simp -implicitDefEqProofs [-aA, -gval, hx, hk, o1, o2, o3]
  exact rest _ ⟨by simp [hk], by simp [hh, h2]⟩ (by simp <;> omega)
attribute [local simp] c158t3 c158t7 c158t10 c158t14 c158t17 c158t20 c158t24 c158t27 c158t29 c158b30 c158t31 c158t32 c158t35 c158t38 c158t40 c158b41 c158t42 c158t45 c158t48 c158t51 c158t53 c158b54 c158t55 c158t58 c158t61 c158t63 c158b64 c158t65 c158t68 c158t71 c158t73 c158b74 c158t75 c158t77 c158t79 c158t80 c158t81 c158t82 c158t83 c158t84 c158t85 c158t86 c158t87 c158t88 c158t89 c158t90 c158 in
theorem aR8 (v : Vl) (hv : v.fine) (R : Int) (hR : (if v.names.any (fun s => !aW s) then (7 : Int) else if (List.range v.names.length).any (jJ v.names) then (13 : Int) else if v.kind == 11 && unsorted v.items then 14 else 0) = R) (st : St) (h1 : VB v 1 st) (_hnx : 0 < st.nx) : aT Tryz.prog 218 (aC [.tmp 2] (.one (.t (I R)))) c158t79 [] st := by
 have rest := aR6 v hv _ rfl
 have hv' := (Vl.aX v).1 hv
 have hl := hv'.2.1
 obtain ⟨h1, h2⟩ := h1
 obtain ⟨o1, o2, o3, o4⟩ := aF h2
 generalize (if (List.range v.names.length).any (jJ v.names) then (13 : Int) else if v.kind == 11 && unsorted v.items then 14 else 0) = R3 at *
 simp -implicitDefEqProofs [-aA, -gval]
 refine bB v.names (fun s => !aW s) [1] [0] (fun i st => st.tmps 7 = .one (.t (I i))) hl ⟨by simp, by simp, by simp []⟩ ?_ ?_
 ·intro i x st' hi hiI hw hg hy hany hx hk hh
  simp [h1] at hk hh
  obtain ⟨o1, o2, o3, o4⟩ := aF (hh.1.trans h2)
  simp -implicitDefEqProofs [-aA, -gval, hx, hk, hi, hiI, o1, o2, o3, aE hg, -List.getElem_map]
  refine aD.tree (aLT x (hv'.2.2.1 x hy)) rfl ?_
  rcases bb (aW x) with c | c
  ·rw [c]
   simp -implicitDefEqProofs [-aA, -gval, hx, hk, hw, h1]
   exact hh.1
  ·rw [if_pos (hany (by simp [c]))] at hR
   subst hR
   rw [c]
   simp -implicitDefEqProofs [-aA, -gval, aC]
 ·intro st' hany hx hk hh
  simp [h1] at hk hh
  obtain ⟨o1, o2, o3, o4⟩ := aF (hh.1.trans h2)
  rw [hany] at hR
  subst hR
  simp -implicitDefEqProofs [-aA, -gval, hx, hk, o1, o2, o3]
  exact rest _ ⟨by simp [hk], by simp [hh, h2]⟩ (by simp <;> omega)
attribute [local simp] c158t3 c158t7 c158t10 c158t14 c158t17 c158t20 c158t24 c158t27 c158t29 c158b30 c158t31 c158t32 c158t35 c158t38 c158t40 c158b41 c158t42 c158t45 c158t48 c158t51 c158t53 c158b54 c158t55 c158t58 c158t61 c158t63 c158b64 c158t65 c158t68 c158t71 c158t73 c158b74 c158t75 c158t77 c158t78 c158t80 c158t81 c158t82 c158t83 c158t84 c158t85 c158t86 c158t87 c158t88 c158t89 c158t90 c158 in
theorem aR9 (v : Vl) (hv : v.fine) (R : Int) (hR : (if v.mF then (7 : Int) else if (List.range v.names.length).any (jJ v.names) then (13 : Int) else if v.kind == 11 && unsorted v.items then 14 else 0) = R) (st : St) (h1 : VB v 1 st) (_hnx : 0 < st.nx) : aT Tryz.prog 218 (aC [.tmp 2] (.one (.t (I R)))) c158t80 [] st := by
 have rest := aR8 v hv _ rfl
 have hv' := (Vl.aX v).1 hv
 have e0 : v.mF = (((v.kind == 3 || (v.kind == 13 && !bF v.s (bs []))) && !aW v.s) || v.names.any fun s => !aW s) := rfl
 rw [e0] at hR
 obtain ⟨h1, h2⟩ := h1
 obtain ⟨o1, o2, o3, o4⟩ := aF h2
 generalize (if (List.range v.names.length).any (jJ v.names) then (13 : Int) else if v.kind == 11 && unsorted v.items then 14 else 0) = R3 at *
 have aK3 := aLT v.s hv'.1
 have go : (v.kind == 3 || (v.kind == 13 && !bF v.s (bs []))) = false ∨ aW v.s = true → ∀ st : St, VB v 1 st → 0 < st.nx → aT Tryz.prog 218 (aC [.tmp 2] (.one (.t (I R)))) c158t79 [] st := fun h st g1 g2 => by
  have := rest st g1 g2
  rcases h with h | h
  ·rw [h] at hR
   simp only [Bool.false_and, Bool.false_or] at hR
   rw [hR] at this; exact this
  ·rw [h] at hR
   simp only [Bool.not_true, Bool.and_false, Bool.false_or] at hR
   rw [hR] at this; exact this
 have bad : (v.kind == 3 || (v.kind == 13 && !bF v.s (bs []))) = true → aW v.s = false → R = 7 := fun h h' => by
  rw [h, h'] at hR
  simpa using hR.symm
 rcases eqCases v.kind 3 with q3 | q3
 ·simp -implicitDefEqProofs [-aA, -gval, h1, o1, o2, o3, q3]
  refine aD.tree aK3 rfl ?_
  rcases bb (aW v.s) with c | c
  ·rw [c]
   simp -implicitDefEqProofs [-aA, -gval, h1, o1, o2, o3, q3]
   exact go (.inr c) _ ⟨by simp [h1], by simp [h2]⟩ (by simp <;> omega)
  ·rw [c, bad (by simp [q3]) c]
   simp -implicitDefEqProofs [-aA, -gval, h1, o1, o2, o3, q3, aC]
 ·rcases eqCases v.kind 13 with q13 | q13
  ·obtain ⟨z, hz⟩ : ∃ z, (v.s.toList == (bs []).toList) = z := ⟨_, rfl⟩
   have hz' : bF v.s (bs []) = z := hz
   rw [hz'] at go bad
   cases z
   ·simp -implicitDefEqProofs [-aA, -gval, h1, o1, o2, o3, q13, hz, bne]
    refine aD.tree aK3 rfl ?_
    rcases bb (aW v.s) with c | c
    ·rw [c]
     simp -implicitDefEqProofs [-aA, -gval]
     exact go (.inr c) _ ⟨by simp [h1], by simp [h2]⟩ (by simp <;> omega)
    ·rw [c, bad (by simp [q13]) c]
     simp -implicitDefEqProofs [-aA, -gval, aC]
   ·simp -implicitDefEqProofs [-aA, -gval, h1, o1, o2, o3, q13, hz, bne]
    exact go (.inl (by simp [q3])) _ ⟨by simp [h1], by simp [h2, q13]⟩ (by simp <;> omega)
  ·simp -implicitDefEqProofs [-aA, -gval, h1, o1, o2, o3, q3, q13]
   exact go (.inl (by simp [q3, q13])) _ ⟨by simp [h1], by simp [h2]⟩ (by simp <;> omega)
end Go.Proofs.YtdpbobkcbakpfaaGreatDoor

namespace Go.Proofs.YtdpbobkcbakpfaaGreatDoor
open Go Go.Ab
set_option maxRecDepth 100000
set_option maxHeartbeats 4000000
attribute [local simp] bL aM aS aK aY aO bI tyC fdC vlC ndC aP D.dQ D.pt aAP D.pU
attribute [local simp] c158t3 c158t7 c158t10 c158t14 c158t17 c158t20 c158t24 c158t27 c158t29 c158b30 c158t31 c158t32 c158t35 c158t38 c158t40 c158b41 c158t42 c158t45 c158t48 c158t51 c158t53 c158b54 c158t55 c158t58 c158t61 c158t63 c158b64 c158t65 c158t68 c158t71 c158t73 c158b74 c158t75 c158t77 c158t78 c158t79 c158t81 c158t82 c158t83 c158t84 c158t85 c158t86 c158t87 c158t88 c158t89 c158t90 c158 in
theorem aRA (v : Vl) (hv : v.fine) (R : Int) (R3 : Int) (hR3 : (if v.mF then (7 : Int) else if (List.range v.names.length).any (jJ v.names) then (13 : Int) else if v.kind == 11 && unsorted v.items then 14 else 0) = R3)
  (hR : (if v.kind == 6 && (chars v.s).any (fun c => decide (127 < c)) then (17 : Int) else R3) = R) (st : St) (h1 : VB v 1 st) (_hnx : 0 < st.nx) : aT Tryz.prog 218 (aC [.tmp 2] (.one (.t (I R)))) c158t81 [] st := by
 have rest := aR9 v hv _ rfl
 rw [hR3] at rest
 have hv' := (Vl.aX v).1 hv
 have hl := hv'.1
 have hcl := dD v.s
 obtain ⟨h1, h2⟩ := h1
 obtain ⟨o1, o2, o3, o4⟩ := aF h2
 rcases eqCases v.kind 6 with q | q
 ·simp only [q, beq_self_eq_true, Bool.true_and] at hR
  simp -implicitDefEqProofs [-aA, -gval]
  refine bB (chars v.s) (fun c => decide (127 < c)) [1] [0] (fun i st => st.tmps 6 = .one (.t (I i))) (by simp only [short]; omega) ⟨by simp, by simp, by simp []⟩ ?_ ?_
  ·intro i c st' hi hiI hw hg hy hany hx hk hh
   simp [h1] at hk hh
   obtain ⟨o1, o2, o3, o4⟩ := aF (hh.1.trans h2)
   rw [hcl] at hi hiI
   have hc : (chars v.s)[i]?.getD 0 = c := by rw [hg]; rfl
   rcases oH 127 c with g | g
   ·rw [if_pos (hany (by simp [g]))] at hR
    subst hR
    simp -implicitDefEqProofs [-aA, -gval, hx, hk, hiI, o1, o2, o3, q, hc, g, aC]
   ·simp -implicitDefEqProofs [-aA, -gval, hx, hk, hiI, o1, o2, o3, q, hc, g, hw, h1]
    exact hh.1
  ·intro st' hany hx hk hh
   simp [h1] at hk hh
   rw [hcl] at hx
   obtain ⟨o1, o2, o3, o4⟩ := aF (hh.1.trans h2)
   rw [hany] at hR
   simp at hR
   subst hR
   simp -implicitDefEqProofs [-aA, -gval, hx, hk, o1, o2, o3]
   exact rest _ ⟨by simp [hk], by simp [hh, h2]⟩ (by simp <;> omega)
 ·have e : R3 = R := by rw [← hR]; simp [q]
  subst e
  simp -implicitDefEqProofs [-aA, -gval]
  refine bB ([] : List Fd) (fun f => !isNum f.num) [1] [0] (fun i st => st.tmps 6 = .one (.t (I 0))) (by simp [short]) ⟨by simp, by simp, by simp []⟩ ?_ ?_
  ·intro i f st' hi; simp at hi
  ·intro st' hany hx hk hh
   simp [h1] at hk hh hx
   obtain ⟨o1, o2, o3, o4⟩ := aF (hh.1.trans h2)
   obtain ⟨b, eb⟩ : ∃ x, decide (0 < v.s.size) = x := ⟨_, rfl⟩
   cases b
   ·simp -implicitDefEqProofs [-aA, -gval, hk, hx, o1, o2, o3, q, eb]
    exact rest _ ⟨by simp [hk], by simp [hh, h2]⟩ (by simp <;> omega)
   ·simp -implicitDefEqProofs [-aA, -gval, hk, hx, o1, o2, o3, q, eb]
    exact rest _ ⟨by simp [hk], by simp [hh, h2]⟩ (by simp <;> omega)
attribute [local simp] c158t3 c158t7 c158t10 c158t14 c158t17 c158t20 c158t24 c158t27 c158t29 c158b30 c158t31 c158t32 c158t35 c158t38 c158t40 c158b41 c158t42 c158t45 c158t48 c158t51 c158t53 c158b54 c158t55 c158t58 c158t61 c158t63 c158b64 c158t65 c158t68 c158t71 c158t73 c158b74 c158t75 c158t77 c158t78 c158t79 c158t80 c158t82 c158t83 c158t84 c158t85 c158t86 c158t87 c158t88 c158t89 c158t90 c158 in
theorem aRB (v : Vl) (hv : v.fine) (R : Int) (R3 : Int) (hR3 : (if v.mF then (7 : Int) else if (List.range v.names.length).any (jJ v.names) then (13 : Int) else if v.kind == 11 && unsorted v.items then 14 else 0) = R3)
  (hR : (if v.tR then (17 : Int) else R3) = R) (st : St) (h1 : VB v 1 st) (_hnx : 0 < st.nx) : aT Tryz.prog 218 (aC [.tmp 2] (.one (.t (I R)))) c158t82 [] st := by
 have rest := fun R' => aRA v hv R' R3 hR3
 have hv' := (Vl.aX v).1 hv
 have hl := hv'.1
 have hcl := dD v.s
 have e0 : v.tR = ((v.kind == 4 && (chars v.s).any fun c => !(c == 48 || c == 49)) || (v.kind == 6 && (chars v.s).any fun c => decide (127 < c))) := rfl
 rw [e0] at hR
 obtain ⟨h1, h2⟩ := h1
 obtain ⟨o1, o2, o3, o4⟩ := aF h2
 rcases eqCases v.kind 4 with q | q
 ·have q6 : (v.kind == 6) = false := by simp [q]
  simp only [q, beq_self_eq_true, Bool.true_and] at hR
  rw [show ((4 : Int) == 6) = false by decide] at hR
  simp only [Bool.false_and, Bool.or_false] at hR
  have rest' := rest R3 (by simp [q6])
  simp -implicitDefEqProofs [-aA, -gval, h1, o1, o2, o3, q]
  refine bB (chars v.s) (fun c => !(c == 48 || c == 49)) [1] [0] (fun i st => st.tmps 5 = .one (.t (I i))) (by simp only [short]; omega) ⟨by simp, by simp, by simp []⟩ ?_ ?_
  ·intro i c st' hi hiI hw hg hy hany hx hk hh
   simp [h1] at hk hh
   obtain ⟨o1, o2, o3, o4⟩ := aF (hh.1.trans h2)
   rw [hcl] at hi hiI
   have hc : (chars v.s)[i]?.getD 0 = c := by rw [hg]; rfl
   have hm := rS hy
   rcases eqCases c 48 with g | g
   ·subst g
    simp -implicitDefEqProofs [-aA, -gval, hx, hk, hiI, o1, o2, o3, q, hc, hw, h1, hh.1]
   ·rcases eqCases c 49 with g' | g'
    ·subst g'
     simp -implicitDefEqProofs [-aA, -gval, hx, hk, hiI, o1, o2, o3, q, hc, hw, h1, hh.1]
    ·rw [if_pos (hany (by simp [g, g']))] at hR
     subst hR
     simp -implicitDefEqProofs [-aA, -gval, hx, hk, hiI, o1, o2, o3, q, hc, g, g', aC]
  ·intro st' hany hx hk hh
   simp [h1] at hk hh
   rw [hcl] at hx
   obtain ⟨o1, o2, o3, o4⟩ := aF (hh.1.trans h2)
   rw [hany] at hR
   simp at hR
   subst hR
   simp -implicitDefEqProofs [-aA, -gval, hx, hk, o1, o2, o3]
   exact rest' _ ⟨by simp [hk], by simp [hh, h2]⟩ (by simp <;> omega)
 ·simp only [q, Bool.false_and, Bool.false_or] at hR
  simp -implicitDefEqProofs [-aA, -gval, h1, o1, o2, o3, q]
  exact rest R hR _ ⟨by simp [h1], by simp [h2]⟩ (by simp <;> omega)
end Go.Proofs.YtdpbobkcbakpfaaGreatDoor

namespace Go.Proofs.YtdpbobkcbakpfaaGreatDoor
open Go Go.Ab
set_option maxRecDepth 100000
set_option maxHeartbeats 4000000
attribute [local simp] bL aM aS aK aY aO bI tyC fdC vlC ndC aP D.dQ D.pt
def Vl.r1 (v : Vl) : Int := if v.mF then (7 : Int) else if (List.range v.names.length).any (jJ v.names) then (13 : Int) else if v.kind == 11 && unsorted v.items then 14 else 0
def Vl.r2 (v : Vl) : Int := if v.tR then (17 : Int) else v.r1
def Vl.r3 (v : Vl) : Int := if v.shaped then v.r2 else 6
def Vl.aAX (v : Vl) : Bool := (decide (200 < v.s.size) && v.kind != 3 && v.kind != 13) || decide ((if v.kind == 9 then 16 else 40) < v.items.length)
def Vl.r4 (v : Vl) : Int := if v.aAX then 2 else v.r3
def Vl.r5 (v : Vl) : Int := if v.cI then v.r4 else 3
def Vl.r6 (v : Vl) : Int := if v.bM then 5 else v.r5
def Vl.kW (v : Vl) : Int := if decide (0 ≤ v.kind) && decide (v.kind ≤ 14) then v.r6 else 4
attribute [local simp] c158t3 c158t7 c158t10 c158t14 c158t17 c158t20 c158t24 c158t27 c158t29 c158b30 c158t31 c158t32 c158t35 c158t38 c158t40 c158b41 c158t42 c158t45 c158t48 c158t51 c158t53 c158b54 c158t55 c158t58 c158t61 c158t63 c158b64 c158t65 c158t68 c158t71 c158t73 c158b74 c158t75 c158t77 c158t78 c158t79 c158t80 c158t81 c158t83 c158t84 c158t85 c158t86 c158t87 c158t88 c158t89 c158t90 c158 in
theorem aRC (v : Vl) (hv : v.fine) (st : St) (h1 : VB v 1 st) (_hnx : 0 < st.nx) : aT Tryz.prog 218 (aC [.tmp 2] (.one (.t (I v.r3)))) c158t83 [] st := by
 have rest := aRB v hv v.r2 v.r1 rfl rfl
 have hv' := (Vl.aX v).1 hv
 obtain ⟨h1, h2⟩ := h1
 obtain ⟨o1, o2, o3, o4⟩ := aF h2
 rw [Vl.r3]
 simp -implicitDefEqProofs [-aA, -gval, h1, o1, o2, o3]
 refine aD.tree (aV3 v hv'.2.2.2.1) rfl ?_
 rcases bb v.shaped with c | c
 ·rw [c]
  simp -implicitDefEqProofs [-aA, -gval]
  exact rest _ ⟨by simp [h1], by simp [h2]⟩ (by simp <;> omega)
 ·rw [c]
  simp -implicitDefEqProofs [-aA, -gval, aC]
attribute [local simp] c158t3 c158t7 c158t10 c158t14 c158t17 c158t20 c158t24 c158t27 c158t29 c158b30 c158t31 c158t32 c158t35 c158t38 c158t40 c158b41 c158t42 c158t45 c158t48 c158t51 c158t53 c158b54 c158t55 c158t58 c158t61 c158t63 c158b64 c158t65 c158t68 c158t71 c158t73 c158b74 c158t75 c158t77 c158t78 c158t79 c158t80 c158t81 c158t82 c158t84 c158t85 c158t86 c158t87 c158t88 c158t89 c158t90 c158 in
theorem aRD (v : Vl) (hv : v.fine) (k : Int) (hk : (if v.kind == 9 then (16 : Int) else 40) = k) (st : St) (h1 : VB v 1 st) (_hnx : 0 < st.nx) (h4 : st.tmps 4 = .one (.t (I k))) : aT Tryz.prog 218 (aC [.tmp 2] (.one (.t (I v.r4)))) c158t84 [] st := by
 have rest := aRC v hv
 obtain ⟨h1, h2⟩ := h1
 obtain ⟨o1, o2, o3, o4⟩ := aF h2
 obtain ⟨a, ea⟩ : ∃ x, decide (200 < v.s.size) = x := ⟨_, rfl⟩
 have ea' : decide ((200 : Int) < (v.s.size : Int)) = a := by rw [← ea]; congr 1; simp; omega
 obtain ⟨b, eb⟩ : ∃ x, (v.kind == 3) = x := ⟨_, rfl⟩
 obtain ⟨c, ec⟩ : ∃ x, (v.kind == 13) = x := ⟨_, rfl⟩
 obtain ⟨d, ed⟩ : ∃ x, decide (k < (v.items.length : Int)) = x := ⟨_, rfl⟩
 have ed' : decide ((if v.kind == 9 then 16 else 40) < v.items.length) = d := by
  rw [← ed, ← hk]; congr 1
  by_cases q : v.kind = 9
  ·simp [q]; omega
  ·simp [q]; omega
 obtain ⟨u1, m1⟩ : ∃ x, (a && !b) = x := ⟨_, rfl⟩
 obtain ⟨u2, m2⟩ : ∃ x, (u1 && !c) = x := ⟨_, rfl⟩
 obtain ⟨u3, m3⟩ : ∃ x, (u2 || d) = x := ⟨_, rfl⟩
 have e0 : v.r4 = if u3 then 2 else v.r3 := by
  simp only [Vl.r4, Vl.aAX, ea, bne, eb, ec, ed', m1, m2, m3]
 rw [e0]
 generalize v.r3 = R at *
 simp -implicitDefEqProofs [-aA, -gval, h1, h4, o1, o2, o3, ea', eb, ec, ed, bne, m1, m2, m3, -Bool.not_or, -Bool.not_and]
 refine ⟨fun h => ?_, fun h => ?_⟩
 ·subst h; simp -implicitDefEqProofs [-aA, -gval, aC]
 ·subst h
  exact rest _ ⟨by simp [h1], by simp [h2]⟩ (by simp <;> omega)
attribute [local simp] c158t3 c158t7 c158t10 c158t14 c158t17 c158t20 c158t24 c158t27 c158t29 c158b30 c158t31 c158t32 c158t35 c158t38 c158t40 c158b41 c158t42 c158t45 c158t48 c158t51 c158t53 c158b54 c158t55 c158t58 c158t61 c158t63 c158b64 c158t65 c158t68 c158t71 c158t73 c158b74 c158t75 c158t77 c158t78 c158t79 c158t80 c158t81 c158t82 c158t83 c158t85 c158t86 c158t87 c158t88 c158t89 c158t90 c158 in
theorem aRE (v : Vl) (hv : v.fine) (st : St) (h1 : VB v 1 st) (_hnx : 0 < st.nx) : aT Tryz.prog 218 (aC [.tmp 2] (.one (.t (I v.r5)))) c158t87 [] st := by
 have rest := aRD v hv
 have hv' := (Vl.aX v).1 hv
 obtain ⟨h1, h2⟩ := h1
 obtain ⟨o1, o2, o3, o4⟩ := aF h2
 rw [Vl.r5]
 simp -implicitDefEqProofs [-aA, -gval, h1, o1, o2, o3]
 refine aD.tree (aV2 v hv'.2.2.2.1) rfl ?_
 rcases bb v.cI with c | c
 ·rw [c]
  rcases eqCases v.kind 9 with q | q
  ·simp -implicitDefEqProofs [-aA, -gval, h1, o1, o2, o3, q]
   exact rest 16 (by simp [q]) _ ⟨by simp [h1], by simp [h2, q]⟩ (by simp <;> omega) (by simp)
  ·simp -implicitDefEqProofs [-aA, -gval, h1, o1, o2, o3, q]
   exact rest 40 (by simp [q]) _ ⟨by simp [h1], by simp [h2]⟩ (by simp <;> omega) (by simp)
 ·rw [c]
  simp -implicitDefEqProofs [-aA, -gval, aC]
attribute [local simp] c158t3 c158t7 c158t10 c158t14 c158t17 c158t20 c158t24 c158t27 c158t29 c158b30 c158t31 c158t32 c158t35 c158t38 c158t40 c158b41 c158t42 c158t45 c158t48 c158t51 c158t53 c158b54 c158t55 c158t58 c158t61 c158t63 c158b64 c158t65 c158t68 c158t71 c158t73 c158b74 c158t75 c158t77 c158t78 c158t79 c158t80 c158t81 c158t82 c158t83 c158t84 c158t85 c158t86 c158t88 c158t89 c158t90 c158 in
theorem aRF (v : Vl) (hv : v.fine) (st : St) (h1 : VB v 1 st) (_hnx : 0 < st.nx) (h3 : st.tmps 3 = .one (.t (.bool (kK v.kind)))) : aT Tryz.prog 218 (aC [.tmp 2] (.one (.t (I v.r6)))) c158t88 [] st := by
 have rest := aRE v hv
 obtain ⟨h1, h2⟩ := h1
 obtain ⟨o1, o2, o3, o4⟩ := aF h2
 obtain ⟨N, eN⟩ : ∃ x, kK v.kind = x := ⟨_, rfl⟩
 obtain ⟨n, en⟩ : ∃ x, (v.n == 0) = x := ⟨_, rfl⟩
 obtain ⟨E, eE⟩ : ∃ x, (v.kind == 8) = x := ⟨_, rfl⟩
 obtain ⟨e, ee⟩ : ∃ x, (v.e == 0) = x := ⟨_, rfl⟩
 obtain ⟨S, eS⟩ : ∃ x, kE v.kind = x := ⟨_, rfl⟩
 obtain ⟨s, es⟩ : ∃ x, (v.s.toList == (bs []).toList) = x := ⟨_, rfl⟩
 obtain ⟨M, eM⟩ : ∃ x, gU v.kind = x := ⟨_, rfl⟩
 obtain ⟨m, em⟩ : ∃ x, decide (0 < v.names.length) = x := ⟨_, rfl⟩
 obtain ⟨F, eF⟩ : ∃ x, gI v.kind = x := ⟨_, rfl⟩
 obtain ⟨f, ef⟩ : ∃ x, decide (0 < v.items.length) = x := ⟨_, rfl⟩
 obtain ⟨u1, m1⟩ : ∃ x, (!N && !n) = x := ⟨_, rfl⟩
 obtain ⟨x2, m2⟩ : ∃ x, (!E && !e) = x := ⟨_, rfl⟩
 obtain ⟨u2, m3⟩ : ∃ x, (u1 || x2) = x := ⟨_, rfl⟩
 obtain ⟨y3, m4⟩ : ∃ x, (!S && !s) = x := ⟨_, rfl⟩
 obtain ⟨y4, m5⟩ : ∃ x, (!M && m) = x := ⟨_, rfl⟩
 obtain ⟨y5, m6⟩ : ∃ x, (!F && f) = x := ⟨_, rfl⟩
 have e0 : v.r6 = if (u2 || y3 || y4 || y5) then 5 else v.r5 := by
  have es' : bF v.s (bs []) = s := es
  simp only [Vl.r6, Vl.bM, eN, bne, en, mE, eE, ee, eS, es', eM, em, eF, ef, m1, m2, m3, m4, m5, m6]
 rw [e0]
 generalize v.r5 = R at *
 have aRG := aUZ v.kind
 have aRH : PSp Tryz.prog 201 [.one (.t (I v.kind))] (.one (.t (.bool (gU v.kind)))) := aT4 v.kind
 have aRI := aV0 v.kind
 rw [eS] at aRG
 rw [eM] at aRH
 rw [eF] at aRI
 rw [eN] at h3
 rcases bb u2 with rfl | rfl
 ·simp -implicitDefEqProofs [-aA, -gval, h1, h3, o1, o2, o3, en, eE, ee, bne, m1, m2, m3, -Bool.not_or, -Bool.not_and]
  refine ⟨fun h => by simp [h], ?_⟩
  simp -implicitDefEqProofs [-aA, -gval, aC]
 ·simp -implicitDefEqProofs [-aA, -gval, h1, h3, o1, o2, o3, en, eE, ee, bne, m1, m2, m3, -Bool.not_or, -Bool.not_and]
  refine ⟨fun h => by simp [h], ?_⟩
  refine aD.tree aRG rfl ?_
  rcases bb y3 with rfl | rfl
  ·simp -implicitDefEqProofs [-aA, -gval, h1, o1, o2, o3, es, m4, -Bool.not_or, -Bool.not_and]
   simp -implicitDefEqProofs [-aA, -gval, aC]
  ·simp -implicitDefEqProofs [-aA, -gval, h1, o1, o2, o3, es, m4, -Bool.not_or, -Bool.not_and]
   refine aD.tree aRH rfl ?_
   rcases bb y4 with rfl | rfl
   ·simp -implicitDefEqProofs [-aA, -gval, h1, o1, o2, o3, em, m5, -Bool.not_or, -Bool.not_and]
    simp -implicitDefEqProofs [-aA, -gval, aC]
   ·simp -implicitDefEqProofs [-aA, -gval, h1, o1, o2, o3, em, m5, -Bool.not_or, -Bool.not_and]
    refine aD.tree aRI rfl ?_
    rcases bb y5 with rfl | rfl
    ·simp -implicitDefEqProofs [-aA, -gval, h1, o1, o2, o3, ef, m6, -Bool.not_or, -Bool.not_and]
     simp -implicitDefEqProofs [-aA, -gval, aC]
    ·simp -implicitDefEqProofs [-aA, -gval, h1, o1, o2, o3, ef, m6, -Bool.not_or, -Bool.not_and]
     exact rest _ ⟨by simp [h1], by simp [h2]⟩ (by simp <;> omega)
attribute [local simp] c158t3 c158t7 c158t10 c158t14 c158t17 c158t20 c158t24 c158t27 c158t29 c158b30 c158t31 c158t32 c158t35 c158t38 c158t40 c158b41 c158t42 c158t45 c158t48 c158t51 c158t53 c158b54 c158t55 c158t58 c158t61 c158t63 c158b64 c158t65 c158t68 c158t71 c158t73 c158b74 c158t75 c158t77 c158t78 c158t79 c158t80 c158t81 c158t82 c158t83 c158t84 c158t85 c158t86 c158t87 c158t89 c158t90 c158 in
theorem aV4 (v : Vl) (hv : v.fine) : PSp Tryz.prog 158 [.agg (vlC v)] (.one (.t (I v.kW))) := by
 have rest := aRF v hv
 refine k158.aG (by simp) (by simp [D.closed, A.closed]) rfl ?_
 obtain ⟨R, hR⟩ : ∃ R, v.kW = R := ⟨_, rfl⟩
 rw [hR]
 rw [Vl.kW] at hR
 simp -implicitDefEqProofs [-aA, -gval]
 refine aD.tree (dC _ _ _) rfl ?_
 obtain ⟨a, ea⟩ : ∃ x, (decide (0 ≤ v.kind) && decide (v.kind ≤ 14)) = x := ⟨_, rfl⟩
 rw [ea] at hR ⊢
 cases a
 ·simp at hR; subst hR
  simp -implicitDefEqProofs [-aA, -gval, aC]
 ·simp only [if_true] at hR; subst hR
  simp -implicitDefEqProofs [-aA, -gval]
  refine aD.pure (P46 [1, 2, 8, 14] v.kind (by simp [short])) (by simp) (by simp [ints]) ?_
  have e : ([1, 2, 8, 14].any fun x => x == v.kind) = kK v.kind := by
   rw [Bool.eq_iff_iff]; simp [kK]; omega
  rw [e]
  simp -implicitDefEqProofs [-aA, -gval]
  refine rest _ ⟨?_, ?_⟩ ?_ ?_
  ·simp
  ·simp [Hp.set]
  ·simp
  ·simp
mutual
def Vl.mR : Vl → Int
 | .mk k n e s ns is => if (Vl.mk k n e s ns is).kW != 0 then (Vl.mk k n e s ns is).kW else iK is
def iK : List Vl → Int
 | [] => 0
 | v :: r => if v.mR != 0 then v.mR else iK r
end
theorem Vl.aCY (v : Vl) : v.mR = if v.kW != 0 then v.kW else iK v.items := by cases v; rw [Vl.mR]; rfl
attribute [local simp] c127t4 c127t5 c127t8 c127t12 c127t13 c127t15 c127b16 c127t17 c127t19 c127t20 c127 in
theorem aRJ (v : Vl) (hl : short v.items) (IH : ∀ x ∈ v.items, PSp Tryz.prog 127 [.agg (vlC x)] (.one (.t (I x.mR)))) (st : St) (h1 : VB v 1 st) (_hnx : 0 < st.nx) : aT Tryz.prog 27 (aC [.tmp 2] (.one (.t (I (iK v.items))))) c127t19 [] st := by
 obtain ⟨h1, h2⟩ := h1
 obtain ⟨o1, o2, o3, o4⟩ := aF h2
 simp -implicitDefEqProofs [-aA, -gval]
 refine dP v.items (fun _ r (_ : Unit) => iK r) (iK v.items) () [1] [0] (fun i _ st => st.tmps 4 = .one (.t (I i))) hl rfl ⟨by simp, by simp, by simp []⟩ ?_ ?_
 ·intro i y _ st' hi hiI hw hg hy hR hx hk hh
  simp [h1] at hk hh
  rw [iK] at hR
  generalize iK v.items = R at *
  obtain ⟨o1, o2, o3, o4⟩ := aF (hh.1.trans h2)
  simp -implicitDefEqProofs [-aA, -gval, hx, hk, hiI, hi, o1, o2, o3, aE hg, Vl.aJ, -List.getElem_map]
  refine aD.tree (IH y hy) rfl ?_
  rcases eqCases y.mR 0 with e | e
  ·rw [e] at hR ⊢
   simp at hR
   simp -implicitDefEqProofs [-aA, -gval, hx, hk, hw, h1]
   exact ⟨hR, hh.1⟩
  ·simp -implicitDefEqProofs [-aA, -gval, e, aC]
   simpa [e] using hR
 ·intro _ st' hR hx hk hh
  simp [h1] at hk hh
  rw [iK] at hR
  generalize iK v.items = R at *
  obtain ⟨o1, o2, o3, o4⟩ := aF (hh.1.trans h2)
  simp -implicitDefEqProofs [-aA, -gval, hx, hk, o1, o2, o3, aC]
  exact hR
attribute [local simp] c127t4 c127t5 c127t8 c127t12 c127t13 c127t15 c127b16 c127t17 c127t20 c127 in
theorem aMH (v : Vl) (hv : v.fine) (IH : ∀ x ∈ v.items, PSp Tryz.prog 127 [.agg (vlC x)] (.one (.t (I x.mR)))) : PSp Tryz.prog 127 [.agg (vlC v)] (.one (.t (I v.mR))) := by
 rw [Vl.aCY]
 refine k127.aG (by simp) (by simp [D.closed, A.closed]) rfl ?_
 have rest := aRJ v ((Vl.aX v).1 hv).2.2.2.1 IH
 simp -implicitDefEqProofs [-aA, -gval]
 refine aD.tree (aV4 v hv) rfl ?_
 rcases eqCases v.kW 0 with e | e
 ·rw [e]
  simp -implicitDefEqProofs [-aA, -gval]
  exact rest _ ⟨by simp, by simp [Hp.set]⟩ (by simp)
 ·simp -implicitDefEqProofs [-aA, -gval, e, aC]
theorem aV5 : ∀ v : Vl, v.fine → PSp Tryz.prog 127 [.agg (vlC v)] (.one (.t (I v.mR))) :=
 Vl.ind fun v IH hv => aMH v hv fun x hx => IH x hx (((Vl.aX v).1 hv).2.2.2.2 x hx)
def Vl.nM (v : Vl) : Int := if (v.sz 8 (120, false)).2 then 2 else v.mR
attribute [local simp] c75 in
theorem P75 (v : Vl) (hv : v.fine) : PSp Tryz.prog 75 [.agg (vlC v)] (.one (.t (I v.nM))) := by
 refine k75.aG (by simp) (by simp [D.closed, A.closed]) rfl ?_
 rw [Vl.nM]
 simp -implicitDefEqProofs [-aA, -gval]
 refine aD.tree (aUI v 120 hv) rfl ?_
 cases (v.sz 8 (120, false)).2
 ·simp -implicitDefEqProofs [-aA, -gval]
  refine aD.tree (aV5 v hv) rfl ?_
  simp -implicitDefEqProofs [-aA, -gval, aC]
 ·simp -implicitDefEqProofs [-aA, -gval, aC]
end Go.Proofs.YtdpbobkcbakpfaaGreatDoor

namespace Go.Proofs.YtdpbobkcbakpfaaGreatDoor
open Go Go.Ab
set_option maxRecDepth 100000
set_option maxHeartbeats 4000000
attribute [local simp] bL aM aS aK aY aO bI tyC fdC vlC ndC aP D.dQ D.pt
def vG : List Vl → Int
 | [] => 0
 | v :: _ => v.nM
mutual
def Ty.jA : Ty → Int
 | .mk k nm tg fs o r of l => if (Ty.mk k nm tg fs o r of l).kW != 0 then (Ty.mk k nm tg fs o r of l).kW else if kG (!(k == 3 || k == 14)) fs != 0 then kG (!(k == 3 || k == 14)) fs else vH of
def Fd.jA (h : Bool) : Fd → Int
 | .mk _ _ t _ d _ => if h then (if t.jA != 0 then t.jA else vG d) else 0
def kG (h : Bool) : List Fd → Int
 | [] => 0
 | f :: r => if f.jA h != 0 then f.jA h else kG h r
def vH : List Ty → Int
 | [] => 0
 | t :: _ => t.jA
end
theorem Ty.oJ (t : Ty) : t.jA = if t.kW != 0 then t.kW else if kG (!(t.kind == 3 || t.kind == 14)) t.fields != 0 then kG (!(t.kind == 3 || t.kind == 14)) t.fields else vH t.of := by
 cases t; rw [Ty.jA]; rfl
theorem Fd.oJ (h : Bool) (f : Fd) : f.jA h = if h then (if f.ty.jA != 0 then f.ty.jA else vG f.dflt) else 0 := by
 cases f; rw [Fd.jA]; rfl
theorem pP : ∀ l : List Fd, kG false l = 0
 | [] => by rw [kG]
 | f :: r => by rw [kG, Fd.oJ, pP r]; rfl
attribute [local simp] c113t4 c113t5 c113t8 c113t10 c113t14 c113t15 c113t20 c113t21 c113t22 c113t23 c113t24 c113t26 c113b27 c113t28 c113t31 c113t33 c113t34 c113t35 c113 in
theorem aRK (t : Ty) (IH : ∀ x ∈ t.of, PSp Tryz.prog 113 [.agg (tyC x)] (.one (.t (I x.jA)))) (R : Int) (hR : vH t.of = R) (st : St) (h1 : TB t 1 st) (_hnx : 0 < st.nx) : aT Tryz.prog 66 (aC [.tmp 2] (.one (.t (I R)))) c113t33 [] st := by
 obtain ⟨h1, h2⟩ := h1
 obtain ⟨o1, o2, o3, o4⟩ := aF h2
 rcases ho : t.of with - | ⟨o, r⟩
 ·rw [ho, vH] at hR
  subst hR
  simp -implicitDefEqProofs [-aA, -gval, h1, o1, o2, o3, ho, aC]
 ·rw [ho, vH] at hR
  subst hR
  have hlen : (0 : Int) < ((r.length : Int) + 1) := by omega
  have ih := IH o (by rw [ho]; simp)
  simp -implicitDefEqProofs [-aA, -gval, h1, o1, o2, o3, ho, hlen, Ty.aJ]
  refine aD.tree ih rfl ?_
  simp -implicitDefEqProofs [-aA, -gval, aC]
attribute [local simp] c113t4 c113t5 c113t8 c113t10 c113t14 c113t15 c113t20 c113t21 c113t22 c113t23 c113t24 c113t26 c113b27 c113t28 c113t31 c113t34 c113t35 c113 in
theorem aRL (t : Ty) (hn : t.narrow = true) (IHf : ∀ x ∈ t.fields, PSp Tryz.prog 113 [.agg (tyC x.ty)] (.one (.t (I x.ty.jA)))) (IH : ∀ x ∈ t.of, PSp Tryz.prog 113 [.agg (tyC x)] (.one (.t (I x.jA)))) (h : Bool) (hh0 : (!(t.kind == 3 || t.kind == 14)) = h) (R : Int) (hR0 : (if kG h t.fields != 0 then kG h t.fields else vH t.of) = R) (st : St) (h1 : TB t 1 st) (_hnx : 0 < st.nx) :
  aT Tryz.prog 66 (aC [.tmp 2] (.one (.t (I R)))) c113t34 [] st := by
 have hnr := (Ty.aR t).1 hn
 have hle := hnr.2.2.1
 have rest := aRK t IH
 obtain ⟨h1, h2⟩ := h1
 obtain ⟨o1, o2, o3, o4⟩ := aF h2
 cases h
 ·have h0 : (t.kind == 3 || t.kind == 14) = true := by rcases bb (t.kind == 3 || t.kind == 14) with z | z <;> simp_all
  rw [pP] at hR0
  simp only [bne_self_eq_false, Bool.false_eq_true, if_false] at hR0
  simp -implicitDefEqProofs [-aA, -gval]
  refine bB ([] : List Fd) (fun f => !isNum f.num) [1] [0] (fun i st => st.tmps 4 = .one (.t (I 0))) (by simp [short]) ⟨by simp, by simp, by simp []⟩ ?_ ?_
  ·intro i f st' hi; simp at hi
  ·intro st' hany hx hk hh
   simp [h1] at hk hh hx
   obtain ⟨o1, o2, o3, o4⟩ := aF (hh.1.trans h2)
   obtain ⟨b, eb⟩ : ∃ x, decide (0 < t.fields.length) = x := ⟨_, rfl⟩
   cases b
   ·simp -implicitDefEqProofs [-aA, -gval, hk, hx, o1, o2, o3, eb]
    exact rest R hR0 _ ⟨by simp [hk], by simp [hh, h2]⟩ (by simp <;> omega)
   ·simp -implicitDefEqProofs [-aA, -gval, hk, hx, o1, o2, o3, eb, h0]
    exact rest R hR0 _ ⟨by simp [hk], by simp [hh, h2]⟩ (by simp <;> omega)
 ·have h0 : (t.kind == 3 || t.kind == 14) = false := by rcases bb (t.kind == 3 || t.kind == 14) with z | z <;> simp_all
  simp -implicitDefEqProofs [-aA, -gval]
  refine dP t.fields (fun _ r (_ : Unit) => if kG true r != 0 then kG true r else vH t.of) R () [1] [0] (fun i _ st => st.tmps 4 = .one (.t (I i))) (by simp [short]; omega) hR0 ⟨by simp, by simp, by simp []⟩ ?_ ?_
  ·intro i f _ st' hi hiI hw hg hy hR hx hk hh
   simp [h1] at hk hh
   rw [kG] at hR
   have hfn := (Fd.aR _).1 (hnr.2.2.2.2.2.2.1 _ hy)
   obtain ⟨o1, o2, o3, o4⟩ := aF (hh.1.trans h2)
   simp -implicitDefEqProofs [-aA, -gval, hx, hk, hiI, hi, aE hg, Fd.aJ, o1, o2, o3, h0, -List.getElem_map]
   refine aD.tree (IHf f hy) rfl ?_
   rw [Fd.oJ] at hR
   simp only [if_true] at hR
   rcases eqCases f.ty.jA 0 with e | e
   ·rw [e] at hR ⊢
    simp only [bne_self_eq_false, Bool.false_eq_true, if_false] at hR
    rcases hd : f.dflt with - | ⟨d, r⟩
    ·rw [hd, vG] at hR
     simp only [bne_self_eq_false, Bool.false_eq_true, if_false] at hR
     simp -implicitDefEqProofs [-aA, -gval, hx, hk, hiI, hi, aE hg, Fd.aJ, o1, o2, o3, hd, hw, h1, -List.getElem_map]
     exact ⟨by simpa using hR, hh.1⟩
    ·rw [hd, vG] at hR
     have hlen : (0 : Int) < ((r.length : Int) + 1) := by omega
     have hdf : d.fine := Vl.yD d (Vl.vE (hfn.2.2.2 d (by rw [hd]; simp)))
     simp -implicitDefEqProofs [-aA, -gval, hx, hk, hiI, hi, aE hg, Fd.aJ, o1, o2, o3, hd, hlen, Vl.aJ, -List.getElem_map]
     refine aD.tree (P75 d hdf) rfl ?_
     rcases eqCases d.nM 0 with e2 | e2
     ·rw [e2] at hR ⊢
      simp only [bne_self_eq_false, Bool.false_eq_true, if_false] at hR
      simp -implicitDefEqProofs [-aA, -gval, hx, hk, hw, h1]
      exact ⟨by simpa using hR, hh.1⟩
     ·simp -implicitDefEqProofs [-aA, -gval, e2, aC]
      simpa [e2] using hR
   ·simp -implicitDefEqProofs [-aA, -gval, e, aC]
    simpa [e] using hR
  ·intro _ st' hR hx hk hh
   simp [h1] at hk hh
   rw [kG] at hR
   simp only [bne_self_eq_false, Bool.false_eq_true, if_false] at hR
   obtain ⟨o1, o2, o3, o4⟩ := aF (hh.1.trans h2)
   simp -implicitDefEqProofs [-aA, -gval, hx, hk, o1, o2, o3]
   exact rest R hR _ ⟨by simp [hk], by simp [hh.1, h2]⟩ (by simp)
attribute [local simp] c113t4 c113t5 c113t8 c113t10 c113t14 c113t15 c113t20 c113t21 c113t22 c113t23 c113t24 c113t26 c113b27 c113t28 c113t31 c113t33 c113t35 c113 in
theorem aMI (t : Ty) (hn : t.narrow = true) (IHf : ∀ x ∈ t.fields, PSp Tryz.prog 113 [.agg (tyC x.ty)] (.one (.t (I x.ty.jA)))) (IH : ∀ x ∈ t.of, PSp Tryz.prog 113 [.agg (tyC x)] (.one (.t (I x.jA)))) : PSp Tryz.prog 113 [.agg (tyC t)] (.one (.t (I t.jA))) := by
 obtain ⟨R, hR⟩ : ∃ R, t.jA = R := ⟨_, rfl⟩
 rw [hR]
 rw [Ty.oJ] at hR
 have rest := aRL t hn IHf IH _ rfl _ rfl
 generalize (if kG (!(t.kind == 3 || t.kind == 14)) t.fields != 0 then kG (!(t.kind == 3 || t.kind == 14)) t.fields else vH t.of) = R2 at *
 refine k113.aG (by simp) (by simp [D.closed, A.closed]) rfl ?_
 simp -implicitDefEqProofs [-aA, -gval]
 refine aD.tree (aUV t hn) rfl ?_
 rcases eqCases t.kW 0 with e | e
 ·rw [e] at hR ⊢
  simp only [bne_self_eq_false, Bool.false_eq_true, if_false] at hR
  subst hR
  simp -implicitDefEqProofs [-aA, -gval]
  refine rest _ ⟨?_, ?_⟩ ?_
  ·simp
  ·simp [Hp.set]
  ·simp
 ·simp -implicitDefEqProofs [-aA, -gval, e, aC]
  simpa [e] using hR
theorem aV6 : ∀ t : Ty, t.narrow = true → PSp Tryz.prog 113 [.agg (tyC t)] (.one (.t (I t.jA))) :=
 Ty.ind fun t IHf IH hn => by
  have h := (Ty.aR t).1 hn
  exact aMI t hn (fun x hx => IHf x hx ((Fd.aR x).1 (h.2.2.2.2.2.2.1 x hx)).2.2.1) fun x hx => IH x hx (h.2.2.2.2.2.2.2 x hx)
def Ty.jB (t : Ty) : Int := if (t.sz 9 (60, false)).2 then 2 else t.jA
attribute [local simp] c67 in
theorem P67 (t : Ty) (hn : t.narrow = true) : PSp Tryz.prog 67 [.agg (tyC t)] (.one (.t (I t.jB))) := by
 refine k67.aG (by simp) (by simp [D.closed, A.closed]) rfl ?_
 rw [Ty.jB]
 simp -implicitDefEqProofs [-aA, -gval]
 refine aD.tree (aUH t 60 (Ty.iY t hn)) rfl ?_
 cases (t.sz 9 (60, false)).2
 ·simp -implicitDefEqProofs [-aA, -gval]
  refine aD.tree (aV6 t hn) rfl ?_
  simp -implicitDefEqProofs [-aA, -gval, aC]
 ·simp -implicitDefEqProofs [-aA, -gval, aC]
end Go.Proofs.YtdpbobkcbakpfaaGreatDoor

namespace Go.Proofs.YtdpbobkcbakpfaaGreatDoor
open Go Go.Ab
set_option maxRecDepth 100000
set_option maxHeartbeats 4000000
theorem aHQ (a b : Int) : iX b a = - iX a b := by
 simp only [iX]
 by_cases h1 : a < b
 ·have : ¬ b < a := by omega
  simp [h1, this]
 ·by_cases h2 : b < a
  ·simp [h1, h2]
  ·simp [h1, h2]
theorem pQ : ∀ a b : List UInt8, Lib.compareBytes b a = - Lib.compareBytes a b
 | [], [] => rfl
 | [], _ :: _ => rfl
 | _ :: _, [] => rfl
 | a :: r, b :: s => by
  simp only [Lib.compareBytes]
  by_cases h1 : a < b
  ·have : ¬ b < a := fun h => UInt8.lt_asymm h h1
   simp [h1, this]
  ·by_cases h2 : b < a
   ·simp [h1, h2]
   ·simp only [h1, h2, if_false]; exact pQ r s
theorem vI : ∀ a b : List ByteArray, bD b a = - bD a b
 | [], [] => rfl
 | [], _ :: _ => rfl
 | _ :: _, [] => rfl
 | x :: r, y :: s => by
  have e : dR y x = - dR x y := by rw [rV, rV]; exact pQ _ _
  simp only [bD, e, vI r s]
  by_cases h : dR x y = 0
  ·simp [h]
  ·simp [h]
theorem sV : ∀ l : List Int, bW (l.map fun x => -x) = - bW l
 | [] => rfl
 | x :: r => by
  rw [List.map_cons, bV, bV, sV r]
  by_cases h : x = 0
  ·simp [h]
  ·simp [h]
theorem yG : ∀ a b : List Vl, (∀ x ∈ a, ∀ y, y.cmp x = - x.cmp y) → bC b a = - bC a b
 | [], [], _ => by simp [bC]
 | [], _ :: _, _ => by simp [bC]
 | _ :: _, [], _ => by simp [bC]
 | x :: r, y :: s, h => by
  have e := h x (by simp) y
  simp only [bC, e, yG r s (fun x hx => h x (by simp [hx]))]
  by_cases h : x.cmp y = 0
  ·simp [h]
  ·simp [h]
theorem Vl.aK5 : ∀ x y : Vl, y.cmp x = - x.cmp y :=
 Vl.ind fun x IH y => by
  rw [Vl.cmp_eq, Vl.cmp_eq x y, ← sV]
  simp only [List.map_cons, List.map_nil, ← aHQ, ← pQ, ← vI, ← yG x.items y.items IH]
theorem aCZ (l : List Vl) : unsorted l = (List.range (l.length - 1)).any (kD l) := by
 have key : ∀ j, j < l.length - 1 → kD l j = aHP l (l.length - 2 - j) := fun j hj => by
  have e : l.length - 2 - j + 1 = l.length - 1 - j := by omega
  have g1 : l[l.length - 1 - j]? = some (l[l.length - 1 - j]'(by omega)) := List.getElem?_eq_getElem _
  have g2 : l[l.length - 2 - j]? = some (l[l.length - 2 - j]'(by omega)) := List.getElem?_eq_getElem _
  simp only [kD, aHP, e, g1, g2]
  rw [Vl.aK5 (l[l.length - 2 - j]'(by omega))]
  congr 1
  simp
 rw [unsorted, Bool.eq_iff_iff]
 simp only [List.any_eq_true, List.mem_range]
 constructor
 ·rintro ⟨i, hi, h⟩
  refine ⟨l.length - 2 - i, by omega, ?_⟩
  rw [key _ (by omega), show l.length - 2 - (l.length - 2 - i) = i by omega]
  exact h
 ·rintro ⟨j, hj, h⟩
  rw [key j hj] at h
  exact ⟨_, by omega, h⟩
theorem aK6 (v : Vl) (h : v.bM = false) : v.aAX = v.large := by
 have hs : kE v.kind = true ∨ bF v.s (bs []) = true := by
  simp only [Vl.bM, Bool.or_eq_false_iff, Bool.and_eq_false_iff, Bool.not_eq_false'] at h
  exact h.1.1.2
 simp only [Vl.aAX, Vl.large]
 congr 1
 rcases hs with h | h
 ·have : v.kind = 3 ∨ v.kind = 4 ∨ v.kind = 5 ∨ v.kind = 6 ∨ v.kind = 13 := by simp [kE] at h; omega
  rcases this with q | q | q | q | q <;> simp [Vl.aF5, q]
 ·have : v.s.size = 0 := by
   simp only [bF, ByteArray.toList_eq, beq_iff_eq] at h
   have := congrArg List.length h
   rw [dsize, dsize] at this
   exact this.trans rfl
  simp [this]
theorem Vl.aMJ (v : Vl) : v.kW = v.gC := by
 rw [Vl.kW, Vl.gC]
 congr 1
 rw [Vl.r6, Vl.aHN]
 rcases bb v.bM with h | h
 ·simp [h]
 ·have e : v.r1 = v.aF6 := by
   rw [Vl.r1, Vl.aF6, Vl.aHL, aCZ]
   congr 2
   by_cases q : v.kind = 11
   ·simp only [q, beq_self_eq_true, Bool.true_and, bne_self_eq_false, Bool.false_or]
    cases (List.range (v.items.length - 1)).any (kD v.items) <;> rfl
   ·simp [q]
  rw [h, Vl.r5, Vl.aJX, Vl.r4, Vl.aHM, Vl.r3, Vl.aJW, Vl.r2, Vl.aJV, e, aK6 v h]
theorem yH : ∀ l : List Vl, (∀ x ∈ l, x.mR = x.fE) → iK l = bK l
 | [], _ => by rw [iK, bK]
 | x :: r, h => by rw [iK, bK, h x (by simp), yH r (fun y hy => h y (by simp [hy]))]
theorem Vl.aHR : ∀ v : Vl, v.mR = v.fE :=
 Vl.ind fun v IH => by rw [Vl.aCY, Vl.vD, Vl.aMJ, yH v.items IH]
end Go.Proofs.YtdpbobkcbakpfaaGreatDoor

namespace Go.Proofs.YtdpbobkcbakpfaaGreatDoor
open Go Go.Ab
set_option maxRecDepth 100000
set_option maxHeartbeats 4000000
theorem aD0 {x : Int} (h1 : -1000000 ≤ x) (h2 : x ≤ 1000000) : wr x = x := wrap_i64 (by omega) (by omega)
theorem Vl.sR (lv : Int) (v : Vl) (s : Sz) : v.sz lv s = if (bJ lv s).2 then bJ lv s else eY (wr (lv - 1)) v.items (bJ lv s) := by
 cases v; rw [Vl.sz]; rfl
theorem aRM {lv : Int} {s : Sz} (h : s.2 = true) : (bJ lv s).2 = true := by simp [bJ, h]
theorem aGF {lv : Int} {m : Int} (hm : m ≤ 100000) (hm0 : -100 ≤ m) (h : (bJ lv (m, false)).2 = false) : 1 ≤ m ∧ 1 ≤ lv ∧ bJ lv (m, false) = (m - 1, false) := by
 simp only [bJ] at h ⊢
 rw [aD0 (by omega) (by omega)] at h ⊢
 simp at h
 refine ⟨by omega, by omega, ?_⟩
 simp; omega
theorem aMK {lv : Int} {m : Int} (hm : m ≤ 100000) (hm0 : 1 ≤ m) (hl : 1 ≤ lv) : bJ lv (m, false) = (m - 1, false) := by
 simp only [bJ]
 rw [aD0 (by omega) (by omega)]
 simp; omega
def VN (v : Vl) : Prop := ∀ (lv m : Int), 0 ≤ m → m ≤ 1000 → lv ≤ 1000 → (v.sz lv (m, false)).2 = false → ∃ r, 0 ≤ r ∧ r ≤ m ∧ ∀ (lv' d : Int), lv ≤ lv' → lv' ≤ 1000 → 0 ≤ d → d ≤ 1000 → v.sz lv' (m + d, false) = (r + d, false)
theorem aK7 : ∀ (l : List Vl), (∀ x ∈ l, VN x) → ∀ (lv m : Int), 0 ≤ m → m ≤ 1000 → lv ≤ 1000 → (eY lv l (m, false)).2 = false → ∃ r, 0 ≤ r ∧ r ≤ m ∧ ∀ (lv' d : Int), lv ≤ lv' → lv' ≤ 1000 → 0 ≤ d → d ≤ 1000 → eY lv' l (m + d, false) = (r + d, false)
 | [], _, lv, m, h0, h1, h2, h => ⟨m, h0, Int.le_refl _, fun lv' d _ _ _ _ => by rw [eY]⟩
 | v :: l, ih, lv, m, h0, h1, h2, h => by
  rw [eY, if_neg (by simp)] at h
  have hb : (v.sz lv (m, false)).2 = false := by
   rcases bb (v.sz lv (m, false)).2 with c | c
   ·rw [nJ c, c] at h; cases h
   ·exact c
  obtain ⟨r, r0, r1, hr⟩ := ih v (by simp) lv m h0 h1 h2 hb
  have e := hr lv 0 (Int.le_refl _) h2 (by omega) (by omega)
  rw [Int.add_zero, Int.add_zero] at e
  rw [e] at h
  obtain ⟨q, q0, q1, hq⟩ := aK7 l (fun x hx => ih x (by simp [hx])) lv r r0 (by omega) h2 h
  refine ⟨q, q0, by omega, fun lv' d a b c e => ?_⟩
  rw [eY, if_neg (by simp), hr lv' d a b c e]
  exact hq lv' d a b c e
theorem Vl.aK8 : ∀ v : Vl, VN v :=
 Vl.ind fun v IH lv m h0 h1 h2 h => by
  rw [Vl.sR] at h
  have hb : (bJ lv (m, false)).2 = false := by
   rcases bb (bJ lv (m, false)).2 with c | c
   ·rw [if_pos c, c] at h; cases h
   ·exact c
  rw [if_neg (by rw [hb]; simp)] at h
  obtain ⟨m1, l1, e⟩ := aGF (by omega) (by omega) hb
  rw [e, aD0 (by omega) (by omega)] at h
  obtain ⟨r, r0, r1, hr⟩ := aK7 v.items IH (lv - 1) (m - 1) (by omega) (by omega) (by omega) h
  refine ⟨r, r0, by omega, fun lv' d a b c e => ?_⟩
  rw [Vl.sR, aMK (by omega) (by omega) (by omega), if_neg (by simp), aD0 (by omega) (by omega), show m + d - 1 = m - 1 + d by omega]
  exact hr (lv' - 1) d (by omega) (by omega) c e
def aFB (v : Vl) : Prop := ∃ lv m : Int, 0 ≤ m ∧ m ≤ 60 ∧ lv ≤ 8 ∧ (v.sz lv (m, false)).2 = false
def Fit (t : Ty) : Prop := ∃ lv m : Int, 0 ≤ m ∧ m ≤ 60 ∧ lv ≤ 9 ∧ (t.sz lv (m, false)).2 = false
theorem aFC {v : Vl} (h : aFB v) : (v.sz 8 (120, false)).2 = false := by
 obtain ⟨lv, m, h0, h1, h2, h3⟩ := h
 obtain ⟨r, _, _, hr⟩ := Vl.aK8 v lv m h0 (by omega) (by omega) h3
 have := hr 8 (120 - m) h2 (by omega) (by omega) (by omega)
 rw [show m + (120 - m) = 120 by omega] at this
 rw [this]
theorem aD1 : ∀ (l : List Vl) (lv m : Int), 0 ≤ m → m ≤ 60 → lv ≤ 8 → (eY lv l (m, false)).2 = false → (∃ r, 0 ≤ r ∧ r ≤ m ∧ eY lv l (m, false) = (r, false)) ∧ ∀ d ∈ l, aFB d
 | [], lv, m, h0, h1, h2, h => ⟨⟨m, h0, Int.le_refl _, by rw [eY]⟩, fun d hd => by simp at hd⟩
 | v :: l, lv, m, h0, h1, h2, h => by
  rw [eY, if_neg (by simp)] at h ⊢
  have hb : (v.sz lv (m, false)).2 = false := by
   rcases bb (v.sz lv (m, false)).2 with c | c
   ·rw [nJ c, c] at h; cases h
   ·exact c
  obtain ⟨r, r0, r1, hr⟩ := Vl.aK8 v lv m h0 (by omega) (by omega) hb
  have e := hr lv 0 (Int.le_refl _) (by omega) (by omega) (by omega)
  rw [Int.add_zero, Int.add_zero] at e
  rw [e] at h ⊢
  obtain ⟨⟨q, q0, q1, hq⟩, hd⟩ := aD1 l lv r r0 (by omega) h2 h
  refine ⟨⟨q, q0, by omega, hq⟩, fun d hd' => ?_⟩
  rcases List.mem_cons.1 hd' with rfl | hd'
  ·exact ⟨lv, m, h0, h1, h2, hb⟩
  ·exact hd d hd'
def TN (t : Ty) : Prop := ∀ (lv m : Int), 0 ≤ m → m ≤ 60 → lv ≤ 9 → (t.sz lv (m, false)).2 = false → ∃ r, 0 ≤ r ∧ r ≤ m ∧ t.sz lv (m, false) = (r, false)
theorem aD2 : ∀ (l : List Fd), (∀ f ∈ l, TN f.ty) → ∀ (lv m : Int), 0 ≤ m → m ≤ 60 → lv ≤ 8 → (kV lv l (m, false)).2 = false → (∃ r, 0 ≤ r ∧ r ≤ m ∧ kV lv l (m, false) = (r, false)) ∧ ∀ f ∈ l, Fit f.ty ∧ ∀ d ∈ f.dflt, aFB d
 | [], _, lv, m, h0, h1, h2, h => ⟨⟨m, h0, Int.le_refl _, by rw [kV]⟩, fun d hd => by simp at hd⟩
 | f :: l, ih, lv, m, h0, h1, h2, h => by
  rw [kV, if_neg (by simp)] at h ⊢
  have hb : (f.sz lv (m, false)).2 = false := by
   rcases bb (f.sz lv (m, false)).2 with c | c
   ·rw [uV c, c] at h; cases h
   ·exact c
  rw [Fd.sR] at h hb ⊢
  have hb2 : (f.ty.sz lv (m, false)).2 = false := by
   rcases bb (f.ty.sz lv (m, false)).2 with c | c
   ·rw [nJ c, c] at hb; cases hb
   ·exact c
  obtain ⟨r, r0, r1, hr⟩ := ih f (by simp) lv m h0 h1 (by omega) hb2
  rw [hr] at h hb ⊢
  obtain ⟨⟨q, q0, q1, hq⟩, hd⟩ := aD1 f.dflt lv r r0 (by omega) h2 hb
  rw [hq] at h ⊢
  obtain ⟨⟨p, p0, p1, hp⟩, hf⟩ := aD2 l (fun x hx => ih x (by simp [hx])) lv q q0 (by omega) h2 h
  refine ⟨⟨p, p0, by omega, hp⟩, fun x hx => ?_⟩
  rcases List.mem_cons.1 hx with rfl | hx
  ·exact ⟨⟨lv, m, h0, h1, by omega, hb2⟩, hd⟩
  ·exact hf x hx
theorem aD3 : ∀ (l : List Ty), (∀ x ∈ l, TN x) → ∀ (lv m : Int), 0 ≤ m → m ≤ 60 → lv ≤ 8 → (kJ lv l (m, false)).2 = false → (∃ r, 0 ≤ r ∧ r ≤ m ∧ kJ lv l (m, false) = (r, false)) ∧ ∀ o ∈ l, Fit o
 | [], _, lv, m, h0, h1, h2, h => ⟨⟨m, h0, Int.le_refl _, by rw [kJ]⟩, fun d hd => by simp at hd⟩
 | t :: l, ih, lv, m, h0, h1, h2, h => by
  rw [kJ, if_neg (by simp)] at h ⊢
  have hb : (t.sz lv (m, false)).2 = false := by
   rcases bb (t.sz lv (m, false)).2 with c | c
   ·rw [qP c, c] at h; cases h
   ·exact c
  obtain ⟨r, r0, r1, hr⟩ := ih t (by simp) lv m h0 h1 (by omega) hb
  rw [hr] at h ⊢
  obtain ⟨⟨p, p0, p1, hp⟩, hf⟩ := aD3 l (fun x hx => ih x (by simp [hx])) lv r r0 (by omega) h2 h
  refine ⟨⟨p, p0, by omega, hp⟩, fun x hx => ?_⟩
  rcases List.mem_cons.1 hx with rfl | hx
  ·exact ⟨lv, m, h0, h1, by omega, hb⟩
  ·exact hf x hx
theorem aD4 (t : Ty) (ihf : ∀ f ∈ t.fields, TN f.ty) (ih : ∀ o ∈ t.of, TN o) (lv m : Int) (h0 : 0 ≤ m) (h1 : m ≤ 60) (h2 : lv ≤ 9) (h : (t.sz lv (m, false)).2 = false) :
  (∃ r, 0 ≤ r ∧ r ≤ m ∧ t.sz lv (m, false) = (r, false)) ∧ (∀ f ∈ t.fields, Fit f.ty ∧ ∀ d ∈ f.dflt, aFB d) ∧ ∀ o ∈ t.of, Fit o := by
 rw [Ty.sR] at h ⊢
 have hb : (bJ lv (m, false)).2 = false := by
  rcases bb (bJ lv (m, false)).2 with c | c
  ·rw [if_pos c, c] at h; cases h
  ·exact c
 rw [if_neg (by rw [hb]; simp)] at h ⊢
 obtain ⟨m1, l1, e⟩ := aGF (by omega) (by omega) hb
 rw [e, aD0 (by omega) (by omega)] at h ⊢
 have hb2 : (kV (lv - 1) t.fields (m - 1, false)).2 = false := by
  rcases bb (kV (lv - 1) t.fields (m - 1, false)).2 with c | c
  ·rw [qP c, c] at h; cases h
  ·exact c
 obtain ⟨⟨r, r0, r1, hr⟩, hf⟩ := aD2 t.fields ihf (lv - 1) (m - 1) (by omega) (by omega) (by omega) hb2
 rw [hr] at h ⊢
 obtain ⟨⟨p, p0, p1, hp⟩, ho⟩ := aD3 t.of ih (lv - 1) r r0 (by omega) (by omega) h
 exact ⟨⟨p, p0, by omega, hp⟩, hf, ho⟩
theorem Ty.aK8 : ∀ t : Ty, TN t := Ty.ind fun t ihf ih lv m h0 h1 h2 h => (aD4 t ihf ih lv m h0 h1 h2 h).1
theorem aHS {t : Ty} (h : Fit t) : (∀ f ∈ t.fields, Fit f.ty ∧ ∀ d ∈ f.dflt, aFB d) ∧ ∀ o ∈ t.of, Fit o := by
 obtain ⟨lv, m, h0, h1, h2, h3⟩ := h
 exact (aD4 t (fun f _ => Ty.aK8 f.ty) (fun o _ => Ty.aK8 o) lv m h0 h1 h2 h3).2
end Go.Proofs.YtdpbobkcbakpfaaGreatDoor

namespace Go.Proofs.YtdpbobkcbakpfaaGreatDoor
open Go Go.Ab
set_option maxRecDepth 100000
set_option maxHeartbeats 4000000
theorem aD5 {x : Int} {l : List Int} (h : bW (x :: l) = 0) : x = 0 ∧ bW l = 0 := by
 rw [bV] at h
 by_cases c : x = 0
 ·simp [c] at h; exact ⟨c, h⟩
 ·simp [c] at h
theorem vJ (t : Ty) (h : t.dN = 0) : t.bM = false ∧ t.eG = true := by
 rw [Ty.dN] at h
 rcases bb t.bM with c | c
 ·rw [c] at h; simp at h
 ·refine ⟨c, ?_⟩
  rw [c] at h
  simp only [Bool.false_eq_true, if_false] at h
  have h1 : t.cW = 0 := by
   by_cases q : t.cW = 0
   ·exact q
   ·simp [q] at h
  rw [Ty.cW] at h1
  have := (aD5 h1).1
  by_cases q : t.eG = true
  ·exact q
  ·simp [q] at this
theorem aON (t : Ty) (hf : t.bM = false) (hs : t.eG = true) : t.of.length ≤ 1 := by
 simp only [Ty.eG, Bool.and_eq_true, Bool.not_eq_true'] at hs
 have h1 := hs.1.1.1
 simp only [Ty.aAT, Bool.or_eq_false_iff] at h1
 have h2 := h1.1
 simp only [Ty.bM, Bool.or_eq_false_iff] at hf
 have h3 := hf.1.1.2
 rcases bb (lI t.kind) with c | c
 ·have c' : (t.kind == 11 || t.kind == 12) = true := c
  rw [c'] at h2
  simp at h2; omega
 ·rw [c] at h3
  simp at h3; simp [h3]
theorem aOO (t : Ty) (h : t.of.length ≤ 1) (ih : ∀ o ∈ t.of, o.jA = o.bS) : vH t.of = cR t.of := by
 rcases e : t.of with - | ⟨o, r⟩
 ·rw [vH, cR]
 ·rw [e] at h
  have : r = [] := by
   have : r.length = 0 := by simp at h; simp [h]
   exact List.length_eq_zero_iff.1 this
  subst this
  rw [vH, cR, cR, ih o (by rw [e]; simp)]
  by_cases q : o.bS = 0 <;> simp [q]
theorem aML (l : List Vl) (h : l.length ≤ 1) (hd : ∀ d ∈ l, aFB d) : vG l = bK l := by
 rcases l with - | ⟨d, r⟩
 ·rw [vG, bK]
 ·have : r = [] := by
   have : r.length = 0 := by simp at h; simp [h]
   exact List.length_eq_zero_iff.1 this
  subst this
  rw [vG, bK, bK, Vl.nM, aFC (hd d (by simp)), Vl.aHR]
  by_cases q : d.fE = 0 <;> simp [q]
theorem aD6 : ∀ l : List Fd, (∀ f ∈ l, f.ty.jA = f.ty.bS ∧ f.dflt.length ≤ 1 ∧ ∀ d ∈ f.dflt, aFB d) → kG true l = bG true l
 | [], _ => by rw [kG, bG]
 | f :: r, h => by
  obtain ⟨h1, h2, h3⟩ := h f (by simp)
  have e : f.jA true = f.gC true := by
   rw [Fd.oJ, Fd.rU, h1, aML f.dflt h2 h3]
   by_cases q : f.ty.bS = 0 <;> simp [q]
  rw [kG, bG, e, aD6 r (fun x hx => h x (by simp [hx]))]
theorem aD7 : ∀ l : List Fd, (∀ f ∈ l, f.dflt = []) → bG false l = 0
 | [], _ => by rw [bG]
 | f :: r, h => by
  have : f.gC false = 0 := by rw [Fd.rU, h f (by simp), bK]; rfl
  rw [bG, this, aD7 r (fun x hx => h x (by simp [hx]))]; rfl
theorem aOP : ∀ t : Ty, Fit t → t.jA = t.bS :=
 Ty.ind fun t ihf ih hfit => by
  obtain ⟨ff, fo⟩ := aHS hfit
  rw [Ty.oJ, Ty.pO, aOM]
  by_cases hr : t.bU = 0
  ·by_cases hp : t.dN = 0
   ·obtain ⟨hf, hs⟩ := vJ t hp
    rw [aOO t (aON t hf hs) (fun o ho => ih o ho (fo o ho))]
    have e : kG (!(t.kind == 3 || t.kind == 14)) t.fields = bG (qS t.kind) t.fields := by
     rcases hfl : t.fields with - | ⟨f0, r0⟩
     ·rw [kG, bG]
     ·rw [← hfl]
      have hk : eK t.kind = true := by
       rcases bb (eK t.kind) with c | c
       ·exact c
       ·have hk' : (bR t.kind || t.kind == 3 || t.kind == 14 || t.kind == 15) = false := c
        simp only [Ty.bM, dY, hk', hfl, Bool.or_eq_false_iff] at hf
        simp at hf
      have hfits : ∀ f ∈ t.fields, f.fits t.kind = true := by
       simp only [Ty.bM, Ty.aCR, Bool.or_eq_false_iff] at hf
       have := List.any_eq_false.1 hf.2.1
       exact fun f hf => by simpa using this f hf
      have hsh : ∀ f ∈ t.fields, f.pres = 2 → f.dflt.length = 1 := by
       simp only [Ty.eG, Bool.and_eq_true, Bool.not_eq_true'] at hs
       have := List.any_eq_false.1 hs.1.2
       exact fun f hf h => by have := this f hf; simp [h] at this; omega
      have h1 : t.kind = 9 ∨ t.kind = 10 ∨ t.kind = 13 ∨ t.kind = 3 ∨ t.kind = 14 ∨ t.kind = 15 := by
       simp [eK, bR] at hk; omega
      have one : (t.kind = 9 ∨ t.kind = 10 ∨ t.kind = 13 ∨ t.kind = 15) → ∀ f ∈ t.fields, f.dflt.length ≤ 1 := fun q f hf => by
       have a := hfits f hf
       have b := hsh f hf
       by_cases p : f.pres = 2
       ·have := b p; omega
       ·rcases q with q | q | q | q <;> simp [Fd.fits, Fd.alone, q, p] at a <;> simp [a]
      have go : (t.kind = 9 ∨ t.kind = 10 ∨ t.kind = 13 ∨ t.kind = 15) → kG true t.fields = bG true t.fields := fun q =>
       aD6 t.fields fun f hf => ⟨ihf f hf (ff f hf).1, one q f hf, (ff f hf).2⟩
      have no : (t.kind = 3 ∨ t.kind = 14) → kG false t.fields = bG false t.fields := fun q => by
       rw [pP, aD7]
       intro f hf
       have a := hfits f hf
       rcases q with q | q <;> simp [Fd.fits, Fd.alone, q] at a <;> simp [a]
      rcases h1 with q | q | q | q | q | q
      ·have := go (.inl q); rw [q]; exact this
      ·have := go (.inr (.inl q)); rw [q]; exact this
      ·have := go (.inr (.inr (.inl q))); rw [q]; exact this
      ·have := no (.inl q); rw [q]; exact this
      ·have := no (.inr q); rw [q]; exact this
      ·have := go (.inr (.inr (.inr q))); rw [q]; exact this
    rw [e]
    simp [hr, hp]
   ·simp [hr, hp]
  ·simp [hr]
theorem sW (t : Ty) : t.jB = t.check := by
 rw [Ty.jB, Ty.check]
 rcases bb (t.sz 9 (60, false)).2 with c | c
 ·rw [c]; rfl
 ·rw [c, aOP t ⟨9, 60, by omega, by omega, by omega, c⟩]
end Go.Proofs.YtdpbobkcbakpfaaGreatDoor

namespace Go.Proofs.YtdpbobkcbakpfaaGreatDoor
open Go Go.Ab
set_option maxRecDepth 100000
set_option maxHeartbeats 4000000
attribute [local simp] bL aM aS aK aY aO bI tyC fdC vlC ndC aP D.dQ D.pt
def aFD : ByteArray := bs [78, 117, 109, 101, 114, 105, 99, 83, 116, 114, 105, 110, 103]
def aFE : ByteArray := bs [80, 114, 105, 110, 116, 97, 98, 108, 101, 83, 116, 114, 105, 110, 103]
def aFF : ByteArray := bs [86, 105, 115, 105, 98, 108, 101, 83, 116, 114, 105, 110, 103]
def nN : ByteArray := bs [73, 65, 53, 83, 116, 114, 105, 110, 103]
def alpha (s : ByteArray) : List Sp :=
 if bF s aFD then [⟨32, 32⟩, ⟨48, 57⟩] else if bF s aFE then [⟨32, 32⟩, ⟨39, 41⟩, ⟨43, 58⟩, ⟨61, 61⟩, ⟨63, 63⟩, ⟨65, 90⟩, ⟨97, 122⟩]
 else if bF s aFF then [⟨32, 126⟩] else if bF s nN then [⟨0, 127⟩] else []
theorem vK (s : ByteArray) : fD s = (bF s aFD || bF s aFE || bF s aFF || bF s nN) := by
 simp [fD, hX, aFD, aFE, aFF, nN, Bool.or_assoc]
attribute [local simp] c18t10 c18t11 c18t12 c18t13 c18t14 c18t16 c18 in
theorem P18 (s : ByteArray) : PSp Tryz.prog 18 [.one (.t (.str s))] (.one (.t (spans (alpha s)))) := by
 refine k18.aG (by simp) rfl rfl ?_
 obtain ⟨a, ea⟩ : ∃ x, bF s aFD = x := ⟨_, rfl⟩
 obtain ⟨b, eb⟩ : ∃ x, bF s aFE = x := ⟨_, rfl⟩
 obtain ⟨c, ec⟩ : ∃ x, bF s aFF = x := ⟨_, rfl⟩
 obtain ⟨d, ed⟩ : ∃ x, bF s nN = x := ⟨_, rfl⟩
 have e0 : alpha s = if a then [⟨32, 32⟩, ⟨48, 57⟩] else if b then [⟨32, 32⟩, ⟨39, 41⟩, ⟨43, 58⟩, ⟨61, 61⟩, ⟨63, 63⟩, ⟨65, 90⟩, ⟨97, 122⟩] else if c then [⟨32, 126⟩] else if d then [⟨0, 127⟩] else [] := by
  rw [← ea, ← eb, ← ec, ← ed]; rfl
 rw [e0]
 simp only [bF, aFD, aFE, aFF, nN] at ea eb ec ed
 cases a
 ·cases b
  ·cases c
   ·cases d
    ·simp -implicitDefEqProofs [-aA, -gval, ea, eb, ec, ed, aC, spans]
    ·simp -implicitDefEqProofs [-aA, -gval, ea, eb, ec, ed, aC, spans, spr]
   ·simp -implicitDefEqProofs [-aA, -gval, ea, eb, ec, aC, spans, spr]
  ·simp -implicitDefEqProofs [-aA, -gval, ea, eb, aC, spans, spr]
 ·simp -implicitDefEqProofs [-aA, -gval, ea, aC, spans, spr]
attribute [local simp] c17t10 c17t11 c17t12 c17t13 c17t14 c17t16 c17 in
theorem P17 (s : ByteArray) : PSp Tryz.prog 17 [.one (.t (.str s))] (.tup [.one (.t (spans (alpha s))), .one (.t (I (if fD s then 0 else 7)))]) := by
 refine k17.aG (by simp) rfl rfl ?_
 obtain ⟨a, ea⟩ : ∃ x, bF s aFD = x := ⟨_, rfl⟩
 obtain ⟨b, eb⟩ : ∃ x, bF s aFE = x := ⟨_, rfl⟩
 obtain ⟨c, ec⟩ : ∃ x, bF s aFF = x := ⟨_, rfl⟩
 obtain ⟨d, ed⟩ : ∃ x, bF s nN = x := ⟨_, rfl⟩
 have e0 : alpha s = if a then [⟨32, 32⟩, ⟨48, 57⟩] else if b then [⟨32, 32⟩, ⟨39, 41⟩, ⟨43, 58⟩, ⟨61, 61⟩, ⟨63, 63⟩, ⟨65, 90⟩, ⟨97, 122⟩] else if c then [⟨32, 126⟩] else if d then [⟨0, 127⟩] else [] := by
  rw [← ea, ← eb, ← ec, ← ed]; rfl
 rw [e0, vK, ea, eb, ec, ed]
 simp only [bF, aFD, aFE, aFF, nN] at ea eb ec ed
 cases a
 ·cases b
  ·cases c
   ·cases d
    ·simp -implicitDefEqProofs [-aA, -gval, ea, eb, ec, ed, aC, spans]
    ·simp -implicitDefEqProofs [-aA, -gval, ea, eb, ec, ed, aC, spans, spr]
   ·simp -implicitDefEqProofs [-aA, -gval, ea, eb, ec, aC, spans, spr]
  ·simp -implicitDefEqProofs [-aA, -gval, ea, eb, aC, spans, spr]
 ·simp -implicitDefEqProofs [-aA, -gval, ea, aC, spans, spr]
end Go.Proofs.YtdpbobkcbakpfaaGreatDoor

namespace Go.Proofs.YtdpbobkcbakpfaaGreatDoor
open Go Go.Ab
set_option maxRecDepth 100000
set_option maxHeartbeats 4000000
attribute [local simp] bL aM aS aK aY aO bI tyC fdC vlC ndC aP D.dQ D.pt
attribute [local simp] c79r0 c79r1 c79r2 c79r3 c79r4 c79r5 c79r6 c79b7 c79r7 c79 in
theorem P79 (l : List Int) (hl : short l) : PSp Tryz.prog 79 [.one (.t (bI l))] (.one (.t (I (bW l)))) := by
 refine k79.aG (by simp) rfl rfl ?_
 simp -implicitDefEqProofs [-aA, -gval]
 refine uW l ne0 [5, 6] [] (fun i st => st.tmps 7 = .one (.t (I i))) hl ⟨by simp, by simp, by simp⟩ ?_ ?_
 ·intro i y st hi hiI hw hg hy hany hx hk hh
  simp at hk
  rcases eqCases y 0 with e | e
  ·simp -implicitDefEqProofs [-aA, -gval, hx, hk, hiI, hi, aE hg, hw, e, ne0]
  ·simp -implicitDefEqProofs [-aA, -gval, hx, hk, hiI, hi, aE hg, e, aC]
   simp [bW, hany y (by simp [e, ne0])]
 ·intro st hany hx hk hh
  simp at hk
  simp -implicitDefEqProofs [-aA, -gval, hx, hk, aC, bW, hany]
def jH (k : Int) : Int := if k == 11 || k == 12 then 40 else 200
attribute [local simp] c91 in
theorem P91 (t : Ty) : PSp Tryz.prog 91 [.agg (tyC t)] (.one (.t (I (jH t.kind)))) := by
 refine k91.aG (by simp) (by simp [D.closed, A.closed]) rfl ?_
 rw [jH]
 obtain ⟨a, ea⟩ : ∃ x, (t.kind == 11 || t.kind == 12) = x := ⟨_, rfl⟩
 have p61 := P61 t.kind
 rw [ea] at p61 ⊢
 simp -implicitDefEqProofs [-aA, -gval]
 refine aD.tree p61 rfl ?_
 cases a
 ·simp -implicitDefEqProofs [-aA, -gval, aC]
 ·simp -implicitDefEqProofs [-aA, -gval, aC]
def iL (x : Nd) (a k : Int) : Bool :=
 let lo : Int := if a == 5 || a == 6 then 0 else -1152921504606846976
 let hi : Int := if a == 5 then jH k else if a == 6 then 127 else 1152921504606846976
 decide (x.lo > x.hi) || decide (x.lo < lo) || decide (x.hi > hi)
attribute [local simp] c116t4 c116t7 c116t9 c116t10 c116t11 c116 in
theorem aV7 (x : Nd) (a k : Int) : PSp Tryz.prog 116 [.agg (ndC x), .one (.t (I a)), .one (.t (I k))] (.one (.t (.bool (iL x a k)))) := by
 have fin : ∀ (lo hi : Int) (R : Bool), (decide (x.lo > x.hi) || decide (x.lo < lo) || decide (x.hi > hi)) = R → (lo = (if a == 5 || a == 6 then 0 else -1152921504606846976)) → (hi = (if a == 5 then jH k else if a == 6 then 127 else 1152921504606846976)) → iL x a k = R := fun lo hi R h1 h2 h3 => by
  rw [iL, ← h2, ← h3]; exact h1
 obtain ⟨u, eu⟩ : ∃ y, decide (x.hi < x.lo) = y := ⟨_, rfl⟩
 have eu' : decide (x.lo > x.hi) = u := eu
 have aRN : PSp Tryz.prog 133 [.one (.t (I k))] (.one (.t (I (jH k)))) := aSV k
 obtain ⟨m, em⟩ : ∃ m, jH k = m := ⟨_, rfl⟩
 rw [em] at aRN fin
 refine k116.aG (by simp) (by simp [D.closed, A.closed]) rfl ?_
 rcases eqCases a 5 with q5 | q5
 ·obtain ⟨v, ev⟩ : ∃ y, decide (x.lo < 0) = y := ⟨_, rfl⟩
  obtain ⟨w, ew⟩ : ∃ y, decide (m < x.hi) = y := ⟨_, rfl⟩
  have ew' : decide (x.hi > m) = w := ew
  rw [fin 0 m _ (by rw [eu', ev, ew']) (by simp [q5]) (by simp [q5])]
  simp -implicitDefEqProofs [-aA, -gval, q5]
  refine aD.tree aRN rfl ?_
  cases u <;> cases v <;> cases w
  all_goals simp -implicitDefEqProofs [-aA, -gval, eu, ev, ew, aC]
 ·rcases eqCases a 6 with q6 | q6
  ·obtain ⟨v, ev⟩ : ∃ y, decide (x.lo < 0) = y := ⟨_, rfl⟩
   obtain ⟨w, ew⟩ : ∃ y, decide (127 < x.hi) = y := ⟨_, rfl⟩
   have ew' : decide (x.hi > 127) = w := ew
   rw [fin 0 127 _ (by rw [eu', ev, ew']) (by simp [q6]) (by simp [q6])]
   cases u <;> cases v <;> cases w
   all_goals simp -implicitDefEqProofs [-aA, -gval, q6, eu, ev, ew, aC]
  ·obtain ⟨v, ev⟩ : ∃ y, decide (x.lo < -1152921504606846976) = y := ⟨_, rfl⟩
   obtain ⟨w, ew⟩ : ∃ y, decide (1152921504606846976 < x.hi) = y := ⟨_, rfl⟩
   have ew' : decide (x.hi > 1152921504606846976) = w := ew
   rw [fin (-1152921504606846976) 1152921504606846976 _ (by rw [eu', ev, ew']) (by simp [q5, q6]) (by simp [q5, q6])]
   cases u <;> cases v <;> cases w
   all_goals simp -implicitDefEqProofs [-aA, -gval, q5, q6, eu, ev, ew, aC]
theorem rW (s : ByteArray) : (alpha s).length ≤ 7 := by
 simp only [alpha]
 repeat' split
 all_goals simp
theorem aD8 {α : Type} (p : α → Bool) : ∀ (l : List α) (b : Bool), l.foldl (fun b c => b || p c) b = (b || l.any p)
 | [], b => by simp
 | x :: r, b => by rw [List.foldl_cons, aD8 p r, List.any_cons, Bool.or_assoc]
def cS (t : Ty) (a c : Int) : Bool := if a == 3 then t.kind == 4 && c != 48 && c != 49 else !inS (alpha (if a == 6 then nN else t.name)) c
def lK (t : Ty) (s : ByteArray) (a : Int) : Int := if (a == 6 && bF s (bs [])) || (chars s).any (cS t a) then 17 else if 200 < s.size then 2 else 0
attribute [local simp] aAP D.pU
attribute [local simp] c117t4 c117t8 c117t13 c117t14 c117t16 c117b17 c117t18 c117t21 c117t23 c117t24 c117t25 c117t26 c117t27 c117 in
theorem aOQ (t : Ty) (s : ByteArray) (a : Int) (b0 : Bool) (hs : s.size ≤ 9223372036854775807) (st : St) (h1 : st.tmps 1 = .one (.t (.str s))) (h2 : st.tmps 2 = .one (.t (I a))) (h3 : st.tmps 3 = .one (.ptr ⟨0, 0, 8, 0, 0⟩)) (hh : st.heap 0 = some (.arr 0 false 8 [tyC t])) (_hnx : 0 < st.nx)
  (h7 : st.tmps 7 = .one (.t (spans (alpha (if a == 6 then nN else t.name))))) (h8 : st.tmps 8 = .one (.t (.bool b0))) :
  aT Tryz.prog 62 (aC [.tmp 6] (.one (.t (I (if b0 || (chars s).any (cS t a) then 17 else if 200 < s.size then 2 else 0))))) c117t24 [] st := by
 obtain ⟨R, hR⟩ : ∃ R, (if b0 || (chars s).any (cS t a) then (17 : Int) else if 200 < s.size then 2 else 0) = R := ⟨_, rfl⟩
 rw [hR]
 have hcl := dD s
 obtain ⟨o1, o2, o3, o4⟩ := aF hh
 generalize hA : alpha (if a == 6 then nN else t.name) = A at *
 have hAl : A.length ≤ 1000000 := by
  rw [← hA]; have := rW (if a == 6 then nN else t.name); omega
 simp -implicitDefEqProofs [-aA, -gval]
 refine uX (chars s) (fun b c => b || cS t a c) b0 [1, 2, 3, 7] [0] (fun i b st => st.tmps 9 = .one (.t (I i)) ∧ st.tmps 8 = .one (.t (.bool b))) (by simp only [short]; omega) ⟨by simp [h8], by simp, by simp []⟩ ?_ ?_
 ·rintro i c b st' hi hiI hw hg hy hb ⟨hx, hx8⟩ hk hh'
  simp [h1, h2, h3, h7] at hk hh'
  rw [hcl] at hi hiI
  obtain ⟨o1, o2, o3, o4⟩ := aF (hh'.1.trans hh)
  have hc : (chars s)[i]?.getD 0 = c := by rw [hg]; rfl
  have hm := rS hy
  have hcv : D.eH .i64 (.one (.t (.int .u8 c))) = .one (.t (I c)) := by
   have : IntKind.i64.wrap c = c := wrap_i64 (by omega) (by omega)
   simp [D.eH, this]
  rcases eqCases a 3 with q | q
  ·have hd : cS t a c = (t.kind == 4 && c != 48 && c != 49) := by simp [cS, q]
   obtain ⟨x, ex⟩ : ∃ x, (t.kind == 4) = x := ⟨_, rfl⟩
   obtain ⟨y, ey⟩ : ∃ x, (c == 48) = x := ⟨_, rfl⟩
   obtain ⟨z, ez⟩ : ∃ x, (c == 49) = x := ⟨_, rfl⟩
   rw [hd]
   simp only [ex, bne, ey, ez]
   cases b <;> cases x <;> cases y <;> cases z
   all_goals simp -implicitDefEqProofs [-aA, -gval, hx, hx8, hk, hiI, hw, hc, hcv, o1, o2, o3, q, ex, ey, ez, bne, hh'.1]
   all_goals simp [h1, h2, h3, h7, q]
  ·have hd : cS t a c = !inS A c := by rw [← hA]; simp [cS, q]
   rw [hd]
   cases b
   ·simp -implicitDefEqProofs [-aA, -gval, hx, hx8, hk, hiI, hw, hc, hcv, q, hh'.1]
    refine aD.tree (InP A c hAl) rfl ?_
    simp -implicitDefEqProofs [-aA, -gval, hx, hk, hw, hh'.1]
    simp [h1, h2, h3, h7]
   ·simp -implicitDefEqProofs [-aA, -gval, hx, hx8, hk, hiI, hw, hc, hcv, q, hh'.1]
    simp [h1, h2, h3, h7]
 ·rintro st' ⟨hx, hx8⟩ hk hh'
  simp [h1, h2, h3, h7] at hk hh'
  rw [hcl] at hx
  rw [aD8] at hx8
  rcases bb (b0 || (chars s).any (cS t a)) with z | z
  ·rw [z] at hx8 hR
   simp only [if_true] at hR
   subst hR
   simp -implicitDefEqProofs [-aA, -gval, hx, hx8, hk, aC]
  ·rw [z] at hx8 hR
   obtain ⟨w, ew⟩ : ∃ x, decide ((200 : Int) < (s.size : Int)) = x := ⟨_, rfl⟩
   have ew' : decide (200 < s.size) = w := by rw [← ew]; congr 1; simp; omega
   have e2 : (if 200 < s.size then (2 : Int) else 0) = if w then 2 else 0 := by rw [← ew']; simp
   rw [e2] at hR
   simp only [Bool.false_eq_true, if_false] at hR
   subst hR
   have wF : IntKind.i64.wrap (2 : Int) = 2 := by decide
   simp -implicitDefEqProofs [-aA, -gval, hx, hx8, hk, ew]
   refine aD.tree (P19 _) rfl ?_
   cases w
   ·simp -implicitDefEqProofs [-aA, -gval, aC, wE]
   ·simp -implicitDefEqProofs [-aA, -gval, aC, wF]
attribute [local simp] c117t4 c117t8 c117t13 c117t14 c117t16 c117b17 c117t18 c117t21 c117t23 c117t25 c117t26 c117t27 c117 in
theorem aV8 (t : Ty) (s : ByteArray) (a : Int) (hs : s.size ≤ 9223372036854775807) : PSp Tryz.prog 117 [.agg (tyC t), .one (.t (.str s)), .one (.t (I a))] (.one (.t (I (lK t s a)))) := by
 obtain ⟨b, eb⟩ : ∃ b, (s.toList == (bs []).toList) = b := ⟨_, rfl⟩
 have eb' : bF s (bs []) = b := eb
 obtain ⟨R, hR⟩ : ∃ R, lK t s a = R := ⟨_, rfl⟩
 rw [hR]
 rw [lK, eb'] at hR
 have rest : ∀ b0, (a == 6 && b) = b0 → ∀ st : St, st.tmps 1 = .one (.t (.str s)) → st.tmps 2 = .one (.t (I a)) → st.tmps 3 = .one (.ptr ⟨0, 0, 8, 0, 0⟩) → st.heap 0 = some (.arr 0 false 8 [tyC t]) → 0 < st.nx →
   st.tmps 7 = .one (.t (spans (alpha (if a == 6 then nN else t.name)))) → st.tmps 8 = .one (.t (.bool b0)) → aT Tryz.prog 62 (aC [.tmp 6] (.one (.t (I R)))) c117t24 [] st := fun b0 hb0 st g1 g2 g3 g4 g5 g6 g7 => by
  have := aOQ t s a b0 hs st g1 g2 g3 g4 g5 g6 g7
  rw [← hb0, hR] at this
  exact this
 refine k117.aG (by simp) (by simp [D.closed, A.closed]) rfl ?_
 simp -implicitDefEqProofs [-aA, -gval]
 refine aD.tree (P18 t.name) rfl ?_
 rcases eqCases a 6 with q | q
 ·have p18 := P18 nN
  simp only [nN] at p18
  simp -implicitDefEqProofs [-aA, -gval, q]
  refine aD.tree p18 rfl ?_
  simp -implicitDefEqProofs [-aA, -gval, eb]
  refine rest b (by rw [q]; rfl) _ ?_ ?_ ?_ ?_ ?_ ?_ ?_
  ·simp
  ·simp [q]
  ·simp
  ·simp [Hp.set]
  ·simp
  ·simp [q, nN]
  ·simp
 ·simp -implicitDefEqProofs [-aA, -gval, q, eb]
  refine rest false (by rw [q.1]; rfl) _ ?_ ?_ ?_ ?_ ?_ ?_ ?_
  ·simp
  ·simp
  ·simp
  ·simp [Hp.set]
  ·simp
  ·simp [q]
  ·simp
end Go.Proofs.YtdpbobkcbakpfaaGreatDoor

namespace Go.Proofs.YtdpbobkcbakpfaaGreatDoor
open Go Go.Ab
set_option maxRecDepth 100000
set_option maxHeartbeats 4000000
attribute [local simp] bL aM aS aK aY aO bI tyC fdC vlC ndC aP D.dQ D.pt
theorem Vl.aMM (v : Vl) : v.slim = (decide (v.s.size ≤ 500) && decide (v.names.length ≤ 60) && decide (v.items.length ≤ 60) && v.names.all (fun x => decide (x.size ≤ 60)) && v.items.all Vl.slim) := by
 cases v; rw [Vl.slim, yC]; rfl
attribute [local simp] c70t3 c70t6 c70t9 c70t11 c70b12 c70t13 c70t16 c70t19 c70t21 c70b22 c70t23 c70t25 c70t26 c70t27 c70 in
theorem aOR (v : Vl) (hl : short v.items) (IH : ∀ x ∈ v.items, PSp Tryz.prog 70 [.agg (vlC x)] (.one (.t (.bool x.slim)))) (st : St) (h1 : VB v 1 st) (_hnx : 0 < st.nx) : aT Tryz.prog 49 (aC [.tmp 2] (.one (.t (.bool (!v.items.any fun x => !x.slim))))) c70t25 [] st := by
 obtain ⟨h1, h2⟩ := h1
 obtain ⟨o1, o2, o3, o4⟩ := aF h2
 obtain ⟨R, hR⟩ : ∃ R, (!v.items.any fun x => !x.slim) = R := ⟨_, rfl⟩
 rw [hR]
 simp -implicitDefEqProofs [-aA, -gval]
 refine bB v.items (fun x => !x.slim) [1] [0] (fun i st => st.tmps 4 = .one (.t (I i))) hl ⟨by simp, by simp, by simp []⟩ ?_ ?_
 ·intro i x st' hi hiI hw hg hy hany hx hk hh
  simp [h1] at hk hh
  obtain ⟨o1, o2, o3, o4⟩ := aF (hh.1.trans h2)
  simp -implicitDefEqProofs [-aA, -gval, hx, hk, hi, hiI, o1, o2, o3, aE hg, Vl.aJ, -List.getElem_map]
  refine aD.tree (IH x hy) rfl ?_
  rcases bb x.slim with c | c
  ·rw [c]
   simp -implicitDefEqProofs [-aA, -gval, hx, hk, hw, h1, hh.1]
  ·rw [hany (by simp [c])] at hR
   subst hR
   rw [c]
   simp -implicitDefEqProofs [-aA, -gval, aC]
 ·intro st' hany hx hk hh
  simp [h1] at hk hh
  obtain ⟨o1, o2, o3, o4⟩ := aF (hh.1.trans h2)
  rw [hany] at hR
  subst hR
  simp -implicitDefEqProofs [-aA, -gval, hx, hk, o1, o2, o3, aC]
attribute [local simp] c70t3 c70t6 c70t9 c70t11 c70b12 c70t13 c70t16 c70t19 c70t21 c70b22 c70t23 c70t26 c70t27 c70 in
theorem aOS (v : Vl) (hv : v.fine) (IH : ∀ x ∈ v.items, PSp Tryz.prog 70 [.agg (vlC x)] (.one (.t (.bool x.slim)))) (st : St) (h1 : VB v 1 st) (_hnx : 0 < st.nx) : aT Tryz.prog 49 (aC [.tmp 2] (.one (.t (.bool (!(v.names.any fun x => decide (60 < x.size)) && !v.items.any fun x => !x.slim))))) c70t26 [] st := by
 have hv' := (Vl.aX v).1 hv
 have rest := aOR v hv'.2.2.2.1 IH
 generalize (!v.items.any fun x => !x.slim) = Q at *
 obtain ⟨h1, h2⟩ := h1
 obtain ⟨o1, o2, o3, o4⟩ := aF h2
 obtain ⟨R, hR⟩ : ∃ R, (!(v.names.any fun x => decide (60 < x.size)) && Q) = R := ⟨_, rfl⟩
 rw [hR]
 simp -implicitDefEqProofs [-aA, -gval]
 refine bB v.names (fun x => decide (60 < x.size)) [1] [0] (fun i st => st.tmps 3 = .one (.t (I i))) hv'.2.1 ⟨by simp, by simp, by simp []⟩ ?_ ?_
 ·intro i x st' hi hiI hw hg hy hany hx hk hh
  simp [h1] at hk hh
  obtain ⟨o1, o2, o3, o4⟩ := aF (hh.1.trans h2)
  obtain ⟨c, ec⟩ : ∃ c, decide (60 < x.size) = c := ⟨_, rfl⟩
  have ec' : decide ((60 : Int) < (x.size : Int)) = c := by rw [← ec]; congr 1; simp; omega
  rw [ec] at hany ⊢
  cases c
  ·simp -implicitDefEqProofs [-aA, -gval, hx, hk, hi, hiI, hw, o1, o2, o3, aE hg, -List.getElem_map, ec', h1, hh.1]
  ·rw [hany rfl] at hR
   subst hR
   simp -implicitDefEqProofs [-aA, -gval, hx, hk, hi, hiI, o1, o2, o3, aE hg, -List.getElem_map, ec', aC]
 ·intro st' hany hx hk hh
  simp [h1] at hk hh
  obtain ⟨o1, o2, o3, o4⟩ := aF (hh.1.trans h2)
  rw [hany] at hR
  simp at hR
  subst hR
  simp -implicitDefEqProofs [-aA, -gval, hx, hk, o1, o2, o3]
  exact rest _ ⟨by simp [hk], by simp [hh, h2]⟩ (by simp <;> omega)
attribute [local simp] c70t3 c70t6 c70t9 c70t11 c70b12 c70t13 c70t16 c70t19 c70t21 c70b22 c70t23 c70t25 c70t27 c70 in
theorem aOT (v : Vl) (hv : v.fine) (IH : ∀ x ∈ v.items, PSp Tryz.prog 70 [.agg (vlC x)] (.one (.t (.bool x.slim)))) : PSp Tryz.prog 70 [.agg (vlC v)] (.one (.t (.bool v.slim))) := by
 have rest := aOS v hv IH
 obtain ⟨a, ea⟩ : ∃ x, decide ((500 : Int) < (v.s.size : Int)) = x := ⟨_, rfl⟩
 obtain ⟨b, eb⟩ : ∃ x, decide ((60 : Int) < (v.names.length : Int)) = x := ⟨_, rfl⟩
 obtain ⟨c, ec⟩ : ∃ x, decide ((60 : Int) < (v.items.length : Int)) = x := ⟨_, rfl⟩
 have e0 : v.slim = (!a && !b && !c && (!(v.names.any fun x => decide (60 < x.size)) && !v.items.any fun x => !x.slim)) := by
  have e1 : v.names.all (fun x => decide (x.size ≤ 60)) = !(v.names.any fun x => decide (60 < x.size)) := by
   rw [List.not_any_eq_all_not]; congr 1; funext x; rw [Bool.eq_iff_iff]; simp
  have e2 : v.items.all Vl.slim = !v.items.any fun x => !x.slim := by
   rw [List.not_any_eq_all_not]; congr 1; funext x; simp
  have e3 : decide (v.s.size ≤ 500) = !a := by rw [← ea, Bool.eq_iff_iff]; simp; omega
  have e4 : decide (v.names.length ≤ 60) = !b := by rw [← eb, Bool.eq_iff_iff]; simp; omega
  have e5 : decide (v.items.length ≤ 60) = !c := by rw [← ec, Bool.eq_iff_iff]; simp; omega
  rw [Vl.aMM, e1, e2, e3, e4, e5]
  simp only [Bool.and_assoc]
 rw [e0]
 generalize (!(v.names.any fun x => decide (60 < x.size)) && !v.items.any fun x => !x.slim) = Q at *
 refine k70.aG (by simp) (by simp [D.closed, A.closed]) rfl ?_
 cases a <;> cases b <;> cases c
 all_goals simp -implicitDefEqProofs [-aA, -gval, ea, eb, ec, aC]
 all_goals exact rest _ ⟨by simp, by simp [Hp.set]⟩ (by simp)
theorem P70 : ∀ v : Vl, v.fine → PSp Tryz.prog 70 [.agg (vlC v)] (.one (.t (.bool v.slim))) :=
 Vl.ind fun v IH hv => aOT v hv fun x hx => IH x hx (((Vl.aX v).1 hv).2.2.2.2 x hx)
attribute [local simp] c69t4 c69b7 c69t8 c69t10 c69t11 c69 in
theorem P69 (l : List Vl) (m lv : Int) (hv : ∀ x ∈ l, x.fine) (hl : short l) : PSp Tryz.prog 69 [.one (.t (aY l)), .one (.t (I m)), .one (.t (I lv))] (.one (.t (.bool (!(eY lv l (m, false)).2)))) := by
 refine k69.aG (by simp) rfl rfl ?_
 obtain ⟨R, hR⟩ : ∃ R, eY lv l (m, false) = R := ⟨_, rfl⟩
 rw [hR]
 simp -implicitDefEqProofs [-aA, -gval, -Prod.exists, -Bool.exists_bool]
 refine dP l (fun _ r s => eY lv r s) R (m, false) [0, 2, 7] [] (fun i s st => st.tmps 8 = .one (.t (I i)) ∧ st.heap 3 = some (aAM s) ∧ 3 < st.nx) hl hR ⟨by simp [Hp.set, aAM], by simp, by simp⟩ ?_ ?_
 ·rintro i y ⟨s1, s2⟩ st hi hiI hw hg hy hR ⟨h8, ho, hnx⟩ hk hh
  simp at hk
  obtain ⟨o1, o2, o3, o4⟩ := aF ho
  have k105 := qO y (hv y hy)
  rw [aAR] at k105
  cases s2
  ·rw [eY, if_neg (by simp)] at hR
   simp -implicitDefEqProofs [-aA, -gval, h8, hk, hi, hiI, o1, o2, o3, aE hg, Vl.aJ, -List.getElem_map, -Prod.exists, -Bool.exists_bool]
   refine aD.imp (ISp.ok fun ho' => k105 _ _ _ lv (s1, false) ho' (by simpa using ho)) ?_
   simp -implicitDefEqProofs [-aA, -gval, h8, hk, hw, cQ, -Prod.exists, -Bool.exists_bool]
   refine ⟨y.sz lv (s1, false), hR, ?_⟩
   simp [Hp.set, aAM]
  ·rw [nJ rfl] at hR
   subst hR
   simp -implicitDefEqProofs [-aA, -gval, h8, hk, hiI, o1, o2, o3, aC, -Prod.exists, -Bool.exists_bool]
 ·rintro ⟨s1, s2⟩ st hR ⟨h8, ho, hnx⟩ hk hh
  simp at hk
  obtain ⟨o1, o2, o3, o4⟩ := aF ho
  rw [eY] at hR
  subst hR
  simp -implicitDefEqProofs [-aA, -gval, h8, hk, o1, o2, o3, aC, -Prod.exists, -Bool.exists_bool]
attribute [local simp] c21 in
theorem P21 (v : Vl) (hv : v.fine) : PSp Tryz.prog 21 [.agg (vlC v)] (.one (.t (.bool v.few))) := by
 refine k21.aG (by simp) (by simp [D.closed, A.closed]) rfl ?_
 have p69 := P69 [v] 400 12 (fun x hx => by simp at hx; rw [hx]; exact hv) (by simp [short])
 have p70 := P70 v hv
 rw [Vl.few]
 generalize (eY 12 [v] (400, false)).2 = q at *
 simp -implicitDefEqProofs [-aA, -gval]
 refine aD.pure p69 (by simp) (by simp [Vl.aJ]) ?_
 cases q
 ·simp -implicitDefEqProofs [-aA, -gval]
  refine aD.tree p70 rfl ?_
  simp -implicitDefEqProofs [-aA, -gval, aC]
 ·simp -implicitDefEqProofs [-aA, -gval, aC]
end Go.Proofs.YtdpbobkcbakpfaaGreatDoor

namespace Go.Proofs.YtdpbobkcbakpfaaGreatDoor
open Go Go.Ab
set_option maxRecDepth 100000
set_option maxHeartbeats 4000000
attribute [local simp] bL aM aS aK aY aO bI tyC fdC vlC ndC aP D.dQ D.pt
attribute [local simp] c58t3 c58t6 c58t9 c58t11 c58b12 c58t13 c58t16 c58t20 c58t23 c58t26 c58t28 c58b29 c58t30 c58t31 c58t32 c58t34 c58b35 c58t36 c58t39 c58t42 c58t44 c58b45 c58t46 c58t48 c58t49 c58t50 c58t51 c58 in
theorem aRO (t : Ty) (hl : short t.of) (IH : ∀ x ∈ t.of, PSp Tryz.prog 58 [.agg (tyC x)] (.one (.t (.bool x.narrow)))) (st : St) (h1 : TB t 1 st) (_hnx : 0 < st.nx) : aT Tryz.prog 117 (aC [.tmp 2] (.one (.t (.bool (!t.of.any fun x => !x.narrow))))) c58t48 [] st := by
 obtain ⟨h1, h2⟩ := h1
 obtain ⟨o1, o2, o3, o4⟩ := aF h2
 obtain ⟨R, hR⟩ : ∃ R, (!t.of.any fun x => !x.narrow) = R := ⟨_, rfl⟩
 rw [hR]
 simp -implicitDefEqProofs [-aA, -gval]
 refine bB t.of (fun x => !x.narrow) [1] [0] (fun i st => st.tmps 7 = .one (.t (I i))) hl ⟨by simp, by simp, by simp []⟩ ?_ ?_
 ·intro i x st' hi hiI hw hg hy hany hx hk hh
  simp [h1] at hk hh
  obtain ⟨o1, o2, o3, o4⟩ := aF (hh.1.trans h2)
  simp -implicitDefEqProofs [-aA, -gval, hx, hk, hi, hiI, o1, o2, o3, aE hg, Ty.aJ, -List.getElem_map]
  refine aD.tree (IH x hy) rfl ?_
  rcases bb x.narrow with c | c
  ·rw [c]
   simp -implicitDefEqProofs [-aA, -gval, hx, hk, hw, h1, hh.1]
  ·rw [hany (by simp [c])] at hR
   subst hR
   rw [c]
   simp -implicitDefEqProofs [-aA, -gval, aC]
 ·intro st' hany hx hk hh
  simp [h1] at hk hh
  obtain ⟨o1, o2, o3, o4⟩ := aF (hh.1.trans h2)
  rw [hany] at hR
  subst hR
  simp -implicitDefEqProofs [-aA, -gval, hx, hk, o1, o2, o3, aC]
attribute [local simp] c58t3 c58t6 c58t9 c58t11 c58b12 c58t13 c58t16 c58t20 c58t23 c58t26 c58t28 c58b29 c58t30 c58t31 c58t32 c58t34 c58b35 c58t36 c58t39 c58t42 c58t44 c58b45 c58t46 c58t49 c58t50 c58t51 c58 in
theorem aRP (f : Fd) (hfi : f.fine) (A : Exit → St → Prop) (ks : List KF) (id : Nat) (st : St) (h5 : st.tmps 5 = .one (.ptr ⟨id, 0, 13, 0, 0⟩)) (hid : st.heap id = some (.arr 0 false 13 [fdC f])) (_hlt : id < st.nx)
  (hok : f.dflt.any (fun x => !x.few) = false → ∀ st', cH [1, 4] st.tmps st'.tmps → st'.heap = st.heap → st.nx ≤ st'.nx → cO Tryz.prog 117 A ks .normal st')
  (hbad : f.dflt.any (fun x => !x.few) = true → ∀ st', st'.tmps 2 = .one (.t (.bool false)) → cO Tryz.prog 117 A ks .ret st') :
  aT Tryz.prog 117 A c58t31 ks st := by
 have hff := (Fd.aX f).1 hfi
 obtain ⟨o1, o2, o3, o4⟩ := aF hid
 simp -implicitDefEqProofs [-aA, -gval]
 refine bB f.dflt (fun x => !x.few) [1, 4, 5] [] (fun i st' => st'.tmps 6 = .one (.t (I i)) ∧ st'.heap = st.heap ∧ st.nx ≤ st'.nx) hff.2.2.1 ⟨by simp <;> omega, by simp [h5], by simp⟩ ?_ ?_
 ·rintro i x st' hi hiI hw hg hy hany ⟨hx, hhe, hn⟩ hk hh
  simp [h5] at hk
  rw [← hhe] at o1 o2 o3 o4
  simp -implicitDefEqProofs [-aA, -gval, hx, hk, hi, hiI, o1, o2, o3, aE hg, Vl.aJ, -List.getElem_map]
  refine aD.tree (P21 x (hff.2.2.2 x hy)) rfl ?_
  rcases bb x.few with c | c
  ·rw [c]
   simp -implicitDefEqProofs [-aA, -gval, hx, hk, hw, hhe]
   exact ⟨by omega, h5.symm⟩
  ·rw [c]
   simp -implicitDefEqProofs [-aA, -gval]
   exact hbad (hany (by simp [c])) _ (by simp)
 ·rintro st' hany ⟨hx, hhe, hn⟩ hk hh
  simp [h5] at hk
  rw [← hhe] at o1 o2 o3 o4
  simp -implicitDefEqProofs [-aA, -gval, hx, hk, o1, o2, o3]
  exact hok hany _ (by simp [hk]) (by simp [hhe]) (by simp <;> omega)
attribute [local simp] c58t3 c58t6 c58t9 c58t11 c58b12 c58t13 c58t16 c58t20 c58t23 c58t26 c58t28 c58b29 c58t30 c58t32 c58t34 c58b35 c58t36 c58t39 c58t42 c58t44 c58b45 c58t46 c58t49 c58t50 c58t51 c58 in
theorem aRQ (t : Ty) (ht : t.fine) (IHf : ∀ x ∈ t.fields, PSp Tryz.prog 58 [.agg (tyC x.ty)] (.one (.t (.bool x.ty.narrow)))) (IH : ∀ x ∈ t.of, PSp Tryz.prog 58 [.agg (tyC x)] (.one (.t (.bool x.narrow)))) (R : Bool) (hR : ((!t.fields.any fun x => !x.narrow) && (!t.of.any fun x => !x.narrow)) = R) (st : St) (h1 : TB t 1 st) (_hnx : 0 < st.nx) : aT Tryz.prog 117 (aC [.tmp 2] (.one (.t (.bool R)))) c58t49 [] st := by
 have hf := (Ty.aX t).1 ht
 obtain ⟨g1, g2, g3, g4, g5, g6, g7, g8⟩ := hf
 have rest := aRO t g5 IH
 generalize (!t.of.any fun x => !x.narrow) = Q at *
 obtain ⟨h1, h2⟩ := h1
 obtain ⟨o1, o2, o3, o4⟩ := aF h2
 simp -implicitDefEqProofs [-aA, -gval]
 refine bB t.fields (fun x => !x.narrow) [1] [0] (fun i st => st.tmps 4 = .one (.t (I i))) g3 ⟨by simp, by simp, by simp []⟩ ?_ ?_
 ·intro i f st' hi hiI hw hg hy hany hx hk hh
  simp [h1] at hk hh
  obtain ⟨o1, o2, o3, o4⟩ := aF (hh.1.trans h2)
  have hfi := g4 f hy
  have hne : ¬ 0 = st'.nx + 5 + 5 := by omega
  obtain ⟨a, ea⟩ : ∃ x, decide ((60 : Int) < (f.name.size : Int)) = x := ⟨_, rfl⟩
  obtain ⟨b, eb⟩ : ∃ x, decide ((3 : Int) < (f.dflt.length : Int)) = x := ⟨_, rfl⟩
  have e0 : f.narrow = (!a && !b && f.ty.narrow && !f.dflt.any fun x => !x.few) := by
   have e1 : f.dflt.all Vl.few = !f.dflt.any fun x => !x.few := by
    rw [List.not_any_eq_all_not]; congr 1; funext x; simp
   have e3 : decide (f.name.size ≤ 60) = !a := by rw [← ea, Bool.eq_iff_iff]; simp; omega
   have e4 : decide (f.dflt.length ≤ 3) = !b := by rw [← eb, Bool.eq_iff_iff]; simp; omega
   rw [← e1, ← e3, ← e4]
   cases f; rw [Fd.narrow]; rfl
  rw [e0] at hany ⊢
  have stop : (!(!a && !b && f.ty.narrow && !f.dflt.any fun x => !x.few)) = true → R = false := fun h => by
   rw [hany h] at hR
   exact hR.symm
  cases a
  ·cases b
   ·simp -implicitDefEqProofs [-aA, -gval, h1, hx, hk, hi, hiI, o1, o2, o3, aE hg, Fd.aJ, -List.getElem_map, ea, eb]
    refine aD.tree (IHf f hy) rfl ?_
    rcases bb f.ty.narrow with c | c
    ·rw [c]
     simp -implicitDefEqProofs [-aA, -gval]
     refine aRP f hfi _ _ (st'.nx + 5 + 5) _ (by simp) (by simp [Hp.set]) (by simp <;> omega) (fun hz st2 k1 k2 k3 => ?_) fun hz st2 k2 => ?_
     ·simp at k1
      simp -implicitDefEqProofs [-aA, -gval, k1, hk, hx, hw]
      refine ⟨by simpa [c] using hz, ?_⟩
      rw [k2]; simp only [Hp.set]; rw [if_neg hne]; exact hh.1
     ·rw [stop (by rw [hz]; simp)]
      simp -implicitDefEqProofs [-aA, -gval, aC, k2]
    ·rw [c, stop (by rw [c]; simp)]
     simp -implicitDefEqProofs [-aA, -gval, aC]
   ·rw [stop (by simp)]
    simp -implicitDefEqProofs [-aA, -gval, h1, hx, hk, hi, hiI, o1, o2, o3, aE hg, Fd.aJ, -List.getElem_map, ea, eb, aC]
  ·rw [stop (by simp)]
   simp -implicitDefEqProofs [-aA, -gval, h1, hx, hk, hi, hiI, o1, o2, o3, aE hg, Fd.aJ, -List.getElem_map, ea, aC]
 ·intro st' hany hx hk hh
  simp [h1] at hk hh
  obtain ⟨o1, o2, o3, o4⟩ := aF (hh.1.trans h2)
  rw [hany] at hR
  simp at hR
  subst hR
  simp -implicitDefEqProofs [-aA, -gval, hx, hk, o1, o2, o3]
  exact rest _ ⟨by simp [hk], by simp [hh, h2]⟩ (by simp <;> omega)
def Nd.big (x : Nd) : Bool := decide ((500 : Int) < (x.s.size : Int)) || decide ((5 : Int) < (x.args.length : Int))
attribute [local simp] c58t3 c58t6 c58t9 c58t11 c58b12 c58t13 c58t16 c58t20 c58t23 c58t26 c58t28 c58b29 c58t30 c58t31 c58t32 c58t34 c58b35 c58t36 c58t39 c58t42 c58t44 c58b45 c58t46 c58t48 c58t50 c58t51 c58 in
theorem aRR (t : Ty) (ht : t.fine) (IHf : ∀ x ∈ t.fields, PSp Tryz.prog 58 [.agg (tyC x.ty)] (.one (.t (.bool x.ty.narrow)))) (IH : ∀ x ∈ t.of, PSp Tryz.prog 58 [.agg (tyC x)] (.one (.t (.bool x.narrow)))) (R : Bool) (hR : ((!t.limits.any Nd.big) && ((!t.fields.any fun x => !x.narrow) && (!t.of.any fun x => !x.narrow))) = R) (st : St) (h1 : TB t 1 st) (_hnx : 0 < st.nx) : aT Tryz.prog 117 (aC [.tmp 2] (.one (.t (.bool R)))) c58t50 [] st := by
 have hf := (Ty.aX t).1 ht
 obtain ⟨g1, g2, g3, g4, g5, g6, g7, g8⟩ := hf
 have rest := aRQ t ht IHf IH _ rfl
 generalize ((!t.fields.any fun x => !x.narrow) && (!t.of.any fun x => !x.narrow)) = Q at *
 obtain ⟨h1, h2⟩ := h1
 obtain ⟨o1, o2, o3, o4⟩ := aF h2
 simp -implicitDefEqProofs [-aA, -gval]
 refine bB t.limits Nd.big [1] [0] (fun i st => st.tmps 3 = .one (.t (I i))) g7 ⟨by simp, by simp, by simp []⟩ ?_ ?_
 ·intro i x st' hi hiI hw hg hy hany hx hk hh
  simp [h1] at hk hh
  obtain ⟨o1, o2, o3, o4⟩ := aF (hh.1.trans h2)
  obtain ⟨a, ea⟩ : ∃ y, decide ((500 : Int) < (x.s.size : Int)) = y := ⟨_, rfl⟩
  obtain ⟨b, eb⟩ : ∃ y, decide ((5 : Int) < (x.args.length : Int)) = y := ⟨_, rfl⟩
  have e0 : x.big = (a || b) := by rw [← ea, ← eb]; rfl
  rw [e0] at hany ⊢
  cases a <;> cases b
  all_goals try
   rw [hany rfl] at hR
   simp only [Bool.not_true, Bool.false_and] at hR
   subst hR
  all_goals simp -implicitDefEqProofs [-aA, -gval, hx, hk, hi, hiI, hw, o1, o2, o3, aE hg, Nd.row, -List.getElem_map, ea, eb, h1, hh.1, aC]
 ·intro st' hany hx hk hh
  simp [h1] at hk hh
  obtain ⟨o1, o2, o3, o4⟩ := aF (hh.1.trans h2)
  rw [hany] at hR
  simp at hR
  subst hR
  simp -implicitDefEqProofs [-aA, -gval, hx, hk, o1, o2, o3]
  exact rest _ ⟨by simp [hk], by simp [hh, h2]⟩ (by simp <;> omega)
theorem Ty.aHT (t : Ty) (a b c d e : Bool) (ha : decide ((60 : Int) < (t.name.size : Int)) = a) (hb : decide ((8 : Int) < (t.tags.length : Int)) = b) (hc : decide ((40 : Int) < (t.fields.length : Int)) = c) (hd : decide ((4 : Int) < (t.of.length : Int)) = d) (he : decide ((40 : Int) < (t.limits.length : Int)) = e) :
  t.narrow = (!(a || b || c || d || e) && ((!t.limits.any Nd.big) && ((!t.fields.any fun x => !x.narrow) && (!t.of.any fun x => !x.narrow)))) := by
 subst ha hb hc hd he
 rw [Bool.eq_iff_iff, Ty.aR]
 simp only [Bool.and_eq_true, Bool.not_eq_true', Bool.or_eq_false_iff, decide_eq_false_iff_not, List.any_eq_false, Nd.big, Bool.or_eq_true, decide_eq_true_eq, not_or, Bool.not_eq_false]
 constructor
 ·rintro ⟨h1, h2, h3, h4, h5, h6, h7, h8⟩
  refine ⟨⟨⟨⟨⟨by omega, by omega⟩, by omega⟩, by omega⟩, by omega⟩, fun x hx => ?_, h7, h8⟩
  have := h6 x hx
  omega
 ·rintro ⟨⟨⟨⟨⟨h1, h2⟩, h3⟩, h4⟩, h5⟩, h6, h7, h8⟩
  refine ⟨by omega, by omega, by omega, by omega, by omega, fun x hx => ?_, h7, h8⟩
  have := h6 x hx
  omega
attribute [local simp] c58t3 c58t6 c58t9 c58t11 c58b12 c58t13 c58t16 c58t20 c58t23 c58t26 c58t28 c58b29 c58t30 c58t31 c58t32 c58t34 c58b35 c58t36 c58t39 c58t42 c58t44 c58b45 c58t46 c58t48 c58t49 c58t51 c58 in
theorem aOU (t : Ty) (ht : t.fine) (IHf : ∀ x ∈ t.fields, PSp Tryz.prog 58 [.agg (tyC x.ty)] (.one (.t (.bool x.ty.narrow)))) (IH : ∀ x ∈ t.of, PSp Tryz.prog 58 [.agg (tyC x)] (.one (.t (.bool x.narrow)))) : PSp Tryz.prog 58 [.agg (tyC t)] (.one (.t (.bool t.narrow))) := by
 have rest := aRR t ht IHf IH _ rfl
 obtain ⟨a, ea⟩ : ∃ x, decide ((60 : Int) < (t.name.size : Int)) = x := ⟨_, rfl⟩
 obtain ⟨b, eb⟩ : ∃ x, decide ((8 : Int) < (t.tags.length : Int)) = x := ⟨_, rfl⟩
 obtain ⟨c, ec⟩ : ∃ x, decide ((40 : Int) < (t.fields.length : Int)) = x := ⟨_, rfl⟩
 obtain ⟨d, ed⟩ : ∃ x, decide ((4 : Int) < (t.of.length : Int)) = x := ⟨_, rfl⟩
 obtain ⟨e, ee⟩ : ∃ x, decide ((40 : Int) < (t.limits.length : Int)) = x := ⟨_, rfl⟩
 rw [Ty.aHT t a b c d e ea eb ec ed ee]
 generalize ((!t.limits.any Nd.big) && ((!t.fields.any fun x => !x.narrow) && (!t.of.any fun x => !x.narrow))) = Q at *
 obtain ⟨u1, m1⟩ : ∃ y, (a || b) = y := ⟨_, rfl⟩
 obtain ⟨u2, m2⟩ : ∃ y, (u1 || c) = y := ⟨_, rfl⟩
 obtain ⟨u3, m3⟩ : ∃ y, (u2 || d) = y := ⟨_, rfl⟩
 obtain ⟨u4, m4⟩ : ∃ y, (u3 || e) = y := ⟨_, rfl⟩
 rw [m1, m2, m3, m4]
 refine k58.aG (by simp) (by simp [D.closed, A.closed]) rfl ?_
 simp -implicitDefEqProofs [-aA, -gval, ea, eb, ec, ed, ee, m1, m2, m3, m4, -Bool.not_or, -Bool.not_and]
 refine ⟨fun h => ?_, fun h => ?_⟩
 ·subst h; simp -implicitDefEqProofs [-aA, -gval, aC]
 ·subst h; simp -implicitDefEqProofs [-aA, -gval]
  exact rest _ ⟨by simp, by simp [Hp.set]⟩ (by simp)
theorem P58 : ∀ t : Ty, t.fine → PSp Tryz.prog 58 [.agg (tyC t)] (.one (.t (.bool t.narrow))) :=
 Ty.ind fun t IHf IH ht => by
  have h := (Ty.aX t).1 ht
  exact aOU t ht (fun x hx => IHf x hx ((Fd.aX x).1 (h.2.2.2.1 x hx)).2.1) fun x hx => IH x hx (h.2.2.2.2.2.1 x hx)
def Ty.tiny (t : Ty) : Bool := !(t.sz 12 (400, false)).2 && t.narrow
attribute [local simp] c13 in
theorem P13 (t : Ty) (ht : t.fine) : PSp Tryz.prog 13 [.agg (tyC t)] (.one (.t (.bool t.tiny))) := by
 have k57 := P57 t ht
 have p58 := P58 t ht
 refine k13.aG (by simp) (by simp [D.closed, A.closed]) rfl ?_
 rw [Ty.tiny]
 simp -implicitDefEqProofs [-aA, -gval]
 refine aD.imp (ISp.ok fun ho => k57 _ _ _ 12 (400, false) ho (by simp [tQ, aAM])) ?_
 obtain ⟨⟨s1, s2⟩, hs⟩ : ∃ s, t.sz 12 (400, false) = s := ⟨_, rfl⟩
 rw [hs]
 cases s2
 ·simp -implicitDefEqProofs [-aA, -gval, cQ, hs, aC]
  refine aD.tree p58 rfl ?_
  simp -implicitDefEqProofs [-aA, -gval]
 ·simp -implicitDefEqProofs [-aA, -gval, cQ, hs, aC]
end Go.Proofs.YtdpbobkcbakpfaaGreatDoor

namespace Go.Proofs.YtdpbobkcbakpfaaGreatDoor
open Go Go.Ab
set_option maxRecDepth 100000
set_option maxHeartbeats 4000000
attribute [local simp] bL aM aS aK aY aO bI tyC fdC vlC ndC aP D.dQ D.pt
theorem aFG {h : Hp} {id ver sz : Nat} {t : Bool} {rs : List (List T)} (hr : h.rows id = rs.map (·.map .t)) : (A.ref id ver 0 rs.length sz t).frz h aL = .rows sz rs := by
 simp [aL, A.frz, hr, List.take_of_length_le, Function.comp_def]
theorem aAY {h : Hp} {id ver sz : Nat} {t : Bool} {rs : List (List T)} (ha : alive h id ver) (hz : h.sz id = sz) (hr : h.rows id = rs.map (·.map .t)) : (A.ref id ver 0 rs.length sz t).bT h aL := by
 refine ⟨ha, hz, by simp [hr], fun r hr' x hx => ?_⟩
 rw [hr] at hr'
 have := List.mem_of_mem_drop (List.mem_of_mem_take hr')
 obtain ⟨y, _, rfl⟩ := List.mem_map.1 this
 obtain ⟨z, _, rfl⟩ := List.mem_map.1 hx
 simp
theorem mH {h : Hp} {id ver sz n : Nat} {rs : List (List T)} (e : h id = some (.arr ver false sz (rs.map (·.map .t)))) (hn : n = rs.length) : (A.ref id ver 0 n sz false).bT h aL ∧ (A.ref id ver 0 n sz false).frz h aL = .rows sz rs := by
 subst hn
 obtain ⟨o1, o2, o3, o4⟩ := aF e
 exact ⟨aAY o1 o3 o2, aFG o2⟩
attribute [local simp] c111 in
theorem aV9 (l : List Int) (hl : l.length ≤ 1000000) : PSp Tryz.prog 111 [.one (.t (bI l))] (.one (.t (bI l))) := by
 refine k111.aG (by simp) rfl (by simp [D.closed, A.closed]) ?_
 rcases l with - | ⟨a, r⟩
 ·simp -implicitDefEqProofs [-aA, -gval, aC]
 ·simp -implicitDefEqProofs [-aA, -gval, aC]
  exact ⟨by simp at hl; omega, mH (rs := (a :: r).map fun a => [I a]) (by simp [Hp.set, Function.comp_def]) (by simp)⟩
attribute [local simp] c73 in
theorem P73 (l : List ByteArray) (hl : l.length ≤ 1000000) : PSp Tryz.prog 73 [.one (.t (aO l))] (.one (.t (aO l))) := by
 refine k73.aG (by simp) rfl (by simp [D.closed, A.closed]) ?_
 rcases l with - | ⟨a, r⟩
 ·simp -implicitDefEqProofs [-aA, -gval, aC]
 ·simp -implicitDefEqProofs [-aA, -gval, aC]
  exact ⟨by simp at hl; omega, mH (rs := (a :: r).map fun s => [T.str s]) (by simp [Hp.set, Function.comp_def]) (by simp)⟩
def GS (sz k : Nat) (rs : List (List T)) (tm : Nat → D) (h : Hp) (nx : Nat) : Prop := (rs = [] ∧ tm k = .one (.tt sz [])) ∨ (rs ≠ [] ∧ ∃ id ver, tm k = .one (.ref id ver 0 rs.length sz false) ∧ h id = some (.arr ver false sz (rs.map (·.map .t))) ∧ id < nx)
attribute [local simp] c64b6 c64 in
theorem P64 (l : List Vl) (hl : l.length ≤ 1000000) (IH : ∀ x ∈ l, PSp Tryz.prog 23 [.agg (vlC x)] (.agg (vlC x))) : PSp Tryz.prog 64 [.one (.t (aY l))] (.one (.t (aY l))) := by
 refine k64.aG (by simp) rfl (by simp [D.closed, A.closed]) ?_
 simp -implicitDefEqProofs [-aA, -gval]
 refine bB l (fun _ => false) [0] [] (fun i st => st.tmps 4 = .one (.t (I i)) ∧ GS 6 3 ((l.take i).map Vl.row) st.tmps st.heap st.nx) (by simp [short]; omega) ⟨by simp [GS], by simp, by simp⟩ ?_ ?_
 ·rintro i x st hi hiI hw hg hy hany ⟨h4, hgs⟩ hk hh
  simp at hk
  have htk : l.take (i + 1) = l.take i ++ [x] := by rw [List.take_add_one, hg]; rfl
  have hlen : ((l.take i).map Vl.row).length = i := by simp; omega
  have e : List.take (i + 1) (List.map Vl.row l) = (l.take i).map Vl.row ++ [x.row] := by rw [← List.map_take, htk]; simp
  rcases hgs with ⟨g1, g2⟩ | ⟨g1, id, ver, g2, g3, g4⟩
  ·simp -implicitDefEqProofs [-aA, -gval, h4, hk, hi, hiI, aE hg, Vl.aJ, -List.getElem_map]
   refine aD.tree (IH x hy) rfl ?_
   simp -implicitDefEqProofs [-aA, -gval, h4, hk, g2, hw]
   rw [e, g1]
   refine .inr ⟨by simp, st.nx + 4 + 7, 0, ?_, ?_, ?_⟩
   ·simp
   ·simp [Hp.set, Vl.aJ]
   ·omega
  ·obtain ⟨p1, p2, p3, p4⟩ := aF g3
   simp -implicitDefEqProofs [-aA, -gval, h4, hk, hi, hiI, aE hg, Vl.aJ, -List.getElem_map]
   refine aD.tree (IH x hy) rfl ?_
   simp -implicitDefEqProofs [-aA, -gval, h4, hk, g2, hw, p1, p2, p3, p4]
   refine ⟨by omega, ?_⟩
   rw [e]
   refine .inr ⟨by simp, id, ver + 1, ?_, ?_, ?_⟩
   ·simp
   ·simp [Hp.set, Vl.aJ]
   ·omega
 ·rintro st hany ⟨h4, hgs⟩ hk hh
  simp at hk
  rw [List.take_length] at hgs
  rcases hgs with ⟨g1, g2⟩ | ⟨g1, id, ver, g2, g3, g4⟩
  ·have hl0 : l = [] := by simpa using g1
   subst hl0
   simp -implicitDefEqProofs [-aA, -gval, h4, hk, g2, aC]
  ·simp -implicitDefEqProofs [-aA, -gval, h4, hk, g2, aC]
   obtain ⟨p1, p2, p3, p4⟩ := aF g3
   exact mH g3 (by simp)
attribute [local simp] c23 in
theorem aOV (v : Vl) (h1 : v.names.length ≤ 1000000) (h2 : v.items.length ≤ 1000000) (IH : ∀ x ∈ v.items, PSp Tryz.prog 23 [.agg (vlC x)] (.agg (vlC x))) : PSp Tryz.prog 23 [.agg (vlC v)] (.agg (vlC v)) := by
 have p73 := P73 v.names h1
 have p64 := P64 v.items h2 IH
 refine k23.aG (by simp) (by simp [D.closed, A.closed]) (by simp [D.closed, A.closed]) ?_
 simp -implicitDefEqProofs [-aA, -gval]
 refine aD.bO p73 rfl ?_
 simp -implicitDefEqProofs [-aA, -gval]
 refine aD.bO p64 rfl ?_
 simp -implicitDefEqProofs [-aA, -gval, aC]
theorem P23 : ∀ v : Vl, v.slim = true → PSp Tryz.prog 23 [.agg (vlC v)] (.agg (vlC v)) :=
 Vl.ind fun v IH hv => by
  obtain ⟨h1, h2, h3, h4, h5⟩ := (Vl.aCV v).1 hv
  exact aOV v (by omega) (by omega) fun x hx => IH x hx (h5 x hx)
theorem Nd.aJ (x : Nd) : x.row = [I x.k, I x.lo, I x.hi, .str x.s, .rows 1 (x.args.map fun a => [I a])] := rfl
attribute [local simp] c66b8 c66 in
theorem P66 (l : List Nd) (hl : l.length ≤ 1000000) (ha : ∀ x ∈ l, x.args.length ≤ 1000000) : PSp Tryz.prog 66 [.one (.t (aK l))] (.one (.t (aK l))) := by
 refine k66.aG (by simp) rfl (by simp [D.closed, A.closed]) ?_
 simp -implicitDefEqProofs [-aA, -gval]
 refine bB l (fun _ => false) [0] [] (fun i st => st.tmps 4 = .one (.t (I i)) ∧ GS 5 3 ((l.take i).map Nd.row) st.tmps st.heap st.nx) (by simp [short]; omega) ⟨by simp [GS], by simp, by simp⟩ ?_ ?_
 ·rintro i x st hi hiI hw hg hy hany ⟨h4, hgs⟩ hk hh
  simp at hk
  have htk : l.take (i + 1) = l.take i ++ [x] := by rw [List.take_add_one, hg]; rfl
  have hlen : ((l.take i).map Nd.row).length = i := by simp; omega
  have e : List.take (i + 1) (List.map Nd.row l) = (l.take i).map Nd.row ++ [x.row] := by rw [← List.map_take, htk]; simp
  have aRS := aV9 x.args (ha x hy)
  rcases hgs with ⟨g1, g2⟩ | ⟨g1, id, ver, g2, g3, g4⟩
  ·simp -implicitDefEqProofs [-aA, -gval, h4, hk, hi, hiI, aE hg, Nd.aJ, -List.getElem_map]
   refine aD.tree aRS rfl ?_
   simp -implicitDefEqProofs [-aA, -gval, h4, hk, g2, hw]
   rw [e, g1]
   refine .inr ⟨by simp, _, _, rfl, ?_, ?_⟩
   ·simp [Hp.set, Nd.aJ]
   ·omega
  ·obtain ⟨p1, p2, p3, p4⟩ := aF g3
   have hne : ¬ id = st.nx + 4 + 4 := by omega
   simp -implicitDefEqProofs [-aA, -gval, h4, hk, hi, hiI, aE hg, Nd.aJ, -List.getElem_map]
   refine aD.tree aRS rfl ?_
   simp -implicitDefEqProofs [-aA, -gval, h4, hk, g2, hw, p1, p2, p3, p4, hne]
   refine ⟨by omega, ?_⟩
   rw [e]
   refine .inr ⟨by simp, id, ver + 1, ?_, ?_, ?_⟩
   ·simp
   ·simp [Hp.set, Nd.aJ]
   ·omega
 ·rintro st hany ⟨h4, hgs⟩ hk hh
  simp at hk
  rw [List.take_length] at hgs
  rcases hgs with ⟨g1, g2⟩ | ⟨g1, id, ver, g2, g3, g4⟩
  ·have hl0 : l = [] := by simpa using g1
   subst hl0
   simp -implicitDefEqProofs [-aA, -gval, h4, hk, g2, aC]
  ·simp -implicitDefEqProofs [-aA, -gval, h4, hk, g2, aC]
   exact mH g3 (by simp)
attribute [local simp] c65b6 c65 in
theorem P65 (l : List Ty) (hl : l.length ≤ 1000000) (IH : ∀ x ∈ l, PSp Tryz.prog 15 [.agg (tyC x)] (.agg (tyC x))) : PSp Tryz.prog 65 [.one (.t (aS l))] (.one (.t (aS l))) := by
 refine k65.aG (by simp) rfl (by simp [D.closed, A.closed]) ?_
 simp -implicitDefEqProofs [-aA, -gval]
 refine bB l (fun _ => false) [0] [] (fun i st => st.tmps 4 = .one (.t (I i)) ∧ GS 8 3 ((l.take i).map Ty.row) st.tmps st.heap st.nx) (by simp [short]; omega) ⟨by simp [GS], by simp, by simp⟩ ?_ ?_
 ·rintro i x st hi hiI hw hg hy hany ⟨h4, hgs⟩ hk hh
  simp at hk
  have htk : l.take (i + 1) = l.take i ++ [x] := by rw [List.take_add_one, hg]; rfl
  have hlen : ((l.take i).map Ty.row).length = i := by simp; omega
  have e : List.take (i + 1) (List.map Ty.row l) = (l.take i).map Ty.row ++ [x.row] := by rw [← List.map_take, htk]; simp
  rcases hgs with ⟨g1, g2⟩ | ⟨g1, id, ver, g2, g3, g4⟩
  ·simp -implicitDefEqProofs [-aA, -gval, h4, hk, hi, hiI, aE hg, Ty.aJ, -List.getElem_map]
   refine aD.tree (IH x hy) rfl ?_
   simp -implicitDefEqProofs [-aA, -gval, h4, hk, g2, hw]
   rw [e, g1]
   refine .inr ⟨by simp, _, _, rfl, ?_, ?_⟩
   ·simp [Hp.set, Ty.aJ]
   ·omega
  ·obtain ⟨p1, p2, p3, p4⟩ := aF g3
   simp -implicitDefEqProofs [-aA, -gval, h4, hk, hi, hiI, aE hg, Ty.aJ, -List.getElem_map]
   refine aD.tree (IH x hy) rfl ?_
   simp -implicitDefEqProofs [-aA, -gval, h4, hk, g2, hw, p1, p2, p3, p4]
   refine ⟨by omega, ?_⟩
   rw [e]
   refine .inr ⟨by simp, id, ver + 1, ?_, ?_, ?_⟩
   ·simp
   ·simp [Hp.set, Ty.aJ]
   ·omega
 ·rintro st hany ⟨h4, hgs⟩ hk hh
  simp at hk
  rw [List.take_length] at hgs
  rcases hgs with ⟨g1, g2⟩ | ⟨g1, id, ver, g2, g3, g4⟩
  ·have hl0 : l = [] := by simpa using g1
   subst hl0
   simp -implicitDefEqProofs [-aA, -gval, h4, hk, g2, aC]
  ·simp -implicitDefEqProofs [-aA, -gval, h4, hk, g2, aC]
   exact mH g3 (by simp)
end Go.Proofs.YtdpbobkcbakpfaaGreatDoor

namespace Go.Proofs.YtdpbobkcbakpfaaGreatDoor
open Go Go.Ab
set_option maxRecDepth 100000
set_option maxHeartbeats 4000000
attribute [local simp] bL aM aS aK aY aO bI tyC fdC vlC ndC aP D.dQ D.pt
def CS (sz : Nat) (a : A) (rs : List (List T)) (h : Hp) (nx : Nat) : Prop := (rs = [] ∧ a = .tt sz []) ∨ (rs ≠ [] ∧ ∃ id ver, a = .ref id ver 0 rs.length sz false ∧ h id = some (.arr ver false sz (rs.map (·.map .t))) ∧ id < nx ∧ 5 < id)
def jK : A → Nat
 | .ref id _ _ _ _ _ => id
 | _ => 0
structure OS (t : Ty) (tA fA : A) (done : List (List T)) (h : Hp) (nx : Nat) : Prop where
 src : h 0 = some (.arr 0 false 8 [tyC t])
 res : h 1 = some (.arr 0 false 8 [[.t (I 0), .t (.str (bs [])), .tt 3 [], .tt 13 [], .t (.bool false), .t (I 0), .tt 8 [], .tt 5 []]])
 cop : h 3 = some (.arr 0 false 8 [[.t (I t.kind), .t (.str t.name), tA, fA, .t (.bool t.opn), .t (I t.root), .t (aS t.of), .t (aK t.limits)]])
 tag : CS 3 tA (t.tags.map Tg.row) h nx
 fld : CS 13 fA done h nx
 dif : jK tA = jK fA → jK tA = 0
 lt : 5 < nx
theorem CS.keep {sz : Nat} {a : A} {rs : List (List T)} {h h' : Hp} {nx nx' : Nat} (hc : CS sz a rs h nx) (hh : jK a ≠ 0 → h' (jK a) = h (jK a)) (hn : nx ≤ nx') : CS sz a rs h' nx' := by
 rcases hc with ⟨g1, g2⟩ | ⟨g1, id, ver, g2, g3, g4, g5⟩
 ·exact .inl ⟨g1, g2⟩
 ·subst g2
  exact .inr ⟨g1, id, ver, rfl, by rw [← g3]; exact hh (by simp [jK]; omega), by omega, g5⟩
theorem CS.ref {sz : Nat} {a : A} {rs : List (List T)} {h : Hp} {nx : Nat} (hc : CS sz a rs h nx) : jK a = 0 ∨ 5 < jK a ∧ jK a < nx := by
 rcases hc with ⟨g1, g2⟩ | ⟨g1, id, ver, g2, g3, g4, g5⟩
 ·left; rw [g2]; rfl
 ·right; rw [g2]; exact ⟨g5, g4⟩
theorem CS.frz {sz : Nat} {a : A} {rs : List (List T)} {h : Hp} {nx : Nat} (hc : CS sz a rs h nx) : a.bT h aL ∧ a.frz h aL = .rows sz rs := by
 rcases hc with ⟨g1, g2⟩ | ⟨g1, id, ver, g2, g3, g4, g5⟩
 ·subst g1 g2
  simp [aL]
 ·subst g2
  exact mH g3 rfl
attribute [local simp] c15t6 c15b11 c15t12 c15t16 c15t17 c15t18 c15t19 c15 in
theorem aRT (t : Ty) (hn : t.narrow = true) (IHf : ∀ f ∈ t.fields, PSp Tryz.prog 15 [.agg (tyC f.ty)] (.agg (tyC f.ty))) (p65 : PSp Tryz.prog 65 [.one (.t (aS t.of))] (.one (.t (aS t.of)))) (p66 : PSp Tryz.prog 66 [.one (.t (aK t.limits))] (.one (.t (aK t.limits))))
  (p64 : ∀ f ∈ t.fields, PSp Tryz.prog 64 [.one (.t (aY f.dflt))] (.one (.t (aY f.dflt)))) (tA fA : A) (st : St) (h1 : st.tmps 1 = .one (.ptr ⟨0, 0, 8, 0, 0⟩)) (h2 : st.tmps 2 = .one (.ptr ⟨1, 0, 8, 0, 0⟩)) (h3 : st.tmps 3 = .one (.ptr ⟨3, 0, 8, 0, 0⟩)) (hs : OS t tA fA [] st.heap st.nx) :
  aT Tryz.prog 48 (aC [.cell 2 8 true] (.agg (tyC t))) c15t16 [] st := by
 have hnr := (Ty.aR t).1 hn
 have hle := hnr.2.2.1
 simp -implicitDefEqProofs [-aA, -gval]
 refine bB t.fields (fun _ => false) [1, 2, 3] [] (fun i st => st.tmps 4 = .one (.t (I i)) ∧ ∃ tA fA, OS t tA fA ((t.fields.take i).map Fd.row) st.heap st.nx) (by simp [short]; omega) ⟨⟨by simp, tA, fA, ?_⟩, by simp, by simp⟩ ?_ ?_
 ·have lt := hs.lt
  exact ⟨hs.src, hs.res, hs.cop, hs.tag.keep (fun _ => rfl) (by simp), hs.fld.keep (fun _ => rfl) (by simp), hs.dif, by simp; omega⟩
 ·rintro i f st hi hiI hw hg hy hany ⟨h4, tA, fA, hs⟩ hk hh
  simp [h1, h2, h3] at hk
  obtain ⟨o1, o2, o3, o4⟩ := aF hs.src
  obtain ⟨p1, p2, p3, p4⟩ := aF hs.cop
  have hne0 : ¬ 0 = st.nx + 5 + 5 := by omega
  have hne3 : ¬ 3 = st.nx + 5 + 5 := by have := hs.lt; omega
  simp -implicitDefEqProofs [-aA, -gval, h4, hk, hi, hiI, o1, o2, o3, aE hg, Fd.aJ, -List.getElem_map]
  refine aD.bO (IHf f hy) rfl ?_
  simp -implicitDefEqProofs [-aA, -gval]
  refine aD.bO (p64 f hy) rfl ?_
  have e : List.take (i + 1) (List.map Fd.row t.fields) = (t.fields.take i).map Fd.row ++ [f.row] := by
   rw [← List.map_take, List.take_add_one, hg]; simp
  have hlen : ((t.fields.take i).map Fd.row).length = i := by simp; omega
  have lt := hs.lt
  rcases hs.fld with ⟨d1, d2⟩ | ⟨d1, id, ver, d2, d3, d4, d5⟩
  ·subst d2
   have hnew : ¬ 3 = st.nx + 5 + 7 + 10 + 4 := by omega
   simp -implicitDefEqProofs [-aA, -gval, h4, hk, hw, p1, p2, p3, p4]
   rw [e, d1]
   have tr := hs.tag.ref
   refine ⟨⟨tA, .ref (st.nx + 5 + 7 + 10 + 4) 0 0 1 13 false, ?_, ?_, ?_, ?_, ?_, ?_, by omega⟩, h1.symm, h2.symm, h3.symm⟩
   ·simp only [Hp.set]; rw [if_neg (by omega), if_neg (by omega), if_neg (by omega)]; exact hs.src
   ·simp only [Hp.set]; rw [if_neg (by omega), if_neg (by omega), if_neg (by omega)]; exact hs.res
   ·simp [Hp.set]
   ·refine hs.tag.keep (fun hz => ?_) (by omega)
    simp only [Hp.set]; rw [if_neg (by omega), if_neg (by omega), if_neg (by omega)]
   ·refine .inr ⟨by simp, _, 0, rfl, ?_, by omega, by omega⟩
    simp only [Hp.set]; rw [if_neg (by omega)]; simp [Fd.aJ]
   ·show jK tA = st.nx + 5 + 7 + 10 + 4 → jK tA = 0
    omega
  ·subst d2
   obtain ⟨q1, q2, q3, q4⟩ := aF d3
   have aVA : ¬ 3 = id := by omega
   have hidn : ¬ id = st.nx + 5 + 5 := by omega
   simp -implicitDefEqProofs [-aA, -gval, h4, hk, hw, p1, p2, p3, p4, q1, q2, q3, q4, aVA, hidn]
   rw [e]
   have tr := hs.tag.ref
   have df : jK tA = id → jK tA = 0 := hs.dif
   refine ⟨by omega, ⟨tA, .ref id (ver + 1) 0 (min i t.fields.length + 1) 13 false, ?_, ?_, ?_, ?_, ?_, ?_, by omega⟩, h1.symm, h2.symm, h3.symm⟩
   ·simp only [Hp.set]; rw [if_neg (by omega), if_neg (by omega), if_neg (by omega)]; exact hs.src
   ·simp only [Hp.set]; rw [if_neg (by omega), if_neg (by omega), if_neg (by omega)]; exact hs.res
   ·simp [Hp.set]
   ·refine hs.tag.keep (fun hz => ?_) (by omega)
    have : jK tA ≠ id := fun q => hz (df q)
    simp only [Hp.set]; rw [if_neg (by omega), if_neg this, if_neg (by omega)]
   ·refine .inr ⟨by simp, id, ver + 1, by simp, ?_, by omega, by omega⟩
    simp only [Hp.set]; rw [if_neg (by omega)]; simp [Fd.aJ]
   ·exact df
 ·rintro st hany ⟨h4, tA, fA, hs⟩ hk hh
  simp [h1, h2, h3] at hk
  rw [List.take_length] at hs
  obtain ⟨o1, o2, o3, o4⟩ := aF hs.src
  obtain ⟨p1, p2, p3, p4⟩ := aF hs.cop
  obtain ⟨r1, r2, r3, r4⟩ := aF hs.res
  simp -implicitDefEqProofs [-aA, -gval, h4, hk, o1, o2, o3]
  refine aD.tree p65 rfl ?_
  simp -implicitDefEqProofs [-aA, -gval, hk, p1, p2, p3, p4, o1, o2, o3]
  refine aD.tree p66 rfl ?_
  simp -implicitDefEqProofs [-aA, -gval, hk, r1, r2, r3, r4]
  have tr := hs.tag.ref
  have fr := hs.fld.ref
  refine ⟨⟨?_, ?_⟩, ?_⟩
  ·rcases hs.tag with ⟨_, g⟩ | ⟨_, id, ver, g, _⟩ <;> rw [g]
  ·rcases hs.fld with ⟨_, g⟩ | ⟨_, id, ver, g, _⟩ <;> rw [g]
  have kt : ∀ o1 o2, CS 3 tA (t.tags.map Tg.row) ((st.heap.set 3 o1).set 1 o2) st.nx := fun o1 o2 => hs.tag.keep (fun hz => by simp only [Hp.set]; rw [if_neg (by omega), if_neg (by omega)]) (Nat.le_refl _)
  have kf : ∀ o1 o2, CS 13 fA (t.fields.map Fd.row) ((st.heap.set 3 o1).set 1 o2) st.nx := fun o1 o2 => hs.fld.keep (fun hz => by simp only [Hp.set]; rw [if_neg (by omega), if_neg (by omega)]) (Nat.le_refl _)
  simp -implicitDefEqProofs [-aA, -gval, aC, hk]
  exact ⟨⟨(kt _ _).frz.1, (kf _ _).frz.1⟩, (kt _ _).frz.2, (kf _ _).frz.2⟩
attribute [local simp] c15t6 c15b11 c15t12 c15t17 c15t18 c15t19 c15 in
theorem aOW (t : Ty) (hn : t.narrow = true) (IHf : ∀ f ∈ t.fields, PSp Tryz.prog 15 [.agg (tyC f.ty)] (.agg (tyC f.ty))) (IH : ∀ x ∈ t.of, PSp Tryz.prog 15 [.agg (tyC x)] (.agg (tyC x))) : PSp Tryz.prog 15 [.agg (tyC t)] (.agg (tyC t)) := by
 have hnr := (Ty.aR t).1 hn
 have p65 := P65 t.of (by omega) IH
 have p66 := P66 t.limits (by omega) (fun x hx => by have := hnr.2.2.2.2.2.1 x hx; omega)
 have p64 : ∀ f ∈ t.fields, PSp Tryz.prog 64 [.one (.t (aY f.dflt))] (.one (.t (aY f.dflt))) := fun f hf => by
  have hf' := (Fd.aR _).1 (hnr.2.2.2.2.2.2.1 _ hf)
  exact P64 f.dflt (by omega) fun x hx => P23 x (Vl.vE (hf'.2.2.2 x hx))
 have rest := aRT t hn IHf p65 p66 p64
 refine k15.aG (by simp) (by simp [D.closed, A.closed]) (by simp [D.closed, A.closed]) ?_
 rcases ht : t.tags with - | ⟨g, r⟩
 ·simp only [tyC, ht, bL, aM, aS, aK] at rest
  simp -implicitDefEqProofs [-aA, -gval, ht]
  refine rest (.tt 3 []) (.tt 13 []) _ ?_ ?_ ?_ ?_
  ·simp
  ·simp
  ·simp
  ·exact ⟨by simp [Hp.set, ht], by simp [Hp.set], by simp [Hp.set], .inl ⟨by simp [ht], rfl⟩, .inl ⟨rfl, rfl⟩, fun _ => rfl, by simp⟩
 ·simp only [tyC, ht, bL, aM, aS, aK] at rest
  simp -implicitDefEqProofs [-aA, -gval, ht]
  refine ⟨by have := hnr.2.1; rw [ht] at this; simp at this; omega, ?_⟩
  refine rest (.ref 8 0 0 (r.length + 1) 3 false) (.tt 13 []) _ ?_ ?_ ?_ ?_
  ·simp
  ·simp
  ·simp
  ·exact ⟨by simp [Hp.set, ht], by simp [Hp.set], by simp [Hp.set], .inr ⟨by simp [ht], 8, 0, by simp [ht], by simp [Hp.set, ht, Function.comp_def], by simp, by omega⟩, .inl ⟨rfl, rfl⟩, fun h => by simp [jK] at h, by simp⟩
theorem P15 : ∀ t : Ty, t.narrow = true → PSp Tryz.prog 15 [.agg (tyC t)] (.agg (tyC t)) :=
 Ty.ind fun t IHf IH hn => by
  have h := (Ty.aR t).1 hn
  exact aOW t hn (fun x hx => IHf x hx ((Fd.aR x).1 (h.2.2.2.2.2.2.1 x hx)).2.2.1) fun x hx => IH x hx (h.2.2.2.2.2.2.2 x hx)
end Go.Proofs.YtdpbobkcbakpfaaGreatDoor

