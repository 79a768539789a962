/- Texts of this proof, laid one behind the other (Rg1, Rg2, Is0, Rg3, Rg4, Rg5, Ow, Cv, Fm, Fm2, Fm3, Fm4, Fm5, Wi, Pv, Szp, Wn, Al, Lm, Tn, Tn2, Cp). -/
import Derived.Test.YtdpbobkcbakpfaaGreatDoorMrcG
namespace Go.Proofs.YtdpbobkcbakpfaaGreatDoor
open Go Go.Ab
set_option maxRecDepth 100000
set_option maxHeartbeats 4000000
attribute [local simp] tagsT fieldsT typesT nodesT valsT textsT intsT tyC fdC vlC ndC hset_hset D.isPt D.pt
theorem hasLim_list (k : Int) : ([2, 4, 5, 6, 11, 12, 15].any fun x => x == k) = hasLim k := by
  rw [Bool.eq_iff_iff]; simp [hasLim]; omega
attribute [local simp] c236r0 c236r1 c236 in
theorem P236 (k : Int) : PSp Tryz.prog 236 [.one (.t (I k))] (.one (.t (.bool (hasLim k)))) := by
  refine k236.pureK (by simp) rfl rfl ?_
  rw [← hasLim_list]
  simp -implicitDefEqProofs [-guardOk, -gval]
  refine callK.pure (P46 [2, 4, 5, 6, 11, 12, 15] k (by simp [short])) (by simp) (by simp [ints]) ?_
  simp -implicitDefEqProofs [-guardOk, -gval, pureEnd]
theorem Q235 (k : Int) : PSp Tryz.prog 235 [.one (.t (I k))] (.one (.t (.bool (isGrp k)))) := P235 k
attribute [local simp] c237r0 c237r1 c237 in
theorem P237 (t : Ty) (hn : t.narrow = true) : PSp Tryz.prog 237 [.agg (tyC t)] (.one (.t (.bool t.isZ))) := by
  have h := (Ty.narrow_iff t).1 hn
  obtain ⟨_, h2, h3, h4, h5, _⟩ := h
  have w1 : IntKind.i64.wrap ((t.tags.length : Int) + (t.fields.length : Int)) = ((t.tags.length + t.fields.length : Nat) : Int) := nat_wrap _ (by omega) (by omega)
  have w2 : IntKind.i64.wrap ((t.tags.length : Int) + (t.fields.length : Int) + (t.of.length : Int)) = ((t.tags.length + t.fields.length + t.of.length : Nat) : Int) := nat_wrap _ (by omega) (by omega)
  have w3 : IntKind.i64.wrap ((t.tags.length : Int) + (t.fields.length : Int) + (t.of.length : Int) + (t.limits.length : Int)) = ((t.tags.length + t.fields.length + t.of.length + t.limits.length : Nat) : Int) := nat_wrap _ (by omega) (by omega)
  obtain ⟨z, hz⟩ : ∃ z, ((((t.tags.length + t.fields.length + t.of.length + t.limits.length : Nat) : Int)) == 0) = z := ⟨_, rfl⟩
  have e0 : t.isZ = (t.kind == 0 && seqB t.name (bs []) && z && !t.opn && t.root == 0) := by
    rw [← hz, Bool.eq_iff_iff]
    simp [Ty.isZ, ← List.length_eq_zero_iff]
    constructor
    · rintro ⟨⟨⟨⟨⟨⟨⟨a, b⟩, c⟩, d⟩, e⟩, f⟩, g⟩, i⟩
      exact ⟨⟨⟨⟨a, b⟩, by omega⟩, e⟩, f⟩
    · rintro ⟨⟨⟨⟨a, b⟩, c⟩, e⟩, f⟩
      exact ⟨⟨⟨⟨⟨⟨⟨a, b⟩, by omega⟩, by omega⟩, e⟩, f⟩, by omega⟩, by omega⟩
  rw [e0]
  refine k237.pureK (by simp) (by simp [D.closed, A.closed]) rfl ?_
  simp -implicitDefEqProofs [-guardOk, -gval, pureEnd, seqB, w1, w2, w3]
  rw [← hz]
  push_cast
  rfl
def Ty.rangesBad (t : Ty) : Bool := t.tags.any tagBad || t.fields.any Fd.rangeBad || !(decide (0 ≤ t.root) && decide (t.root ≤ (t.fields.length : Int)))
theorem Fd.rangeBad_eq (f : Fd) : f.rangeBad = (!(decide (0 ≤ f.pres) && decide (f.pres ≤ 2)) || decide (f.grp < 0)) := by cases f; rfl
attribute [local simp] c195r0 c195r1 c195r2 c195t3 c195r4 c195r5 c195r6 c195t7 c195t8 c195r3 c195t10 c195b11 c195t12 c195r7 c195r8 c195t15 c195r10 c195r11 c195t18 c195r9 c195t20 c195b21 c195t22 c195r12 c195t24 c195t25 c195 in
theorem ranges24 (t : Ty) (hn : t.narrow = true) (st : St) (h1 : TB t 1 st) (_hnx : 0 < st.nx) : awpK Tryz.prog 65 (pureEnd [.tmp 2] (.one (.t (.bool (t.fields.any Fd.rangeBad || !(decide (0 ≤ t.root) && decide (t.root ≤ (t.fields.length : Int)))))))) c195t24 [] st := by
  have h := (Ty.narrow_iff t).1 hn
  obtain ⟨_, h2', h3, h4, h5, _⟩ := h
  obtain ⟨h1, h2⟩ := h1
  obtain ⟨o1, o2, o3, o4⟩ := objF h2
  obtain ⟨w, hw⟩ : ∃ w, (decide (0 ≤ t.root) && decide (t.root ≤ (t.fields.length : Int))) = w := ⟨_, rfl⟩
  rw [hw]
  simp -implicitDefEqProofs [-guardOk, -gval]
  refine loopAll t.fields Fd.rangeBad [1] [0] (fun i st => st.tmps 5 = .one (.t (I i))) (by simp [short]; omega) ⟨by simp, by simp, by simp []⟩ ?_ ?_
  · intro i f st' hi hiI hw' hg hy hany hx hk hh
    simp [h1] at hk hh
    obtain ⟨o1, o2, o3, o4⟩ := objF (hh.1.trans h2)
    rw [Fd.rangeBad_eq] at hany ⊢
    simp -implicitDefEqProofs [-guardOk, -gval, h1, hx, hk, hi, hiI, o1, o2, o3, rowAtM hg, Fd.row_eq, -List.getElem_map]
    refine callK.tree (WithinP _ _ _) rfl ?_
    obtain ⟨a, ha⟩ : ∃ a, (decide (0 ≤ f.pres) && decide (f.pres ≤ 2)) = a := ⟨_, rfl⟩
    rw [ha] at hany ⊢
    rcases bb a with rfl | rfl
    · rcases ltCases f.grp 0 with q | q
      · simp -implicitDefEqProofs [-guardOk, -gval, hk, hx, hi, hiI, o1, o2, o3, rowAtM hg, Fd.row_eq, -List.getElem_map, q, pureEnd]
        left; simpa using hany (by simp [q])
      · simp -implicitDefEqProofs [-guardOk, -gval, hk, hx, hi, hiI, hw', o1, o2, o3, rowAtM hg, Fd.row_eq, -List.getElem_map, q]
        exact ⟨by simpa using ha, hh.1⟩
    · simp -implicitDefEqProofs [-guardOk, -gval, pureEnd]
      left; simpa using hany (by simp)
  · intro st' hany hx hk hh
    simp [h1] at hk hh
    obtain ⟨o1, o2, o3, o4⟩ := objF (hh.1.trans h2)
    rw [hany]
    simp -implicitDefEqProofs [-guardOk, -gval, hk, hx, o1, o2, o3]
    refine callK.tree (WithinP _ _ _) rfl ?_
    rw [hw]
    simp -implicitDefEqProofs [-guardOk, -gval, pureEnd]
attribute [local simp] c195r0 c195r1 c195r2 c195t3 c195r4 c195r5 c195r6 c195t7 c195t8 c195r3 c195t10 c195b11 c195t12 c195r7 c195r8 c195t15 c195r10 c195r11 c195t18 c195r9 c195t20 c195b21 c195t22 c195r12 c195t25 c195 in
theorem P195 (t : Ty) (hn : t.narrow = true) : PSp Tryz.prog 195 [.agg (tyC t)] (.one (.t (.bool t.rangesBad))) := by
  have h := (Ty.narrow_iff t).1 hn
  obtain ⟨_, h2', h3, h4, h5, _⟩ := h
  have rest := ranges24 t hn
  have e0 : t.rangesBad = (t.tags.any tagBad || (t.fields.any Fd.rangeBad || !(decide (0 ≤ t.root) && decide (t.root ≤ (t.fields.length : Int))))) := by simp only [Ty.rangesBad, Bool.or_assoc]
  rw [e0]
  generalize (t.fields.any Fd.rangeBad || !(decide (0 ≤ t.root) && decide (t.root ≤ (t.fields.length : Int)))) = R at *
  refine k195.pureK (by simp) (by simp [D.closed, A.closed]) rfl ?_
  simp -implicitDefEqProofs [-guardOk, -gval]
  refine loopAll t.tags tagBad [1] [0] (fun i st => st.tmps 3 = .one (.t (I i))) (by simp [short]; omega) ⟨by simp, by simp, by simp [Hp.set]⟩ ?_ ?_
  · rintro i ⟨c, n, w⟩ st hi hiI hw hg hy hany hx hk hh
    simp [Hp.set] at hk hh
    obtain ⟨o1, o2, o3, o4⟩ := objF hh.1
    have hne : ¬ 0 = st.nx + 5 + 5 := by omega
    have hne2 : ¬ 0 = st.nx + 10 := by omega
    have hbad : tagBad ⟨c, n, w⟩ = (!(decide (1 ≤ c) && decide (c ≤ 3)) || !(decide (0 ≤ n) && decide (n ≤ 100000)) || !(decide (0 ≤ w) && decide (w ≤ 2))) := rfl
    rw [hbad] at hany ⊢
    obtain ⟨a, ha⟩ : ∃ a, (decide (1 ≤ c) && decide (c ≤ 3)) = a := ⟨_, rfl⟩
    obtain ⟨b, hb⟩ : ∃ a, (decide (0 ≤ n) && decide (n ≤ 100000)) = a := ⟨_, rfl⟩
    obtain ⟨d, hd⟩ : ∃ a, (decide (0 ≤ w) && decide (w ≤ 2)) = a := ⟨_, rfl⟩
    rw [ha, hb, hd] at hany ⊢
    simp -implicitDefEqProofs [-guardOk, -gval, hx, hk, hi, hiI, o1, o2, o3, rowAtM hg, Tg.row, -List.getElem_map]
    refine callK.tree (WithinP _ _ _) rfl ?_
    rw [ha]
    rcases bb a with rfl | rfl
    · simp -implicitDefEqProofs [-guardOk, -gval]
      refine callK.tree (WithinP _ _ _) rfl ?_
      rw [hb]
      rcases bb b with rfl | rfl
      · simp -implicitDefEqProofs [-guardOk, -gval]
        refine callK.tree (WithinP _ _ _) rfl ?_
        rw [hd]
        rcases bb d with rfl | rfl
        · simp -implicitDefEqProofs [-guardOk, -gval, hx, hk, hw]
          simp [Hp.set, hh.1]
        · simp -implicitDefEqProofs [-guardOk, -gval, pureEnd]
          left; simpa using hany (by simp)
      · simp -implicitDefEqProofs [-guardOk, -gval, pureEnd]
        left; simpa using hany (by simp)
    · simp -implicitDefEqProofs [-guardOk, -gval, pureEnd]
      left; simpa using hany (by simp)
  · intro st hany hx hk hh
    simp [Hp.set] at hk hh
    obtain ⟨o1, o2, o3, o4⟩ := objF hh.1
    rw [hany]
    simp -implicitDefEqProofs [-guardOk, -gval, hk, hx, o1, o2, o3]
    exact rest _ ⟨by simp [hk], by simp [hh]⟩ (by simp)
def Fd.formBad (k root : Int) (i : Nat) (f : Fd) : Bool :=
  (f.num != 0 && k != 3) || (!seqB f.name (bs []) && k == 15) || (!f.ty.isZ && (k == 3 || k == 14)) || (!isGrp k && (f.pres != 0 || decide (0 < f.dflt.length) || f.grp != 0)) || (k == 13 && f.pres != 0) || (decide (0 < f.dflt.length) && f.pres != 2) || (f.grp != 0 && decide ((i : Int) < root))
def formAt (k root : Int) (l : List Fd) (i : Nat) : Bool := match l[i]? with | some f => f.formBad k root i | none => false
def Ty.formBadR (t : Ty) : Bool :=
  formBad1 (t.kind == 6 || t.kind == 14 || t.kind == 15) (seqB t.name (bs [])) (isGrp t.kind || t.kind == 3 || t.kind == 14 || t.kind == 15) (decide (0 < t.fields.length)) (isGrp t.kind || t.kind == 3) t.opn (t.root != 0) (t.root != (t.fields.length : Int)) ||
    (!isLst t.kind && decide (0 < t.of.length)) || (!hasLim t.kind && decide (0 < t.limits.length)) || (List.range t.fields.length).any (formAt t.kind t.root t.fields)
end Go.Proofs.YtdpbobkcbakpfaaGreatDoor

namespace Go.Proofs.YtdpbobkcbakpfaaGreatDoor
open Go Go.Ab
set_option maxRecDepth 100000
set_option maxHeartbeats 4000000
attribute [local simp] tagsT fieldsT typesT nodesT valsT textsT intsT tyC fdC vlC ndC hset_hset D.isPt D.pt
def formB1 (a b c d e f g : Bool) : Bool := (a && !b) || (!c && d) || (!e && (f || g))
attribute [local simp] c196r0 c196r1 c196r2 c196r3 c196r4 c196r5 c196r6 c196t7 c196r7 c196r8 c196t10 c196r10 c196r11 c196r12 c196t14 c196r13 c196r14 c196t17 c196t18 c196t19 c196r9 c196t21 c196b22 c196t23 c196r15 c196t25 c196t26 c196t27 c196t28 c196t29 c196t30 c196 in
theorem form18 (f : Fd) (k root : Int) (t : Ty) (hk0 : t.kind = k) (hr0 : t.root = root) (i : Nat) (A : Exit → St → Prop) (ks : List KF) (st : St) (id : Nat) (h1 : TB t 1 st) (h7 : st.tmps 7 = .one (.t (I i))) (h8 : st.tmps 8 = .one (.ptr ⟨id, 0, 13, 0, 0⟩)) (hid : st.heap id = some (.arr 0 false 13 [fdC f])) (x _y : Bool)
    (hR : ((!isGrp k && (f.pres != 0 || decide (0 < f.dflt.length) || f.grp != 0)) || (k == 13 && f.pres != 0) || (decide (0 < f.dflt.length) && f.pres != 2) || (f.grp != 0 && decide ((i : Int) < root))) = x)
    (hok : x = false → ∀ st', KeepT [1, 7] st.tmps st'.tmps → st'.heap = st.heap → st.nx ≤ st'.nx → retK Tryz.prog 222 A ks .normal st') (hbad : x = true → ∀ st', st'.tmps 2 = .one (.t (.bool true)) → retK Tryz.prog 222 A ks .ret st') :
    awpK Tryz.prog 222 A c196t18 ks st := by
  obtain ⟨h1, h2⟩ := h1
  obtain ⟨o1, o2, o3, o4⟩ := objF h2
  obtain ⟨p1, p2, p3, p4⟩ := objF hid
  obtain ⟨g, eg⟩ : ∃ x, isGrp k = x := ⟨_, rfl⟩
  obtain ⟨a, ea⟩ : ∃ x, (f.pres != 0) = x := ⟨_, rfl⟩
  obtain ⟨b, eb⟩ : ∃ x, decide (0 < f.dflt.length) = x := ⟨_, rfl⟩
  obtain ⟨c, ec⟩ : ∃ x, (f.grp != 0) = x := ⟨_, rfl⟩
  obtain ⟨d, ed⟩ : ∃ x, (k == 13) = x := ⟨_, rfl⟩
  obtain ⟨e, ee⟩ : ∃ x, (f.pres != 2) = x := ⟨_, rfl⟩
  obtain ⟨z, ez⟩ : ∃ x, decide ((i : Int) < root) = x := ⟨_, rfl⟩
  obtain ⟨u1, m1⟩ : ∃ x, (a || b) = x := ⟨_, rfl⟩
  obtain ⟨u2, m2⟩ : ∃ x, (u1 || c) = x := ⟨_, rfl⟩
  obtain ⟨u3, m3⟩ : ∃ x, (!g && u2) = x := ⟨_, rfl⟩
  obtain ⟨u4, m4⟩ : ∃ x, (d && a) = x := ⟨_, rfl⟩
  obtain ⟨u5, m5⟩ : ∃ x, (u3 || u4) = x := ⟨_, rfl⟩
  obtain ⟨u6, m6⟩ : ∃ x, (b && e) = x := ⟨_, rfl⟩
  obtain ⟨u7, m7⟩ : ∃ x, (u5 || u6) = x := ⟨_, rfl⟩
  obtain ⟨u8, m8⟩ : ∃ x, (c && z) = x := ⟨_, rfl⟩
  obtain ⟨u9, m9⟩ : ∃ x, (u7 || u8) = x := ⟨_, rfl⟩
  simp only [eg, ea, eb, ec, ed, ee, ez, m1, m2, m3, m4, m5, m6, m7, m8, m9] at hR
  subst hR
  have q235 := Q235 k
  rw [eg] at q235
  simp -implicitDefEqProofs [-guardOk, -gval, h1, o1, o2, o3, hk0, hr0]
  refine callK.tree q235 rfl ?_
  simp -implicitDefEqProofs [-guardOk, -gval, h1, h7, h8, o1, o2, o3, p1, p2, p3, hk0, hr0, ea, eb, ec, ed, ee, ez, m1, m2, m3, m4, m5, m6, m7, m8, m9, -Bool.not_or, -Bool.not_and]
  refine ⟨fun h => by simp [h], fun h => by simp [h], fun h => by simp [h], fun h => by simp [h], fun h => by simp [h], fun h => ?_, fun h => ?_⟩
  · exact hbad h _ (by simp)
  · exact hok h _ (by simp) rfl (by simp <;> omega)
attribute [local simp] c196r0 c196r1 c196r2 c196r3 c196r4 c196r5 c196r6 c196t7 c196r7 c196r8 c196t10 c196r10 c196r11 c196r12 c196t14 c196r13 c196r14 c196t17 c196t19 c196r9 c196t21 c196b22 c196t23 c196r15 c196t25 c196t26 c196t27 c196t28 c196t29 c196t30 c196 in
theorem form19 (f : Fd) (hn : f.ty.narrow = true) (k root : Int) (t : Ty) (hk0 : t.kind = k) (hr0 : t.root = root) (i : Nat) (A : Exit → St → Prop) (ks : List KF) (st : St) (id : Nat) (h1 : TB t 1 st) (h7 : st.tmps 7 = .one (.t (I i))) (h8 : st.tmps 8 = .one (.ptr ⟨id, 0, 13, 0, 0⟩)) (hid : st.heap id = some (.arr 0 false 13 [fdC f])) (x : Bool)
    (hR : f.formBad k root i = x)
    (hok : x = false → ∀ st', KeepT [1, 7] st.tmps st'.tmps → st'.heap = st.heap → st.nx ≤ st'.nx → retK Tryz.prog 222 A ks .normal st') (hbad : x = true → ∀ st', st'.tmps 2 = .one (.t (.bool true)) → retK Tryz.prog 222 A ks .ret st') :
    awpK Tryz.prog 222 A c196t19 ks st := by
  have rest := form18 f k root t hk0 hr0 i A ks
  obtain ⟨h1, h2⟩ := h1
  obtain ⟨o1, o2, o3, o4⟩ := objF h2
  obtain ⟨p1, p2, p3, p4⟩ := objF hid
  obtain ⟨a, ea⟩ : ∃ x, (f.num != 0) = x := ⟨_, rfl⟩
  obtain ⟨b, eb⟩ : ∃ x, (k != 3) = x := ⟨_, rfl⟩
  obtain ⟨c, ec⟩ : ∃ x, (f.name.toList == (bs []).toList) = x := ⟨_, rfl⟩
  obtain ⟨d, ed⟩ : ∃ x, (k == 15) = x := ⟨_, rfl⟩
  obtain ⟨e, ee⟩ : ∃ x, (k == 3) = x := ⟨_, rfl⟩
  obtain ⟨z, ez⟩ : ∃ x, (k == 14) = x := ⟨_, rfl⟩
  obtain ⟨q, eq⟩ : ∃ x, f.ty.isZ = x := ⟨_, rfl⟩
  obtain ⟨u1, m1⟩ : ∃ x, (a && b) = x := ⟨_, rfl⟩
  obtain ⟨u2, m2⟩ : ∃ x, (!c && d) = x := ⟨_, rfl⟩
  obtain ⟨u3, m3⟩ : ∃ x, (u1 || u2) = x := ⟨_, rfl⟩
  obtain ⟨u4, m4⟩ : ∃ x, (e || z) = x := ⟨_, rfl⟩
  obtain ⟨u5, m5⟩ : ∃ x, (!q && u4) = x := ⟨_, rfl⟩
  obtain ⟨u6, m6⟩ : ∃ x, (u3 || u5) = x := ⟨_, rfl⟩
  obtain ⟨y, ey⟩ : ∃ y, ((!isGrp k && (f.pres != 0 || decide (0 < f.dflt.length) || f.grp != 0)) || (k == 13 && f.pres != 0) || (decide (0 < f.dflt.length) && f.pres != 2) || (f.grp != 0 && decide ((i : Int) < root))) = y := ⟨_, rfl⟩
  have ex : x = (u6 || y) := by
    rw [← hR, ← ey]
    simp only [Fd.formBad, seqB, ea, eb, ec, ed, ee, ez, eq, m1, m2, m3, m4, m5, m6, Bool.or_assoc]
    try (rw [← m6, ← m3]; simp only [Bool.or_assoc])
  simp -implicitDefEqProofs [-guardOk, -gval, h1, h8, o1, o2, o3, p1, p2, p3, hk0, hr0, ea, eb, ec, ed, m1, m2, m3, -Bool.not_or, -Bool.not_and]
  refine ⟨fun h => by simp [h], fun h => ?_, fun h => ?_⟩
  · subst h
    refine callK.tree (P237 f.ty hn) rfl ?_
    rw [eq]
    have m6' : u5 = u6 := by simpa using m6
    subst m6'
    simp -implicitDefEqProofs [-guardOk, -gval, h1, o1, o2, o3, hk0, hr0, ee, ez, m4, m5, -Bool.not_or, -Bool.not_and]
    refine ⟨fun h => by simp [h], fun h => ?_, fun h => ?_⟩
    · exact hbad (by rw [ex, h]; rfl) _ (by simp)
    · refine rest _ id ⟨by simp [h1], by simp [h2]⟩ (by simp [h7]) (by simp [h8]) (by simp [hid]) y y ey (fun hx st' k1 k2 k3 => ?_) fun hx st' k2 => hbad (by rw [ex, hx]; simp) _ k2
      refine hok (by rw [ex, h, hx]; rfl) st' (by simpa using k1) (by simpa using k2) (by simp at k3; omega)
  · subst h
    have hu : u6 = true := by rw [← m6]; rfl
    simp -implicitDefEqProofs [-guardOk, -gval]
    exact hbad (by rw [ex, hu]; rfl) _ (by simp)
attribute [local simp] c196r0 c196r1 c196r2 c196r3 c196r4 c196r5 c196r6 c196t7 c196r7 c196r8 c196t10 c196r10 c196r11 c196r12 c196t14 c196r13 c196r14 c196t17 c196t18 c196r9 c196t21 c196b22 c196t23 c196r15 c196t25 c196t26 c196t27 c196t28 c196t29 c196t30 c196 in
theorem form25 (t : Ty) (hn : t.narrow = true) (st : St) (h1 : TB t 1 st) (_hnx : 0 < st.nx) : awpK Tryz.prog 222 (pureEnd [.tmp 2] (.one (.t (.bool ((List.range t.fields.length).any (formAt t.kind t.root t.fields)))))) c196t25 [] st := by
  have hnr := (Ty.narrow_iff t).1 hn
  obtain ⟨h1, h2⟩ := h1
  obtain ⟨o1, o2, o3, o4⟩ := objF h2
  have hle := hnr.2.2.1
  simp -implicitDefEqProofs [-guardOk, -gval]
  refine loopAll (List.range t.fields.length) (formAt t.kind t.root t.fields) [1] [0] (fun i st => st.tmps 7 = .one (.t (I i))) (by simp [short]; omega) ⟨by simp, by simp, by simp []⟩ ?_ ?_
  · intro i y st' hi hiI hw hg hy hany hx hk hh
    obtain rfl := range_at hg
    simp [h1] at hk hh
    have hi' : y < t.fields.length := by simpa using hi
    have hiI' : (y : Int) < (t.fields.length : Int) := by omega
    have q1 : t.fields[y]? = some t.fields[y] := List.getElem?_eq_getElem hi'
    have hfn := ((Fd.narrow_iff _).1 (hnr.2.2.2.2.2.2.1 _ (List.mem_of_getElem? q1))).2.2.1
    have hd : formAt t.kind t.root t.fields y = (t.fields[y]).formBad t.kind t.root y := by simp [formAt, q1]
    rw [hd] at hany ⊢
    generalize t.fields[y] = f at *
    obtain ⟨o1, o2, o3, o4⟩ := objF (hh.1.trans h2)
    have hne : ¬ 0 = st'.nx + 5 + 5 := by omega
    simp -implicitDefEqProofs [-guardOk, -gval, h1, hx, hk, hi', hiI', o1, o2, o3, rowAtM q1, Fd.row_eq, -List.getElem_map]
    refine form19 f hfn _ _ t rfl rfl y _ _ _ (st'.nx + 5 + 5) ⟨by simp [hk], ?_⟩ (by simp [hx]) (by simp) (by simp [Hp.set]) (f.formBad t.kind t.root y) rfl (fun hf st2 k1 k2 k3 => ?_) fun hf st2 k2 => ?_
    · simp only [Hp.set]; rw [if_neg hne]; exact hh.1.trans h2
    · simp at k1
      simp -implicitDefEqProofs [-guardOk, -gval, k1, hk, hx, hw]
      refine ⟨hf, ?_⟩
      rw [k2]; simp only [Hp.set]; rw [if_neg hne]; exact hh.1
    · simp -implicitDefEqProofs [-guardOk, -gval, pureEnd, k2]
      simpa using hany hf
  · intro st' hany hx hk hh
    simp [h1] at hk hh
    simp only [List.length_range] at hx
    obtain ⟨o1, o2, o3, o4⟩ := objF (hh.1.trans h2)
    rw [hany]
    simp -implicitDefEqProofs [-guardOk, -gval, hk, hx, o1, o2, o3, pureEnd]
attribute [local simp] c196r0 c196r1 c196r2 c196r3 c196r4 c196r5 c196r6 c196t7 c196r7 c196r8 c196t10 c196r10 c196r11 c196r12 c196t14 c196r13 c196r14 c196t17 c196t18 c196t19 c196r9 c196t21 c196b22 c196t23 c196r15 c196t26 c196t27 c196t28 c196t29 c196t30 c196 in
theorem form26 (t : Ty) (hn : t.narrow = true) (a c e l : Bool) (st : St) (h1 : TB t 1 st) (_hnx : 0 < st.nx) (h3 : st.tmps 3 = .one (.t (.bool a))) (h4 : st.tmps 4 = .one (.t (.bool c))) (h5 : st.tmps 5 = .one (.t (.bool e))) (h6 : st.tmps 6 = .one (.t (.bool l))) (R : Bool)
    (hR : (formBad1 a (seqB t.name (bs [])) c (decide (0 < t.fields.length)) e t.opn (t.root != 0) (t.root != (t.fields.length : Int)) || (!l && decide (0 < t.of.length)) || (!hasLim t.kind && decide (0 < t.limits.length)) || (List.range t.fields.length).any (formAt t.kind t.root t.fields)) = R) :
    awpK Tryz.prog 222 (pureEnd [.tmp 2] (.one (.t (.bool R)))) c196t26 [] st := by
  have rest := form25 t hn
  obtain ⟨h1, h2⟩ := h1
  obtain ⟨o1, o2, o3, o4⟩ := objF h2
  obtain ⟨b, e0⟩ : ∃ b, (t.name.toList == (bs []).toList) = b := ⟨_, rfl⟩
  obtain ⟨d, e1⟩ : ∃ b, decide (0 < t.fields.length) = b := ⟨_, rfl⟩
  obtain ⟨p, e2⟩ : ∃ b, (t.root == 0) = b := ⟨_, rfl⟩
  obtain ⟨q, e3⟩ : ∃ b, (t.root == (t.fields.length : Int)) = b := ⟨_, rfl⟩
  obtain ⟨m, e4⟩ : ∃ b, decide (0 < t.of.length) = b := ⟨_, rfl⟩
  obtain ⟨v, e5⟩ : ∃ b, decide (0 < t.limits.length) = b := ⟨_, rfl⟩
  have e0' : seqB t.name (bs []) = b := e0
  simp only [e0', e1, bne, e2, e3, e4, e5] at hR
  generalize (List.range t.fields.length).any (formAt t.kind t.root t.fields) = W at *
  obtain ⟨x1, f1⟩ : ∃ x, (!a && !b) = x := ⟨_, rfl⟩
  obtain ⟨x2, f2⟩ : ∃ x, (!c && d) = x := ⟨_, rfl⟩
  obtain ⟨y2, f3⟩ : ∃ x, (x1 || x2) = x := ⟨_, rfl⟩
  obtain ⟨x3, f4⟩ : ∃ x, (t.opn || !p) = x := ⟨_, rfl⟩
  obtain ⟨x4, f5⟩ : ∃ x, (!e && x3) = x := ⟨_, rfl⟩
  obtain ⟨y3, f6⟩ : ∃ x, (y2 || x4) = x := ⟨_, rfl⟩
  obtain ⟨x5, f7⟩ : ∃ x, (e && !t.opn) = x := ⟨_, rfl⟩
  obtain ⟨x6, f8⟩ : ∃ x, (x5 && !q) = x := ⟨_, rfl⟩
  obtain ⟨y4, f9⟩ : ∃ x, (y3 || x6) = x := ⟨_, rfl⟩
  obtain ⟨x7, f10⟩ : ∃ x, (!l && m) = x := ⟨_, rfl⟩
  obtain ⟨y5, f11⟩ : ∃ x, (y4 || x7) = x := ⟨_, rfl⟩
  have ef : formBad1 a b c d e t.opn (!p) (!q) = y4 := by simp only [formBad1, f1, f2, f4, f5, f7, f8, f3, f6, f9]
  rw [ef, f10, f11] at hR
  simp -implicitDefEqProofs [-guardOk, -gval, h1, h3, h4, h5, h6, o1, o2, o3, e0, e1, e2, e3, e4, e5, bne, f1, f2, f3, f4, f5, f6, f7, f8, f9, f10, f11, -Bool.not_or, -Bool.not_and]
  refine ⟨fun h => by simp [h], fun h h' => by simp [h, h'], fun h => by simp [h], fun h => by simp [h], fun h => by simp [h], fun h => by simp [h], fun h => ?_, fun h => ?_⟩
  · subst h
    refine callK.tree (P236 _) rfl ?_
    rcases bb (hasLim t.kind) with g2 | g2
    · rw [g2] at hR ⊢
      have hRW : W = R := by simpa using hR
      subst hRW
      simp -implicitDefEqProofs [-guardOk, -gval]
      exact rest _ ⟨by simp [h1], by simp [h2]⟩ (by simp <;> omega)
    · rw [g2] at hR ⊢
      cases v
      · have hRW : W = R := by simpa using hR
        subst hRW
        simp -implicitDefEqProofs [-guardOk, -gval, h1, o1, o2, o3, e5]
        exact rest _ ⟨by simp [h1], by simp [h2]⟩ (by simp <;> omega)
      · have hRW : true = R := by simpa using hR
        subst hRW
        simp -implicitDefEqProofs [-guardOk, -gval, h1, o1, o2, o3, e5, pureEnd]
  · subst h
    have hRW : true = R := by simpa using hR
    subst hRW
    simp -implicitDefEqProofs [-guardOk, -gval, pureEnd]
attribute [local simp] c196r0 c196r1 c196r2 c196r3 c196r4 c196r5 c196r6 c196t7 c196r7 c196r8 c196t10 c196r10 c196r11 c196r12 c196t14 c196r13 c196r14 c196t17 c196t18 c196t19 c196r9 c196t21 c196b22 c196t23 c196r15 c196t25 c196t27 c196t28 c196t29 c196t30 c196 in
theorem P196 (t : Ty) (hn : t.narrow = true) : PSp Tryz.prog 196 [.agg (tyC t)] (.one (.t (.bool t.formBadR))) := by
  refine k196.pureK (by simp) (by simp [D.closed, A.closed]) rfl ?_
  obtain ⟨a, ea⟩ : ∃ x, (t.kind == 6 || t.kind == 14 || t.kind == 15) = x := ⟨_, rfl⟩
  obtain ⟨g, eg⟩ : ∃ x, isGrp t.kind = x := ⟨_, rfl⟩
  obtain ⟨e, ee⟩ : ∃ x, (g || t.kind == 3) = x := ⟨_, rfl⟩
  obtain ⟨e', ee'⟩ : ∃ x, (e || t.kind == 14) = x := ⟨_, rfl⟩
  obtain ⟨c, ec⟩ : ∃ x, (e' || t.kind == 15) = x := ⟨_, rfl⟩
  obtain ⟨l, el⟩ : ∃ x, (t.kind == 11 || t.kind == 12) = x := ⟨_, rfl⟩
  have il : isLst t.kind = l := el
  have rest := form26 t hn a c e l
  have q235 := Q235 t.kind
  rw [eg] at q235
  have eR : (formBad1 a (seqB t.name (bs [])) c (decide (0 < t.fields.length)) e t.opn (t.root != 0) (t.root != (t.fields.length : Int)) || (!l && decide (0 < t.of.length)) || (!hasLim t.kind && decide (0 < t.limits.length)) || (List.range t.fields.length).any (formAt t.kind t.root t.fields)) = t.formBadR := by
    simp only [Ty.formBadR, ea, eg, ee, ee', ec, il]
  simp -implicitDefEqProofs [-guardOk, -gval, ea]
  refine callK.tree q235 rfl ?_
  simp -implicitDefEqProofs [-guardOk, -gval, ee, ee', ec, -Bool.not_or]
  refine callK.tree q235 rfl ?_
  simp -implicitDefEqProofs [-guardOk, -gval, ee, el, -Bool.not_or]
  exact rest _ ⟨by simp, by simp [Hp.set]⟩ (by simp) (by simp) (by simp) (by simp) (by simp) _ eR
end Go.Proofs.YtdpbobkcbakpfaaGreatDoor

namespace Go.Proofs.YtdpbobkcbakpfaaGreatDoor
open Go Go.Ab
set_option maxRecDepth 100000
set_option maxHeartbeats 4000000
attribute [local simp] tagsT fieldsT typesT nodesT valsT textsT intsT tyC fdC vlC ndC hset_hset D.isPt D.pt
attribute [local simp] c239r0 c239r1 c239 in
theorem P239 (s : ByteArray) : PSp Tryz.prog 239 [.one (.t (.str s))] (.one (.t (.bool (strType s)))) := by
  refine k239.pureK (by simp) rfl rfl ?_
  simp -implicitDefEqProofs [-guardOk, -gval]
  refine callK.pure (P206 strNames s (by simp [short, strNames])) (by simp) (by simp [strNames]) ?_
  simp -implicitDefEqProofs [-guardOk, -gval, pureEnd]
  simp only [hasT, strType, seqB]
  congr 1; funext x; exact Bool.beq_comm ..
def BS (bg : List Nat) (tm : Nat → D) (h : Hp) (nx : Nat) : Prop := (bg = [] ∧ tm 3 = .one (.tt 1 [])) ∨ (bg ≠ [] ∧ ∃ id ver, tm 3 = .one (.ref id ver 0 bg.length 1 false) ∧ h id = some (.arr ver false 1 (bg.map fun (n : Nat) => [.t (I n)])) ∧ id < nx)
theorem BS.more {bg : List Nat} {tm tm' : Nat → D} {h h' : Hp} {nx nx' : Nat} (hb : BS bg tm h nx) (h3 : tm' 3 = tm 3) (hh : h' = h) (hn : nx ≤ nx') : BS bg tm' h' nx' := by
  subst hh
  rcases hb with ⟨g1, g2⟩ | ⟨g1, id, ver, g2, g3, g4⟩
  · exact .inl ⟨g1, h3.trans g2⟩
  · exact .inr ⟨g1, id, ver, h3.trans g2, g3, by omega⟩
theorem BS.more2 {bg : List Nat} {tm tm' : Nat → D} {h h' : Hp} {nx nx' : Nat} (hb : BS bg tm h nx) (h3 : tm' 3 = tm 3) (hh : ∀ j, j < nx → h' j = h j) (hn : nx ≤ nx') : BS bg tm' h' nx' := by
  rcases hb with ⟨g1, g2⟩ | ⟨g1, id, ver, g2, g3, g4⟩
  · exact .inl ⟨g1, h3.trans g2⟩
  · exact .inr ⟨g1, id, ver, h3.trans g2, by rw [hh _ g4]; exact g3, by omega⟩
attribute [local simp] c238r0 c238r1 c238r2 c238t3 c238r3 c238r4 c238t6 c238r5 c238r6 c238r7 c238t10 c238r9 c238r10 c238r11 c238r12 c238r13 c238t16 c238r14 c238r15 c238r16 c238r17 c238t21 c238t22 c238r18 c238r19 c238r20 c238t26 c238t27 c238t28 c238t29 c238r21 c238r22 c238r23 c238t33 c238r24 c238r25 c238r26 c238t37 c238r28 c238r29 c238t40 c238r30 c238r27 c238t43 c238b44 c238t45 c238r31 c238t47 c238t48 c238t49 c238t50 c238t51 c238t52 c238r8 c238t54 c238b55 c238t56 c238r32 c238t58 c238t59 c238t60 c238t61 c238 in
theorem lim48 (x : Nd) (bg : List Nat) (hbg : ∀ (j b : Nat), bg[j]? = some b → b ≤ j) (hsm : bg.length ≤ 20) (has : x.args.length ≤ 1000000) (i5 : Nat) (A : Exit → St → Prop) (ks : List KF) (st : St)
    (h4 : st.tmps 4 = .one (.t (I bg.length))) (h5 : st.tmps 5 = .one (.ptr ⟨i5, 0, 5, 0, 0⟩)) (h5' : st.heap i5 = some (.arr 0 false 5 [ndC x])) (hb : BS bg st.tmps st.heap st.nx)
    (hnone : nextOf bg x = none → ∀ st', st'.tmps 2 = .one (.t (.bool false)) → retK Tryz.prog 115 A ks .ret st')
    (hsome : ∀ n, nextOf bg x = some n → n ≤ bg.length → ∀ st', KeepT [0, 4] st.tmps st'.tmps → BS (bg ++ [n]) st'.tmps st'.heap st'.nx → st.nx ≤ st'.nx → retK Tryz.prog 115 A ks .normal st') :
    awpK Tryz.prog 115 A c238t48 ks st := by
  obtain ⟨o1, o2, o3, o4⟩ := objF h5'
  have w0 : IntKind.i64.wrap ((x.args.length : Int) - 1) = (x.args.length : Int) - 1 := wrap_i64 (by omega) (by omega)
  simp -implicitDefEqProofs [-guardOk, -gval, h4, h5, o1, o2, o3, w0]
  refine W.loopK (fun j st' => ∃ nxt : Nat, j ≤ x.args.length ∧ nxt ≤ bg.length ∧ st'.tmps 10 = .one (.t (I ((j : Int) - 1))) ∧ st'.tmps 9 = .one (.t (I nxt)) ∧ backL bg (x.args.take j).reverse nxt = nextOf bg x ∧ KeepT [0, 3, 4, 5] st.tmps st'.tmps ∧ st'.heap = st.heap ∧ st.nx ≤ st'.nx) x.args.length ⟨bg.length, by omega, by omega, by simp, by simp, by simp [nextOf], by simp [h4, h5], by simp, by simp <;> omega⟩ ?_
  rintro j st' ⟨nxt, hj, hn, k10, k9, hx, kt, kh, kn⟩
  simp only [keepT_cons, keepT_nil, h4, h5, and_true] at kt
  obtain ⟨kt0, kt3, kt4, kt5⟩ := kt
  rw [← kh] at o1 o2 o3 o4
  rcases Nat.eq_zero_or_pos j with rfl | hpos
  · simp [backL] at hx
    have hsome' := hsome nxt hx.symm hn
    rcases hb with ⟨g1, g2⟩ | ⟨g1, id, ver, g2, g3, g4⟩
    · simp -implicitDefEqProofs [-guardOk, -gval, k10, k9, kt3, g2, h4]
      refine hsome' _ (by simp [kt0, kt4, h4]) (.inr ⟨by simp, st'.nx + 2 + 3, 0, ?_⟩) (by simp <;> omega)
      subst g1
      simp [Hp.set]
    · rw [← kh] at g3
      obtain ⟨p1, p2, p3, p4⟩ := objF g3
      simp -implicitDefEqProofs [-guardOk, -gval, k10, k9, kt3, g2, h4, p1, p2, p3, p4]
      refine ⟨by omega, hsome' _ (by simp [kt0, kt4, h4]) (.inr ⟨by simp, id, ver + 1, ?_⟩) (by simp <;> omega)⟩
      simp [Hp.set]
      omega
  · obtain ⟨i, rfl⟩ : ∃ i, j = i + 1 := ⟨j - 1, by omega⟩
    have hi : i < x.args.length := by omega
    have hiI : (i : Int) < (x.args.length : Int) := by omega
    have q1 : x.args[i]? = some x.args[i] := List.getElem?_eq_getElem hi
    have htk : (x.args.take (i + 1)).reverse = x.args[i] :: (x.args.take i).reverse := by
      rw [List.take_add_one, q1]; simp
    rw [htk, backL] at hx
    generalize x.args[i] = a at *
    have hiW : ((i + 1 : Nat) : Int) - 1 = (i : Int) := by omega
    rw [hiW] at k10
    have hge : (0 : Int) ≤ (i : Int) := by omega
    have hwr : IntKind.i64.wrap ((nxt : Int) - 1) = (nxt : Int) - 1 := wrap_i64 (by omega) (by omega)
    have hwi : IntKind.i64.wrap ((i : Int) - 1) = (i : Int) - 1 := wrap_i64 (by omega) (by omega)
    by_cases hz : nxt = 0
    · subst hz
      simp at hx
      simp -implicitDefEqProofs [-guardOk, -gval, k10, k9, kt5, o1, o2, o3]
      exact hnone hx.symm _ (by simp)
    · have hzI : ¬ (nxt : Int) = 0 := by omega
      have hzB : ((nxt : Int) == 0) = false := by simp [hz]
      by_cases hne : a = (nxt : Int) - 1
      · rw [if_neg (by simp [hz, hne])] at hx
        have hne' : bg ≠ [] := fun e => by rw [e] at hn; simp at hn; omega
        rcases hb with ⟨g1, _⟩ | ⟨g1, id, ver, g2, g3, g4⟩
        · exact absurd g1 hne'
        · rw [← kh] at g3
          obtain ⟨p1, p2, p3, p4⟩ := objF g3
          obtain ⟨m, rfl⟩ : ∃ m : Nat, nxt = m + 1 := ⟨nxt - 1, by omega⟩
          have hmI : ((m + 1 : Nat) : Int) - 1 = (m : Int) := by omega
          rw [hmI] at hwr hne
          have hm1 : (m : Int) < bg.length := by omega
          have hm2 : m < bg.length := by omega
          have hgd : bg.getD m 0 = bg[m] := by simp [List.getD_eq_getElem?_getD, List.getElem?_eq_getElem hm2]
          rw [Nat.add_sub_cancel, hgd] at hx
          simp only [Int.natCast_add, Int.natCast_one] at hzI hzB hwr k9
          simp -implicitDefEqProofs [-guardOk, -gval, k10, k9, kt5, o1, o2, o3, kt3, g2, p1, p2, p3, hzB, hwr, hwi, hm1, hm2, hi, hiI, rowAtM q1, hne, kt0, kt4, h4]
          refine ⟨i, by omega, by omega, bg[m], by have := hbg m bg[m] (List.getElem?_eq_getElem hm2); omega, ?_⟩
          simp [hx, kh, h5]
          omega
      · rw [if_pos (.inr hne)] at hx
        have hneB : (a == (nxt : Int) - 1) = false := by simp [hne]
        simp -implicitDefEqProofs [-guardOk, -gval, k10, k9, kt5, o1, o2, o3, hzB, hwr, hi, hiI, rowAtM q1, hneB, bne]
        exact hnone hx.symm _ (by simp)
attribute [local simp] c238r0 c238r1 c238r2 c238t3 c238r3 c238r4 c238t6 c238r5 c238r6 c238r7 c238t10 c238r9 c238r10 c238r11 c238r12 c238r13 c238t16 c238r14 c238r15 c238r16 c238r17 c238t21 c238t22 c238r18 c238r19 c238r20 c238t26 c238t27 c238t28 c238t29 c238r21 c238r22 c238r23 c238t33 c238r24 c238r25 c238r26 c238t37 c238r28 c238r29 c238t40 c238r30 c238r27 c238t43 c238b44 c238t45 c238r31 c238t47 c238t49 c238t50 c238t51 c238t52 c238r8 c238t54 c238b55 c238t56 c238r32 c238t58 c238t59 c238t60 c238t61 c238 in
theorem lim50 (x : Nd) (bg : List Nat) (hbg : ∀ (j b : Nat), bg[j]? = some b → b ≤ j) (hsm : bg.length ≤ 20) (has : x.args.length ≤ 1000000) (i5 : Nat) (A : Exit → St → Prop) (ks : List KF) (st : St) (lo hi : Int)
    (h4 : st.tmps 4 = .one (.t (I bg.length))) (h5 : st.tmps 5 = .one (.ptr ⟨i5, 0, 5, 0, 0⟩)) (h5' : st.heap i5 = some (.arr 0 false 5 [ndC x])) (hb : BS bg st.tmps st.heap st.nx) (h6 : st.tmps 6 = .one (.t (I lo))) (h7 : st.tmps 7 = .one (.t (I hi)))
    (hr : x.right = ((decide (0 ≤ x.k) && decide (x.k ≤ 7)) && (decide (lo ≤ (x.args.length : Int)) && decide ((x.args.length : Int) ≤ hi))))
    (hnone : (x.ok = false ∨ nextOf bg x = none) → ∀ st', st'.tmps 2 = .one (.t (.bool false)) → retK Tryz.prog 115 A ks .ret st')
    (hsome : x.ok = true → ∀ n, nextOf bg x = some n → n ≤ bg.length → ∀ st', KeepT [0, 4] st.tmps st'.tmps → BS (bg ++ [n]) st'.tmps st'.heap st'.nx → st.nx ≤ st'.nx → retK Tryz.prog 115 A ks .normal st') :
    awpK Tryz.prog 115 A c238t50 ks st := by
  obtain ⟨o1, o2, o3, o4⟩ := objF h5'
  obtain ⟨a, ea⟩ : ∃ y, (x.k == 0) = y := ⟨_, rfl⟩
  obtain ⟨b, eb⟩ : ∃ y, (x.lo == 0) = y := ⟨_, rfl⟩
  obtain ⟨c, ec⟩ : ∃ y, (x.hi == 0) = y := ⟨_, rfl⟩
  obtain ⟨d, ed⟩ : ∃ y, (x.k == 1) = y := ⟨_, rfl⟩
  obtain ⟨e, ee⟩ : ∃ y, (x.s.toList == (bs []).toList) = y := ⟨_, rfl⟩
  obtain ⟨u1, m1⟩ : ∃ y, (b && c) = y := ⟨_, rfl⟩
  obtain ⟨u2, m2⟩ : ∃ y, (a || u1) = y := ⟨_, rfl⟩
  obtain ⟨u3, m3⟩ : ∃ y, (d || e) = y := ⟨_, rfl⟩
  obtain ⟨u4, m4⟩ : ∃ y, (u2 && u3) = y := ⟨_, rfl⟩
  obtain ⟨w1, n1⟩ : ∃ y, (decide (0 ≤ x.k) && decide (x.k ≤ 7)) = y := ⟨_, rfl⟩
  obtain ⟨w2, n2⟩ : ∃ y, (decide (lo ≤ (x.args.length : Int)) && decide ((x.args.length : Int) ≤ hi)) = y := ⟨_, rfl⟩
  rw [n1, n2] at hr
  have hok : x.ok = (w1 && w2 && u4) := by
    rw [← m4, ← m3, ← m2, ← m1, ← ea, ← eb, ← ec, ← ed, ← ee, ← hr]
    rw [Bool.eq_iff_iff]
    simp [Nd.ok, and_assoc]
  simp -implicitDefEqProofs [-guardOk, -gval, h5, o1, o2, o3, ea, eb, ec, ed, ee, m1, m2, m3, m4, -Bool.not_or, -Bool.not_and]
  refine ⟨fun h => by simp [h], fun h => by simp [h], ?_⟩
  refine callK.tree (WithinP _ _ _) rfl ?_
  rw [n1]
  rcases bb w1 with rfl | rfl
  · simp -implicitDefEqProofs [-guardOk, -gval, h5, h6, h7, o1, o2, o3]
    refine callK.tree (WithinP _ _ _) rfl ?_
    rw [n2]
    rcases bb w2 with rfl | rfl
    · rcases bb u4 with rfl | rfl
      · simp -implicitDefEqProofs [-guardOk, -gval]
        refine lim48 x bg hbg hsm has i5 _ _ _ (by simp [h4]) (by simp [h5]) h5' (hb.more (by simp) rfl (by simp <;> omega)) (fun h => hnone (.inr h)) fun n h1 h2 st' k1 k2 k3 => hsome (by simpa using hok) n h1 h2 st' ?_ k2 ?_
        · simpa using k1
        · simp at k3; omega
      · simp -implicitDefEqProofs [-guardOk, -gval]
        exact hnone (.inl (by simpa using hok)) _ (by simp)
    · simp -implicitDefEqProofs [-guardOk, -gval]
      exact hnone (.inl (by simpa using hok)) _ (by simp)
  · simp -implicitDefEqProofs [-guardOk, -gval]
    exact hnone (.inl (by simpa using hok)) _ (by simp)
attribute [local simp] c238r0 c238r1 c238r2 c238t3 c238r3 c238r4 c238t6 c238r5 c238r6 c238r7 c238t10 c238r9 c238r10 c238r11 c238r12 c238r13 c238t16 c238r14 c238r15 c238r16 c238r17 c238t21 c238t22 c238r18 c238r19 c238r20 c238t26 c238t27 c238t28 c238t29 c238r21 c238r22 c238r23 c238t33 c238r24 c238r25 c238r26 c238t37 c238r28 c238r29 c238t40 c238r30 c238r27 c238t43 c238b44 c238t45 c238r31 c238t47 c238t48 c238t49 c238t51 c238t52 c238r8 c238t54 c238b55 c238t56 c238r32 c238t58 c238t59 c238t60 c238t61 c238 in
theorem lim51 (x : Nd) (bg : List Nat) (hbg : ∀ (j b : Nat), bg[j]? = some b → b ≤ j) (hsm : bg.length ≤ 20) (has : x.args.length ≤ 1000000) (i5 : Nat) (A : Exit → St → Prop) (ks : List KF) (st : St)
    (h4 : st.tmps 4 = .one (.t (I bg.length))) (h5 : st.tmps 5 = .one (.ptr ⟨i5, 0, 5, 0, 0⟩)) (h5' : st.heap i5 = some (.arr 0 false 5 [ndC x])) (hb : BS bg st.tmps st.heap st.nx) (h6 : st.tmps 6 = .one (.t (I 0))) (h7 : st.tmps 7 = .one (.t (I 0)))
    (hnone : (x.ok = false ∨ nextOf bg x = none) → ∀ st', st'.tmps 2 = .one (.t (.bool false)) → retK Tryz.prog 115 A ks .ret st')
    (hsome : x.ok = true → ∀ n, nextOf bg x = some n → n ≤ bg.length → ∀ st', KeepT [0, 4] st.tmps st'.tmps → BS (bg ++ [n]) st'.tmps st'.heap st'.nx → st.nx ≤ st'.nx → retK Tryz.prog 115 A ks .normal st') :
    awpK Tryz.prog 115 A c238t51 ks st := by
  obtain ⟨o1, o2, o3, o4⟩ := objF h5'
  have go : ∀ lo hi : Int, x.right = ((decide (0 ≤ x.k) && decide (x.k ≤ 7)) && (decide (lo ≤ (x.args.length : Int)) && decide ((x.args.length : Int) ≤ hi))) → ∀ st' : St, KeepT [0, 3, 4, 5] st.tmps st'.tmps → st'.heap = st.heap → st.nx ≤ st'.nx → st'.tmps 6 = .one (.t (I lo)) → st'.tmps 7 = .one (.t (I hi)) → awpK Tryz.prog 115 A c238t50 ks st' := fun lo hi hr st' k1 k2 k3 k6 k7 => by
    simp only [keepT_cons, keepT_nil, and_true] at k1
    obtain ⟨u0, u3, u4, u5⟩ := k1
    exact lim50 x bg hbg hsm has i5 A ks st' lo hi (u4.trans h4) (u5.trans h5) (by rw [k2]; exact h5') (hb.more u3 k2 k3) k6 k7 hr hnone fun e n g1 g2 st2 g3 g4 g5 => hsome e n g1 g2 st2 (by simp only [keepT_cons, keepT_nil, and_true] at g3 ⊢; exact ⟨g3.1.trans u0, g3.2.trans u4⟩) g4 (by omega)
  have right : ∀ k : Int, x.k = k → x.right = (if k = 0 ∨ k = 1 then decide (x.args.length = 0) else if k = 2 ∨ k = 3 then decide (x.args.length = 1)
    else if k = 4 ∨ k = 5 ∨ k = 6 then decide (x.args.length = 2) else if k = 7 then decide (x.args.length = 1 ∨ x.args.length = 2) else false) := fun k e => by rw [← e]; rfl
  rcases eqCases x.k 2 with q2 | q2
  · simp -implicitDefEqProofs [-guardOk, -gval, h5, o1, o2, o3, q2]
    exact go 1 1 (by rw [right 2 q2]; simp [q2]; try (rw [Bool.eq_iff_iff]; simp; omega)) _ (by simp) rfl (by simp <;> omega) (by simp) (by simp)
  · rcases eqCases x.k 3 with q3 | q3
    · simp -implicitDefEqProofs [-guardOk, -gval, h5, o1, o2, o3, q3]
      exact go 1 1 (by rw [right 3 q3]; simp [q3]; try (rw [Bool.eq_iff_iff]; simp; omega)) _ (by simp) rfl (by simp <;> omega) (by simp) (by simp)
    · rcases eqCases x.k 4 with q4 | q4
      · simp -implicitDefEqProofs [-guardOk, -gval, h5, o1, o2, o3, q4]
        exact go 2 2 (by rw [right 4 q4]; simp [q4]; try (rw [Bool.eq_iff_iff]; simp; omega)) _ (by simp) rfl (by simp <;> omega) (by simp) (by simp)
      · rcases eqCases x.k 5 with q5 | q5
        · simp -implicitDefEqProofs [-guardOk, -gval, h5, o1, o2, o3, q5]
          exact go 2 2 (by rw [right 5 q5]; simp [q5]; try (rw [Bool.eq_iff_iff]; simp; omega)) _ (by simp) rfl (by simp <;> omega) (by simp) (by simp)
        · rcases eqCases x.k 6 with q6 | q6
          · simp -implicitDefEqProofs [-guardOk, -gval, h5, o1, o2, o3, q6]
            exact go 2 2 (by rw [right 6 q6]; simp [q6]; try (rw [Bool.eq_iff_iff]; simp; omega)) _ (by simp) rfl (by simp <;> omega) (by simp) (by simp)
          · rcases eqCases x.k 7 with q7 | q7
            · simp -implicitDefEqProofs [-guardOk, -gval, h5, o1, o2, o3, q7]
              exact go 1 2 (by rw [right 7 q7]; simp [q7]; try (rw [Bool.eq_iff_iff]; simp; omega)) _ (by simp) rfl (by simp <;> omega) (by simp) (by simp)
            · simp -implicitDefEqProofs [-guardOk, -gval, h5, o1, o2, o3, q2, q3, q4, q5, q6, q7]
              refine go 0 0 ?_ _ (by simp) rfl (by simp <;> omega) (by simp [h6]) (by simp [h7])
              have n2 := q2.2.1; have n3 := q3.2.1; have n4 := q4.2.1; have n5 := q5.2.1; have n6 := q6.2.1; have n7 := q7.2.1
              rw [right _ rfl, Bool.eq_iff_iff]
              by_cases z : x.k = 0 ∨ x.k = 1
              · rw [if_pos z]; simp; omega
              · rw [if_neg z, if_neg (by omega), if_neg (by omega), if_neg n7]; simp; omega
def treeEnd (n : Nat) (o : Option (List Nat)) : Bool := match o with | none => false | some bg => decide (bg.getD (n - 1) 0 = 0)
attribute [local simp] c238r0 c238r1 c238r2 c238t3 c238r3 c238r4 c238t6 c238r5 c238r6 c238r7 c238t10 c238r9 c238r10 c238r11 c238r12 c238r13 c238t16 c238r14 c238r15 c238r16 c238r17 c238t21 c238t22 c238r18 c238r19 c238r20 c238t26 c238t27 c238t28 c238t29 c238r21 c238r22 c238r23 c238t33 c238r24 c238r25 c238r26 c238t37 c238r28 c238r29 c238t40 c238r30 c238r27 c238t43 c238b44 c238t45 c238r31 c238t47 c238t48 c238t49 c238t50 c238t52 c238r8 c238t54 c238b55 c238t56 c238r32 c238t58 c238t59 c238t60 c238t61 c238 in
theorem P238 (l : List Nd) (ha : ∀ x ∈ l, x.args.length ≤ 1000000) : PSp Tryz.prog 238 [.one (.t (nodesT l))] (.one (.t (.bool (isTreeF l)))) := by
  refine k238.pureK (by simp) rfl rfl ?_
  rcases eqCases (l.length : Int) 0 with z | z
  · have e : l = [] := List.length_eq_zero_iff.1 (by omega)
    subst e
    simp -implicitDefEqProofs [-guardOk, -gval, pureEnd]
    simp [isTreeF, treeGo]
  · by_cases hl : l.length ≤ 20
    · have hlI : ¬ (20 : Int) < l.length := by omega
      have hF : isTreeF l = treeEnd l.length (treeGo l []) := by
        have : ¬ l.length = 0 := by omega
        simp only [isTreeF, treeEnd, hl, this, false_or, decide_true, Bool.true_and]
        cases treeGo l [] <;> rfl
      obtain ⟨R, hR⟩ : ∃ R, treeEnd l.length (treeGo l []) = R := ⟨_, rfl⟩
      rw [hF, hR]
      simp -implicitDefEqProofs [-guardOk, -gval, z, hlI]
      refine loopRec l (fun _ r (bg : List Nat) => treeEnd l.length (treeGo r bg)) R [] [0] [] (fun i bg st => st.tmps 4 = .one (.t (I i)) ∧ bg.length = i ∧ (∀ (j b : Nat), bg[j]? = some b → b ≤ j) ∧ BS bg st.tmps st.heap st.nx) (by simp [short]; omega) hR ⟨⟨by simp, by simp, by simp, .inl ⟨rfl, by simp⟩⟩, by simp, by simp⟩ ?_ ?_
      · rintro i y bg st' hi hiI hw hg hy hany ⟨h4, rfl, hbg, hb⟩ hk hh
        simp at hk
        rw [treeGo] at hany
        simp -implicitDefEqProofs [-guardOk, -gval, hk, h4, hi, hiI, rowAtM hg, -List.getElem_map, Nd.row]
        refine lim51 y bg hbg (by omega) (ha y hy) (st'.nx + 4 + 4) _ _ _ ?_ ?_ ?_ ?_ ?_ ?_ ?_ ?_
        · simp [h4]
        · simp
        · simp [Hp.set]
        · refine hb.more2 (by simp) (fun j hj => ?_) (by simp <;> omega)
          simp only [Hp.set]; rw [if_neg (by omega)]
        · simp
        · simp
        · intro hno st2 k2
          simp -implicitDefEqProofs [-guardOk, -gval, pureEnd, k2]
          rcases hno with h | h
          · rw [h] at hany; simpa [treeEnd] using hany
          · rw [h] at hany; simpa [treeEnd] using hany
        · intro ho n hn hle st2 k1 k2 k3
          simp at k1
          simp -implicitDefEqProofs [-guardOk, -gval, k1, hk, h4, hw]
          rw [ho, hn] at hany
          refine ⟨bg ++ [n], by simpa using hany, by simp, fun j b hj => ?_, k2.more (by simp) rfl (by simp <;> omega)⟩
          rcases Nat.lt_or_ge j bg.length with h | h
          · rw [List.getElem?_append_left h] at hj; exact hbg j b hj
          · rw [List.getElem?_append_right h] at hj
            have : j - bg.length = 0 := by
              rcases Nat.eq_zero_or_pos (j - bg.length) with e | e
              · exact e
              · rw [List.getElem?_eq_none (by simp; omega)] at hj; cases hj
            rw [this] at hj
            simp at hj; omega
      · rintro bg st' hany ⟨h4, hbl, hbg, hb⟩ hk hh
        simp at hk
        rw [treeGo] at hany
        have hpos : 0 < l.length := by omega
        rcases hb with ⟨g1, g2⟩ | ⟨g1, id, ver, g2, g3, g4⟩
        · subst g1; simp at hbl; omega
        · obtain ⟨q1, q2, q3, q4⟩ := objF g3
          obtain ⟨m, hm⟩ : ∃ m, l.length = m + 1 := ⟨l.length - 1, by omega⟩
          have hmb : m < bg.length := by omega
          have hmI : (m : Int) < bg.length := by omega
          have hw : IntKind.i64.wrap (m : Int) = m := wrap_i64 (by omega) (by omega)
          have hge : bg.getD m 0 = bg[m] := by simp [List.getD_eq_getElem?_getD, List.getElem?_eq_getElem hmb]
          have hw' : IntKind.i64.wrap ((m : Int) + 1 - 1) = m := by rw [Int.add_sub_cancel]; exact hw
          simp only [treeEnd] at hany
          rw [hm, Nat.add_sub_cancel, hge] at hany
          simp -implicitDefEqProofs [-guardOk, -gval, hk, h4, g2, q1, q2, q3, hm, hw, hmI, hmb, pureEnd]
          rw [← hany, len0]
    · have hF : isTreeF l = false := by simp [isTreeF, hl]
      have hlI : (20 : Int) < l.length := by omega
      rw [hF]
      simp -implicitDefEqProofs [-guardOk, -gval, z, hlI, pureEnd]
end Go.Proofs.YtdpbobkcbakpfaaGreatDoor

namespace Go.Proofs.YtdpbobkcbakpfaaGreatDoor
open Go Go.Ab
set_option maxRecDepth 100000
set_option maxHeartbeats 4000000
attribute [local simp] tagsT fieldsT typesT nodesT valsT textsT intsT tyC fdC vlC ndC hset_hset D.isPt D.pt
def Fd.dfltBad (f : Fd) : Bool := f.pres == 2 && (f.dflt.length : Int) != 1
def Ty.shapesBad (t : Ty) : Bool := ((isLst t.kind && (t.of.length : Int) != 1) || !isTreeF t.limits) || ((t.kind == 13 || t.kind == 3) && decide (t.root < 1)) || t.shape2 || t.fields.any Fd.dfltBad
attribute [local simp] c197r0 c197r1 c197r2 c197t3 c197r3 c197r4 c197t6 c197r5 c197r6 c197t9 c197r7 c197r8 c197t12 c197r10 c197r11 c197t15 c197r9 c197t17 c197b18 c197t19 c197r12 c197t21 c197t22 c197t23 c197t24 c197 in
theorem shapes21 (t : Ty) (hn : t.narrow = true) (st : St) (h1 : TB t 1 st) (_hnx : 0 < st.nx) : awpK Tryz.prog 92 (pureEnd [.tmp 2] (.one (.t (.bool (t.fields.any Fd.dfltBad))))) c197t21 [] st := by
  have hnr := (Ty.narrow_iff t).1 hn
  have hle := hnr.2.2.1
  obtain ⟨h1, h2⟩ := h1
  obtain ⟨o1, o2, o3, o4⟩ := objF h2
  simp -implicitDefEqProofs [-guardOk, -gval]
  refine loopAll t.fields Fd.dfltBad [1] [0] (fun i st => st.tmps 3 = .one (.t (I i))) (by simp [short]; omega) ⟨by simp, by simp, by simp []⟩ ?_ ?_
  · intro i f st' hi hiI hw' hg hy hany hx hk hh
    simp [h1] at hk hh
    obtain ⟨o1, o2, o3, o4⟩ := objF (hh.1.trans h2)
    have hd : f.dfltBad = (f.pres == 2 && !((f.dflt.length : Int) == 1)) := rfl
    rw [hd] at hany ⊢
    obtain ⟨a, ea⟩ : ∃ x, (f.pres == 2) = x := ⟨_, rfl⟩
    obtain ⟨b, eb⟩ : ∃ x, ((f.dflt.length : Int) == 1) = x := ⟨_, rfl⟩
    rw [ea, eb] at hany ⊢
    cases a <;> cases b
    all_goals simp -implicitDefEqProofs [-guardOk, -gval, h1, hx, hk, hi, hiI, hw', o1, o2, o3, rowAtM hg, Fd.row_eq, -List.getElem_map, ea, eb, bne, pureEnd]
    all_goals first | exact hh.1 | simpa using hany
  · intro st' hany hx hk hh
    simp [h1] at hk hh
    obtain ⟨o1, o2, o3, o4⟩ := objF (hh.1.trans h2)
    rw [hany]
    simp -implicitDefEqProofs [-guardOk, -gval, hk, hx, o1, o2, o3, pureEnd]
attribute [local simp] c197r0 c197r1 c197r2 c197t3 c197r3 c197r4 c197t6 c197r5 c197r6 c197t9 c197r7 c197r8 c197t12 c197r10 c197r11 c197t15 c197r9 c197t17 c197b18 c197t19 c197r12 c197t22 c197t23 c197t24 c197 in
theorem shapes22 (t : Ty) (hn : t.narrow = true) (st : St) (h1 : TB t 1 st) (_hnx : 0 < st.nx) : awpK Tryz.prog 92 (pureEnd [.tmp 2] (.one (.t (.bool (t.shape2 || t.fields.any Fd.dfltBad))))) c197t22 [] st := by
  have rest := shapes21 t hn
  obtain ⟨h1, h2⟩ := h1
  obtain ⟨o1, o2, o3, o4⟩ := objF h2
  generalize t.fields.any Fd.dfltBad = R at *
  obtain ⟨a, e0⟩ : ∃ a, (t.kind == 14) = a := ⟨_, rfl⟩
  obtain ⟨b, e1⟩ : ∃ b, (t.name.toList == (bs []).toList) = b := ⟨_, rfl⟩
  obtain ⟨c, e2⟩ : ∃ c, decide (0 < t.fields.length) = c := ⟨_, rfl⟩
  have e2' : decide ((t.fields.length : Int) > 0) = c := by rw [← e2]; congr 1; simp
  obtain ⟨d, e3⟩ : ∃ c, ((t.fields.length : Int) == 2) = c := ⟨_, rfl⟩
  obtain ⟨e, e4⟩ : ∃ c, ((t.fields.length : Int) == 3) = c := ⟨_, rfl⟩
  have s2 : t.shape2 = (a && ((b && c) || (!b && !d && !e))) := by
    simp only [Ty.shape2, seqB, e0, e1, e2', bne, e3, e4]
  rw [s2]
  obtain ⟨u1, m1⟩ : ∃ y, (b && c) = y := ⟨_, rfl⟩
  obtain ⟨u2, m2⟩ : ∃ y, (!b && !d) = y := ⟨_, rfl⟩
  obtain ⟨u3, m3⟩ : ∃ y, (u2 && !e) = y := ⟨_, rfl⟩
  obtain ⟨u4, m4⟩ : ∃ y, (u1 || u3) = y := ⟨_, rfl⟩
  obtain ⟨u5, m5⟩ : ∃ y, (a && u4) = y := ⟨_, rfl⟩
  simp only [m1, m2, m3, m4, m5]
  simp -implicitDefEqProofs [-guardOk, -gval, h1, o1, o2, o3, e0, e1, e2, e3, e4, bne, m1, m2, m3, m4, m5, -Bool.not_or, -Bool.not_and]
  refine ⟨fun h => by simp [h], fun h h' => by simp [h, h'], fun h h' => by simp [h, h'], fun h => by simp [h], fun h => ?_, fun h => ?_⟩
  · subst h; simp -implicitDefEqProofs [-guardOk, -gval, pureEnd]
  · subst h; simp -implicitDefEqProofs [-guardOk, -gval]
    exact rest _ ⟨by simp [h1], by simp [h2]⟩ (by simp <;> omega)
attribute [local simp] c197r0 c197r1 c197r2 c197t3 c197r3 c197r4 c197t6 c197r5 c197r6 c197t9 c197r7 c197r8 c197t12 c197r10 c197r11 c197t15 c197r9 c197t17 c197b18 c197t19 c197r12 c197t21 c197t23 c197t24 c197 in
theorem shapes23 (t : Ty) (hn : t.narrow = true) (st : St) (h1 : TB t 1 st) (_hnx : 0 < st.nx) : awpK Tryz.prog 92 (pureEnd [.tmp 2] (.one (.t (.bool (((t.kind == 13 || t.kind == 3) && decide (t.root < 1)) || t.shape2 || t.fields.any Fd.dfltBad))))) c197t23 [] st := by
  have rest := shapes22 t hn
  obtain ⟨h1, h2⟩ := h1
  obtain ⟨o1, o2, o3, o4⟩ := objF h2
  rw [Bool.or_assoc]
  generalize (t.shape2 || t.fields.any Fd.dfltBad) = R at *
  obtain ⟨a, e0⟩ : ∃ a, (t.kind == 13) = a := ⟨_, rfl⟩
  obtain ⟨b, e1⟩ : ∃ a, (t.kind == 3) = a := ⟨_, rfl⟩
  obtain ⟨c, e2⟩ : ∃ c, decide (t.root < 1) = c := ⟨_, rfl⟩
  obtain ⟨u1, m1⟩ : ∃ y, (a || b) = y := ⟨_, rfl⟩
  obtain ⟨u2, m2⟩ : ∃ y, (u1 && c) = y := ⟨_, rfl⟩
  simp only [e0, e1, e2, m1, m2]
  simp -implicitDefEqProofs [-guardOk, -gval, h1, o1, o2, o3, e0, e1, e2, m1, m2, -Bool.not_or, -Bool.not_and]
  refine ⟨fun h => ?_, fun h => ?_⟩
  · subst h; simp -implicitDefEqProofs [-guardOk, -gval, pureEnd]
  · subst h; simp -implicitDefEqProofs [-guardOk, -gval]
    exact rest _ ⟨by simp [h1], by simp [h2]⟩ (by simp <;> omega)
attribute [local simp] c197r0 c197r1 c197r2 c197t3 c197r3 c197r4 c197t6 c197r5 c197r6 c197t9 c197r7 c197r8 c197t12 c197r10 c197r11 c197t15 c197r9 c197t17 c197b18 c197t19 c197r12 c197t21 c197t22 c197t24 c197 in
theorem shapes24 (t : Ty) (hn : t.narrow = true) (st : St) (h1 : TB t 1 st) (_hnx : 0 < st.nx) : awpK Tryz.prog 92 (pureEnd [.tmp 2] (.one (.t (.bool t.shapesBad)))) c197t24 [] st := by
  have rest := shapes23 t hn
  have hnr := (Ty.narrow_iff t).1 hn
  obtain ⟨h1, h2⟩ := h1
  obtain ⟨o1, o2, o3, o4⟩ := objF h2
  have e : t.shapesBad = ((isLst t.kind && (t.of.length : Int) != 1) || (!isTreeF t.limits || (((t.kind == 13 || t.kind == 3) && decide (t.root < 1)) || t.shape2 || t.fields.any Fd.dfltBad))) := by
    simp only [Ty.shapesBad, Bool.or_assoc]
  rw [e]
  generalize (((t.kind == 13 || t.kind == 3) && decide (t.root < 1)) || t.shape2 || t.fields.any Fd.dfltBad) = R at *
  obtain ⟨a, e0⟩ : ∃ a, (t.kind == 11 || t.kind == 12) = a := ⟨_, rfl⟩
  obtain ⟨c, e2⟩ : ∃ c, ((t.of.length : Int) != 1) = c := ⟨_, rfl⟩
  obtain ⟨u2, m2⟩ : ∃ y, (a && c) = y := ⟨_, rfl⟩
  have e0' : isLst t.kind = a := e0
  simp only [e0', e2, m2]
  simp -implicitDefEqProofs [-guardOk, -gval, h1, o1, o2, o3, e0, e2, m2, -Bool.not_or, -Bool.not_and]
  refine ⟨fun h => ?_, fun h => ?_⟩
  · subst h
    refine callK.tree (P238 t.limits (fun x hx => by have := (hnr.2.2.2.2.2.1 x hx).2; omega)) rfl ?_
    cases isTreeF t.limits
    · simp -implicitDefEqProofs [-guardOk, -gval, pureEnd]
    · simp -implicitDefEqProofs [-guardOk, -gval]
      exact rest _ ⟨by simp [h1], by simp [h2]⟩ (by simp <;> omega)
  · subst h
    simp -implicitDefEqProofs [-guardOk, -gval, pureEnd]
attribute [local simp] c197r0 c197r1 c197r2 c197t3 c197r3 c197r4 c197t6 c197r5 c197r6 c197t9 c197r7 c197r8 c197t12 c197r10 c197r11 c197t15 c197r9 c197t17 c197b18 c197t19 c197r12 c197t21 c197t22 c197t23 c197 in
theorem P197 (t : Ty) (hn : t.narrow = true) : PSp Tryz.prog 197 [.agg (tyC t)] (.one (.t (.bool t.shapesBad))) := by
  refine k197.pureK (by simp) (by simp [D.closed, A.closed]) rfl ?_
  have rest := shapes24 t hn
  simp -implicitDefEqProofs [-guardOk, -gval]
  exact rest _ ⟨by simp, by simp [Hp.set]⟩ (by simp)
end Go.Proofs.YtdpbobkcbakpfaaGreatDoor

namespace Go.Proofs.YtdpbobkcbakpfaaGreatDoor
open Go Go.Ab
set_option maxRecDepth 100000
set_option maxHeartbeats 4000000
attribute [local simp] tagsT fieldsT typesT nodesT valsT textsT intsT tyC fdC vlC ndC hset_hset D.isPt D.pt
def Ty.numsBad (t : Ty) : Bool := t.kind == 3 && t.fields.any fun f => !isNum f.num
def groupedR : List Fd → Int × Int → Bool
  | [], _ => true
  | f :: r, (last, before) => if f.grp != 0 && f.grp != before then (if f.grp != IntKind.i64.wrap (last + 1) then false else groupedR r (f.grp, f.grp)) else groupedR r (last, f.grp)
attribute [local simp] c198r0 c198r1 c198r2 c198t3 c198r3 c198r4 c198t6 c198r6 c198r7 c198t9 c198r5 c198t11 c198b12 c198t13 c198r8 c198r9 c198t16 c198r11 c198r12 c198t19 c198r14 c198r15 c198t22 c198r13 c198t24 c198b25 c198t26 c198r10 c198t28 c198b29 c198t30 c198r16 c198r17 c198r18 c198t34 c198r20 c198r21 c198r22 c198r23 c198t39 c198r24 c198t41 c198r25 c198t43 c198r19 c198t45 c198b46 c198t47 c198r26 c198r27 c198t50 c198r29 c198r30 c198t53 c198r28 c198t55 c198b56 c198t57 c198r31 c198t59 c198t60 c198t61 c198t62 c198t63 c198t64 c198 in
theorem names59 (t : Ty) (hn : t.narrow = true) (st : St) (h1 : TB t 1 st) (_hnx : 0 < st.nx) : awpK Tryz.prog 175 (pureEnd [.tmp 2] (.one (.t (I (if t.numsBad then 3 else 0))))) c198t59 [] st := by
  have hnr := (Ty.narrow_iff t).1 hn
  have hle := hnr.2.2.1
  obtain ⟨h1, h2⟩ := h1
  obtain ⟨o1, o2, o3, o4⟩ := objF h2
  have e0 : t.numsBad = (t.kind == 3 && t.fields.any fun f => !isNum f.num) := rfl
  rcases eqCases t.kind 3 with q | q
  · simp only [q, beq_self_eq_true, Bool.true_and] at e0
    obtain ⟨R, hR⟩ : ∃ R, (if t.numsBad then (3 : Int) else 0) = R := ⟨_, rfl⟩
    rw [hR]
    rw [e0] at hR
    simp -implicitDefEqProofs [-guardOk, -gval]
    refine loopAll t.fields (fun f => !isNum f.num) [1] [0] (fun i st => st.tmps 10 = .one (.t (I i))) (by simp [short]; omega) ⟨by simp, by simp, by simp []⟩ ?_ ?_
    · intro i f st' hi hiI hw' hg hy hany hx hk hh
      simp [h1] at hk hh
      obtain ⟨o1, o2, o3, o4⟩ := objF (hh.1.trans h2)
      have hd : (!isNum f.num) = !(decide (-1152921504606846976 ≤ f.num) && decide (f.num ≤ 1152921504606846976)) := rfl
      rw [hd] at hany
      obtain ⟨a, ea⟩ : ∃ x, (decide (-1152921504606846976 ≤ f.num) && decide (f.num ≤ 1152921504606846976)) = x := ⟨_, rfl⟩
      rw [ea] at hany hd
      simp -implicitDefEqProofs [-guardOk, -gval, h1, hx, hk, hi, hiI, o1, o2, o3, rowAtM hg, Fd.row_eq, -List.getElem_map, q]
      refine callK.tree (WithinP _ _ _) rfl ?_
      rw [ea]
      cases a
      · rw [hany rfl] at hR
        subst hR
        simp -implicitDefEqProofs [-guardOk, -gval, pureEnd]
      · simp -implicitDefEqProofs [-guardOk, -gval, hx, hk, hw']
        exact ⟨by simpa using hd, hh.1⟩
    · intro st' hany hx hk hh
      simp [h1] at hk hh
      obtain ⟨o1, o2, o3, o4⟩ := objF (hh.1.trans h2)
      rw [hany] at hR
      subst hR
      simp -implicitDefEqProofs [-guardOk, -gval, hk, hx, o1, o2, o3, pureEnd]
  · have : t.numsBad = false := by rw [e0, q.1]; rfl
    rw [this]
    simp -implicitDefEqProofs [-guardOk, -gval]
    refine loopAll ([] : List Fd) (fun f => !isNum f.num) [1] [0] (fun i st => st.tmps 10 = .one (.t (I i))) (by simp [short]) ⟨by simp, by simp, by simp []⟩ ?_ ?_
    · intro i f st' hi; simp at hi
    · intro st' hany hx hk hh
      simp [h1] at hk hh hx
      obtain ⟨o1, o2, o3, o4⟩ := objF (hh.1.trans h2)
      simp -implicitDefEqProofs [-guardOk, -gval, hk, hx, o1, o2, o3, q, pureEnd]
attribute [local simp] c198r0 c198r1 c198r2 c198t3 c198r3 c198r4 c198t6 c198r6 c198r7 c198t9 c198r5 c198t11 c198b12 c198t13 c198r8 c198r9 c198t16 c198r11 c198r12 c198t19 c198r14 c198r15 c198t22 c198r13 c198t24 c198b25 c198t26 c198r10 c198t28 c198b29 c198t30 c198r16 c198r17 c198r18 c198t34 c198r20 c198r21 c198r22 c198r23 c198t39 c198r24 c198t41 c198r25 c198t43 c198r19 c198t45 c198b46 c198t47 c198r26 c198r27 c198t50 c198r29 c198r30 c198t53 c198r28 c198t55 c198b56 c198t57 c198r31 c198t60 c198t61 c198t62 c198t63 c198t64 c198 in
theorem names60 (t : Ty) (hn : t.narrow = true) (hrt : 0 ≤ t.root ∧ t.root ≤ t.fields.length) (st : St) (h1 : TB t 1 st) (_hnx : 0 < st.nx) (h6 : st.tmps 6 = .one (.t (I 0))) (h7 : st.tmps 7 = .one (.t (I 0))) :
    awpK Tryz.prog 175 (pureEnd [.tmp 2] (.one (.t (I (if isGrp t.kind && !groupedR (t.fields.drop t.root.toNat) (0, 0) then 14 else if t.numsBad then 3 else 0))))) c198t60 [] st := by
  have rest := names59 t hn
  have hnr := (Ty.narrow_iff t).1 hn
  have hle := hnr.2.2.1
  obtain ⟨h1, h2⟩ := h1
  obtain ⟨o1, o2, o3, o4⟩ := objF h2
  generalize (if t.numsBad then (3 : Int) else 0) = R3 at *
  obtain ⟨r, hr⟩ : ∃ r : Nat, t.root = r := ⟨t.root.toNat, by omega⟩
  rw [hr, Int.toNat_natCast]
  have q235 := Q235 t.kind
  obtain ⟨g, eg⟩ : ∃ x, isGrp t.kind = x := ⟨_, rfl⟩
  rw [eg] at q235 ⊢
  cases g
  · simp -implicitDefEqProofs [-guardOk, -gval, h1, o1, o2, o3, hr]
    refine loopAll ([] : List Fd) (fun f => !isNum f.num) [1] [0] (fun i st => st.tmps 8 = .one (.t (I r))) (by simp [short]) ⟨by simp, by simp, by simp []⟩ ?_ ?_
    · intro i f st' hi; simp at hi
    · intro st' hany hx hk hh
      simp [h1] at hk hh hx
      obtain ⟨o1, o2, o3, o4⟩ := objF (hh.1.trans h2)
      obtain ⟨b, eb⟩ : ∃ x, decide ((r : Int) < (t.fields.length : Int)) = x := ⟨_, rfl⟩
      have eb' : decide (r < t.fields.length) = b := by rw [← eb]; congr 1; simp
      cases b
      · simp -implicitDefEqProofs [-guardOk, -gval, hk, hx, o1, o2, o3, eb']
        exact rest _ ⟨by simp [hk], by simp [hh, h2]⟩ (by simp <;> omega)
      · simp -implicitDefEqProofs [-guardOk, -gval, hk, hx, o1, o2, o3, eb']
        refine callK.tree q235 rfl ?_
        simp -implicitDefEqProofs [-guardOk, -gval]
        exact rest _ ⟨by simp [hk], by simp [hh, h2]⟩ (by simp <;> omega)
  · have hdl : (t.fields.drop r).length = t.fields.length - r := by simp
    obtain ⟨R, hR⟩ : ∃ R, (if (true && !groupedR (t.fields.drop r) (0, 0)) then (14 : Int) else R3) = R := ⟨_, rfl⟩
    rw [hR]
    simp -implicitDefEqProofs [-guardOk, -gval, h1, o1, o2, o3, hr]
    refine loopRec (t.fields.drop r) (fun _ l s => if (true && !groupedR l s) then (14 : Int) else R3) R (0, 0) [1] [0] (fun i s st => st.tmps 8 = .one (.t (I ((r + i : Nat) : Int))) ∧ st.tmps 6 = .one (.t (I s.1)) ∧ st.tmps 7 = .one (.t (I s.2))) (by simp [short]; omega) hR ⟨by simp [h6, h7], by simp, by simp []⟩ ?_ ?_
    · rintro i f ⟨last, before⟩ st' hi hiI hw hg hy hany ⟨hx, k6, k7⟩ hk hh
      simp [h1] at hk hh
      simp only [] at k6 k7
      obtain ⟨o1, o2, o3, o4⟩ := objF (hh.1.trans h2)
      rw [List.getElem?_drop] at hg
      have hri : r + i < t.fields.length := by omega
      have hriI : ((r + i : Nat) : Int) < (t.fields.length : Int) := by omega
      have hw2 : IntKind.i64.wrap (((r + i : Nat) : Int) + 1) = ((r + i + 1 : Nat) : Int) := by
        exact wrap_i64 (by omega) (by omega)
      obtain ⟨m, em⟩ : ∃ m, r + i = m := ⟨_, rfl⟩
      rw [em] at hg hri hriI hw2 hx
      simp -implicitDefEqProofs [-guardOk, -gval, hk, hx, o1, o2, o3, hriI]
      refine callK.tree q235 rfl ?_
      obtain ⟨a, ea⟩ : ∃ x, (f.grp == 0) = x := ⟨_, rfl⟩
      obtain ⟨b, eb⟩ : ∃ x, (f.grp == before) = x := ⟨_, rfl⟩
      obtain ⟨c, ec⟩ : ∃ x, (f.grp == IntKind.i64.wrap (last + 1)) = x := ⟨_, rfl⟩
      simp only [groupedR, bne, ea, eb, ec] at hany
      cases a <;> cases b <;> cases c
      all_goals simp -implicitDefEqProofs [-guardOk, -gval, hk, hx, k6, k7, o1, o2, o3, hri, hriI, rowAtM hg, Fd.row_eq, -List.getElem_map, bne, ea, eb, ec, hw2]
      all_goals first | (exact ⟨_, _, by simpa using hany, ⟨by omega, rfl, rfl⟩, h1.symm, hh.1⟩) | (simp -implicitDefEqProofs [-guardOk, -gval, pureEnd]; simpa using hany)
    · rintro ⟨last, before⟩ st' hany ⟨hx, k6, k7⟩ hk hh
      simp [h1] at hk hh
      obtain ⟨o1, o2, o3, o4⟩ := objF (hh.1.trans h2)
      have hm : ((r + (t.fields.length - r) : Nat) : Int) = t.fields.length := by omega
      rw [hdl, hm] at hx
      simp [groupedR] at hany
      rw [← hany]
      simp -implicitDefEqProofs [-guardOk, -gval, hk, hx, o1, o2, o3]
      exact rest _ ⟨by simp [hk], by simp [hh, h2]⟩ (by simp <;> omega)
def Ty.namesErr (t : Ty) : Int :=
  if (t.kind == 6 && !strType t.name) || (t.kind == 15 && !nameOk t.name) || (t.kind == 14 && !seqB t.name (bs []) && !nameOk t.name) then 7
  else if t.kind != 15 && t.fields.any (fun f => !nameOk f.name) then 7
  else if (isGrp t.kind || t.kind == 3) && (List.range t.fields.length).any (dupAt t.kind t.fields) then 13
  else if isGrp t.kind && !groupedR (t.fields.drop t.root.toNat) (0, 0) then 14 else if t.numsBad then 3 else 0
attribute [local simp] c198r0 c198r1 c198r2 c198t3 c198r3 c198r4 c198t6 c198r6 c198r7 c198t9 c198r5 c198t11 c198b12 c198t13 c198r8 c198r9 c198t16 c198r11 c198r12 c198t19 c198r14 c198r15 c198t22 c198r13 c198t24 c198b25 c198t26 c198r10 c198t28 c198b29 c198t30 c198r16 c198r17 c198r18 c198t34 c198r20 c198r21 c198r22 c198r23 c198t39 c198r24 c198t41 c198r25 c198t43 c198r19 c198t45 c198b46 c198t47 c198r26 c198r27 c198t50 c198r29 c198r30 c198t53 c198r28 c198t55 c198b56 c198t57 c198r31 c198t59 c198t61 c198t62 c198t63 c198t64 c198 in
theorem names62 (t : Ty) (hn : t.narrow = true) (hrt : 0 ≤ t.root ∧ t.root ≤ t.fields.length) (st : St) (h1 : TB t 1 st) (_hnx : 0 < st.nx) :
    awpK Tryz.prog 175 (pureEnd [.tmp 2] (.one (.t (I (if (isGrp t.kind || t.kind == 3) && (List.range t.fields.length).any (dupAt t.kind t.fields) then 13 else if isGrp t.kind && !groupedR (t.fields.drop t.root.toNat) (0, 0) then 14 else if t.numsBad then 3 else 0))))) c198t62 [] st := by
  have rest := names60 t hn hrt
  have hnr := (Ty.narrow_iff t).1 hn
  have hle := hnr.2.2.1
  obtain ⟨h1, h2⟩ := h1
  obtain ⟨o1, o2, o3, o4⟩ := objF h2
  generalize (if isGrp t.kind && !groupedR (t.fields.drop t.root.toNat) (0, 0) then 14 else if t.numsBad then (3 : Int) else 0) = R3 at *
  have q235 := Q235 t.kind
  obtain ⟨g, eg⟩ : ∃ x, isGrp t.kind = x := ⟨_, rfl⟩
  obtain ⟨w, ew⟩ : ∃ x, (t.kind == 3) = x := ⟨_, rfl⟩
  obtain ⟨u, eu⟩ : ∃ x, (g || w) = x := ⟨_, rfl⟩
  rw [eg] at q235 ⊢
  rw [ew, eu]
  cases u
  · simp -implicitDefEqProofs [-guardOk, -gval]
    refine loopAll ([] : List Fd) (fun f => !isNum f.num) [1] [0] (fun i st => st.tmps 4 = .one (.t (I 0))) (by simp [short]) ⟨by simp, by simp, by simp []⟩ ?_ ?_
    · intro i f st' hi; simp at hi
    · intro st' hany hx hk hh
      simp [h1] at hk hh hx
      obtain ⟨o1, o2, o3, o4⟩ := objF (hh.1.trans h2)
      obtain ⟨b, eb⟩ : ∃ x, decide (0 < t.fields.length) = x := ⟨_, rfl⟩
      cases b
      · simp -implicitDefEqProofs [-guardOk, -gval, hk, hx, o1, o2, o3, eb]
        exact rest _ ⟨by simp [hk], by simp [hh, h2]⟩ (by simp <;> omega) (by simp) (by simp)
      · simp -implicitDefEqProofs [-guardOk, -gval, hk, hx, o1, o2, o3, eb]
        refine callK.tree q235 rfl ?_
        simp -implicitDefEqProofs [-guardOk, -gval, hk, o1, o2, o3, ew, eu]
        exact rest _ ⟨by simp [hk], by simp [hh, h2]⟩ (by simp <;> omega) (by simp) (by simp)
  · obtain ⟨R, hR⟩ : ∃ R, (if (true && (List.range t.fields.length).any (dupAt t.kind t.fields)) then (13 : Int) else R3) = R := ⟨_, rfl⟩
    rw [hR]
    simp only [Bool.true_and] at hR
    simp -implicitDefEqProofs [-guardOk, -gval]
    refine loopAll (List.range t.fields.length) (dupAt t.kind t.fields) [1] [0] (fun i st => st.tmps 4 = .one (.t (I i))) (by simp [short]; omega) ⟨by simp, by simp, by simp []⟩ ?_ ?_
    · intro i y st' hi hiI hw hg hy hany hx hk hh
      obtain rfl := range_at hg
      simp [h1] at hk hh
      have hi' : y < t.fields.length := by simpa using hi
      have hiI' : (y : Int) < (t.fields.length : Int) := by omega
      have hf : t.fields[y]? = some t.fields[y] := List.getElem?_eq_getElem hi'
      have hd : dupAt t.kind t.fields y = (t.fields.take y).any (dup t.kind t.fields[y]) := by simp [dupAt, hf]
      rw [hd] at hany ⊢
      generalize t.fields[y] = f at *
      obtain ⟨o1, o2, o3, o4⟩ := objF (hh.1.trans h2)
      simp -implicitDefEqProofs [-guardOk, -gval, h1, hx, hk, hiI', o1, o2, o3, -List.getElem_map]
      refine callK.tree q235 rfl ?_
      simp -implicitDefEqProofs [-guardOk, -gval, hk, o1, o2, o3, ew, eu]
      have htl : (t.fields.take y).length = y := by simp; omega
      refine loopAll (t.fields.take y) (dup t.kind f) [1, 4] [0] (fun i st => st.tmps 5 = .one (.t (I i))) (by simp [short]; omega) ⟨by simp, by simp [hk, hx], by simp [hh]⟩ ?_ ?_
      · intro j f2 st2 hj hjI hw2 hg2 hy2 hany2 hx2 hk2 hh2
        simp [hk, hx] at hk2 hh2
        rw [htl] at hj hjI
        have hg3 : t.fields[j]? = some f2 := by rw [List.getElem?_take, if_pos hj] at hg2; exact hg2
        obtain ⟨o1, o2, o3, o4⟩ := objF (hh2.1.trans (hh.1.trans h2))
        have hjf : j < t.fields.length := by omega
        have hjfI : (j : Int) < (t.fields.length : Int) := by omega
        have hdd : dup t.kind f f2 = (f2.name.toList == f.name.toList || (w && f2.num == f.num)) := by rw [← ew]; rfl
        rw [hdd] at hany2 ⊢
        obtain ⟨a, ea⟩ : ∃ x, (f2.name.toList == f.name.toList) = x := ⟨_, rfl⟩
        obtain ⟨b, eb⟩ : ∃ x, (f2.num == f.num) = x := ⟨_, rfl⟩
        rw [ea, eb] at hany2 ⊢
        cases a <;> cases w <;> cases b
        all_goals simp -implicitDefEqProofs [-guardOk, -gval, hk2, hx2, hjI, hjf, hjfI, hi', hiI', rowAtM hf, rowAtM hg3, Fd.row_eq, o1, o2, o3, ea, eb, ew, hw2, -List.getElem_map]
        all_goals first | exact ⟨⟨hk.symm, hx.symm⟩, hh2.1⟩ | (rw [if_pos (hany (hany2 (by simp)))] at hR; subst hR; simp -implicitDefEqProofs [-guardOk, -gval, pureEnd])
      · intro st2 hany2 hx2 hk2 hh2
        simp [hk, hx] at hk2 hh2
        rw [htl] at hx2
        simp -implicitDefEqProofs [-guardOk, -gval, hk2, hx2, hw]
        exact ⟨by simpa using hany2, hh2.1.trans hh.1⟩
    · intro st' hany hx hk hh
      simp [h1] at hk hh
      simp only [List.length_range] at hx
      obtain ⟨o1, o2, o3, o4⟩ := objF (hh.1.trans h2)
      rw [hany] at hR
      subst hR
      simp -implicitDefEqProofs [-guardOk, -gval, hk, hx, o1, o2, o3]
      exact rest _ ⟨by simp [hk], by simp [hh, h2]⟩ (by simp <;> omega) (by simp) (by simp)
attribute [local simp] c198r0 c198r1 c198r2 c198t3 c198r3 c198r4 c198t6 c198r6 c198r7 c198t9 c198r5 c198t11 c198b12 c198t13 c198r8 c198r9 c198t16 c198r11 c198r12 c198t19 c198r14 c198r15 c198t22 c198r13 c198t24 c198b25 c198t26 c198r10 c198t28 c198b29 c198t30 c198r16 c198r17 c198r18 c198t34 c198r20 c198r21 c198r22 c198r23 c198t39 c198r24 c198t41 c198r25 c198t43 c198r19 c198t45 c198b46 c198t47 c198r26 c198r27 c198t50 c198r29 c198r30 c198t53 c198r28 c198t55 c198b56 c198t57 c198r31 c198t59 c198t60 c198t61 c198t63 c198t64 c198 in
theorem names63 (t : Ty) (hn : t.narrow = true) (hrt : 0 ≤ t.root ∧ t.root ≤ t.fields.length) (st : St) (h1 : TB t 1 st) (_hnx : 0 < st.nx) :
    awpK Tryz.prog 175 (pureEnd [.tmp 2] (.one (.t (I (if t.kind != 15 && t.fields.any (fun f => !nameOk f.name) then 7 else if (isGrp t.kind || t.kind == 3) && (List.range t.fields.length).any (dupAt t.kind t.fields) then 13 else if isGrp t.kind && !groupedR (t.fields.drop t.root.toNat) (0, 0) then 14 else if t.numsBad then 3 else 0))))) c198t63 [] st := by
  have rest := names62 t hn hrt
  have hnr := (Ty.narrow_iff t).1 hn
  have hle := hnr.2.2.1
  obtain ⟨h1, h2⟩ := h1
  obtain ⟨o1, o2, o3, o4⟩ := objF h2
  generalize (if (isGrp t.kind || t.kind == 3) && (List.range t.fields.length).any (dupAt t.kind t.fields) then 13 else if isGrp t.kind && !groupedR (t.fields.drop t.root.toNat) (0, 0) then 14 else if t.numsBad then (3 : Int) else 0) = R3 at *
  rcases eqCases t.kind 15 with q | q
  · have e : (if t.kind != 15 && t.fields.any (fun f => !nameOk f.name) then (7 : Int) else R3) = R3 := by simp [q]
    rw [e]
    simp -implicitDefEqProofs [-guardOk, -gval]
    refine loopAll ([] : List Fd) (fun f => !isNum f.num) [1] [0] (fun i st => st.tmps 3 = .one (.t (I 0))) (by simp [short]) ⟨by simp, by simp, by simp []⟩ ?_ ?_
    · intro i f st' hi; simp at hi
    · intro st' hany hx hk hh
      simp [h1] at hk hh hx
      obtain ⟨o1, o2, o3, o4⟩ := objF (hh.1.trans h2)
      simp -implicitDefEqProofs [-guardOk, -gval, hk, hx, o1, o2, o3, q]
      exact rest _ ⟨by simp [hk], by simp [hh, h2]⟩ (by simp <;> omega)
  · obtain ⟨R, hR⟩ : ∃ R, (if t.fields.any (fun f => !nameOk f.name) then (7 : Int) else R3) = R := ⟨_, rfl⟩
    have e : (if t.kind != 15 && t.fields.any (fun f => !nameOk f.name) then (7 : Int) else R3) = R := by rw [← hR, q.2.2.2.2.1]; rfl
    rw [e]
    simp -implicitDefEqProofs [-guardOk, -gval]
    refine loopAll t.fields (fun f => !nameOk f.name) [1] [0] (fun i st => st.tmps 3 = .one (.t (I i))) (by simp [short]; omega) ⟨by simp, by simp, by simp []⟩ ?_ ?_
    · intro i f st' hi hiI hw' hg hy hany hx hk hh
      simp [h1] at hk hh
      obtain ⟨o1, o2, o3, o4⟩ := objF (hh.1.trans h2)
      have hfn := ((Fd.narrow_iff _).1 (hnr.2.2.2.2.2.2.1 _ hy))
      simp -implicitDefEqProofs [-guardOk, -gval, h1, hx, hk, hi, hiI, o1, o2, o3, rowAtM hg, Fd.row_eq, -List.getElem_map, q]
      refine callK.tree (P205 f.name (by omega)) rfl ?_
      rcases bb (nameOk f.name) with z | z
      · simp -implicitDefEqProofs [-guardOk, -gval, z, hx, hk, hw']
        exact hh.1
      · rw [hany (by simp [z])] at hR
        subst hR
        simp -implicitDefEqProofs [-guardOk, -gval, z, pureEnd]
    · intro st' hany hx hk hh
      simp [h1] at hk hh
      obtain ⟨o1, o2, o3, o4⟩ := objF (hh.1.trans h2)
      rw [hany] at hR
      subst hR
      simp -implicitDefEqProofs [-guardOk, -gval, hk, hx, o1, o2, o3]
      exact rest _ ⟨by simp [hk], by simp [hh, h2]⟩ (by simp <;> omega)
attribute [local simp] c198r0 c198r1 c198r2 c198t3 c198r3 c198r4 c198t6 c198r6 c198r7 c198t9 c198r5 c198t11 c198b12 c198t13 c198r8 c198r9 c198t16 c198r11 c198r12 c198t19 c198r14 c198r15 c198t22 c198r13 c198t24 c198b25 c198t26 c198r10 c198t28 c198b29 c198t30 c198r16 c198r17 c198r18 c198t34 c198r20 c198r21 c198r22 c198r23 c198t39 c198r24 c198t41 c198r25 c198t43 c198r19 c198t45 c198b46 c198t47 c198r26 c198r27 c198t50 c198r29 c198r30 c198t53 c198r28 c198t55 c198b56 c198t57 c198r31 c198t59 c198t60 c198t61 c198t62 c198t64 c198 in
theorem P198 (t : Ty) (hn : t.narrow = true) (hrt : 0 ≤ t.root ∧ t.root ≤ t.fields.length) : PSp Tryz.prog 198 [.agg (tyC t)] (.one (.t (I t.namesErr))) := by
  have rest := names63 t hn hrt
  have hnr := (Ty.narrow_iff t).1 hn
  refine k198.pureK (by simp) (by simp [D.closed, A.closed]) rfl ?_
  have e0 : t.namesErr = if (t.kind == 6 && !strType t.name) || (t.kind == 15 && !nameOk t.name) || (t.kind == 14 && !seqB t.name (bs []) && !nameOk t.name) then 7
    else if t.kind != 15 && t.fields.any (fun f => !nameOk f.name) then 7
    else if (isGrp t.kind || t.kind == 3) && (List.range t.fields.length).any (dupAt t.kind t.fields) then 13
    else if isGrp t.kind && !groupedR (t.fields.drop t.root.toNat) (0, 0) then 14 else if t.numsBad then 3 else 0 := rfl
  rw [e0]
  generalize (if t.kind != 15 && t.fields.any (fun f => !nameOk f.name) then 7 else if (isGrp t.kind || t.kind == 3) && (List.range t.fields.length).any (dupAt t.kind t.fields) then 13 else if isGrp t.kind && !groupedR (t.fields.drop t.root.toNat) (0, 0) then 14 else if t.numsBad then (3 : Int) else 0) = R3 at *
  have p205 := P205 t.name (by omega)
  have p239 := P239 t.name
  rcases eqCases t.kind 6 with q6 | q6
  · simp -implicitDefEqProofs [-guardOk, -gval, q6]
    refine callK.tree p239 rfl ?_
    cases strType t.name
    · simp -implicitDefEqProofs [-guardOk, -gval, pureEnd]
    · simp -implicitDefEqProofs [-guardOk, -gval]
      exact rest _ ⟨by simp, by simp [Hp.set, q6]⟩ (by simp)
  · rcases eqCases t.kind 15 with q15 | q15
    · simp -implicitDefEqProofs [-guardOk, -gval, q15]
      refine callK.tree p205 rfl ?_
      cases nameOk t.name
      · simp -implicitDefEqProofs [-guardOk, -gval, pureEnd]
      · simp -implicitDefEqProofs [-guardOk, -gval]
        exact rest _ ⟨by simp, by simp [Hp.set, q15]⟩ (by simp)
    · rcases eqCases t.kind 14 with q14 | q14
      · obtain ⟨z, hz⟩ : ∃ z, (t.name.toList == (bs []).toList) = z := ⟨_, rfl⟩
        have hz' : seqB t.name (bs []) = z := hz
        rw [hz']
        cases z
        · simp -implicitDefEqProofs [-guardOk, -gval, q14, hz, bne]
          refine callK.tree p205 rfl ?_
          cases nameOk t.name
          · simp -implicitDefEqProofs [-guardOk, -gval, pureEnd]
          · simp -implicitDefEqProofs [-guardOk, -gval]
            exact rest _ ⟨by simp, by simp [Hp.set, q14]⟩ (by simp)
        · simp -implicitDefEqProofs [-guardOk, -gval, q14, hz, bne]
          exact rest _ ⟨by simp, by simp [Hp.set, q14]⟩ (by simp)
      · simp -implicitDefEqProofs [-guardOk, -gval, q6, q15, q14]
        exact rest _ ⟨by simp, by simp [Hp.set]⟩ (by simp)
end Go.Proofs.YtdpbobkcbakpfaaGreatDoor

namespace Go.Proofs.YtdpbobkcbakpfaaGreatDoor
open Go Go.Ab
set_option maxRecDepth 100000
set_option maxHeartbeats 4000000
attribute [local simp] tagsT fieldsT typesT nodesT valsT textsT intsT tyC fdC vlC ndC hset_hset D.isPt D.pt
def Ty.ownR (t : Ty) : Int := if t.rangeErr != 0 then t.rangeErr else if t.formBadR then 5 else if t.shapesBad then 6 else t.namesErr
theorem Ty.rangeErr_eq (t : Ty) : t.rangeErr = if !(decide (0 ≤ t.kind) && decide (t.kind ≤ 15)) then 4 else if 3 < t.tags.length ∨ 16 < t.fields.length ∨ t.kind = 15 ∧ 4 < t.fields.length then 2 else if t.rangesBad then 3 else 0 := by
  cases t; rfl
attribute [local simp] c153r0 c153r1 c153r2 c153t3 c153r3 c153r4 c153r5 c153t7 c153r6 c153r7 c153t10 c153r8 c153r9 c153t13 c153r10 c153r11 c153t16 c153r12 c153r13 c153t19 c153r14 c153t21 c153t22 c153t23 c153t24 c153t25 c153t26 c153t27 c153 in
theorem own23 (t : Ty) (hn : t.narrow = true) (R : Int) (hR : (if t.rangesBad then 3 else if t.formBadR then 5 else if t.shapesBad then 6 else t.namesErr) = R) (st : St) (h1 : TB t 1 st) (_hnx : 0 < st.nx) : awpK Tryz.prog 30 (pureEnd [.tmp 2] (.one (.t (I R)))) c153t23 [] st := by
  have hrt : t.rangesBad = false → 0 ≤ t.root ∧ t.root ≤ t.fields.length := fun h => by
    simp [Ty.rangesBad] at h; omega
  obtain ⟨h1, h2⟩ := h1
  obtain ⟨o1, o2, o3, o4⟩ := objF h2
  simp -implicitDefEqProofs [-guardOk, -gval, h1, o1, o2, o3]
  refine callK.tree (P195 t hn) rfl ?_
  rcases bb t.rangesBad with z | z
  · rw [z] at hR ⊢
    simp at hR; subst hR
    simp -implicitDefEqProofs [-guardOk, -gval, pureEnd]
  · have hrt := hrt z
    rw [z] at hR ⊢
    simp -implicitDefEqProofs [-guardOk, -gval, h1, o1, o2, o3]
    refine callK.tree (P196 t hn) rfl ?_
    rcases bb t.formBadR with y | y
    · rw [y] at hR ⊢
      simp at hR; subst hR
      simp -implicitDefEqProofs [-guardOk, -gval, pureEnd]
    · rw [y] at hR ⊢
      simp -implicitDefEqProofs [-guardOk, -gval, h1, o1, o2, o3]
      refine callK.tree (P197 t hn) rfl ?_
      rcases bb t.shapesBad with x | x
      · rw [x] at hR ⊢
        simp at hR; subst hR
        simp -implicitDefEqProofs [-guardOk, -gval, pureEnd]
      · rw [x] at hR ⊢
        simp -implicitDefEqProofs [-guardOk, -gval, h1, o1, o2, o3]
        refine callK.tree (P198 t hn hrt) rfl ?_
        simp at hR; subst hR
        simp -implicitDefEqProofs [-guardOk, -gval, pureEnd]
attribute [local simp] c153r0 c153r1 c153r2 c153t3 c153r3 c153r4 c153r5 c153t7 c153r6 c153r7 c153t10 c153r8 c153r9 c153t13 c153r10 c153r11 c153t16 c153r12 c153r13 c153t19 c153r14 c153t21 c153t22 c153t24 c153t25 c153t26 c153t27 c153 in
theorem P153 (t : Ty) (hn : t.narrow = true) : PSp Tryz.prog 153 [.agg (tyC t)] (.one (.t (I t.ownR))) := by
  have rest := own23 t hn
  obtain ⟨R, hR⟩ : ∃ R, t.ownR = R := ⟨_, rfl⟩
  rw [hR]
  rw [Ty.ownR, Ty.rangeErr_eq] at hR
  refine k153.pureK (by simp) (by simp [D.closed, A.closed]) rfl ?_
  simp -implicitDefEqProofs [-guardOk, -gval]
  refine callK.tree (WithinP _ _ _) rfl ?_
  obtain ⟨a, ea⟩ : ∃ x, (decide (0 ≤ t.kind) && decide (t.kind ≤ 15)) = x := ⟨_, rfl⟩
  rw [ea] at hR ⊢
  cases a
  · simp at hR; subst hR
    simp -implicitDefEqProofs [-guardOk, -gval, pureEnd]
  · simp only [Bool.not_true, Bool.false_eq_true, if_false] at hR
    rcases eqCases t.kind 15 with q | q
    · simp -implicitDefEqProofs [-guardOk, -gval, q]
      refine ⟨fun h => ?_, fun h h' => ?_⟩
      · have : 3 < t.tags.length ∨ 16 < t.fields.length ∨ t.kind = 15 ∧ 4 < t.fields.length := by omega
        simp only [if_pos this] at hR
        simp at hR; subst hR
        simp -implicitDefEqProofs [-guardOk, -gval, pureEnd]
      · have : ¬ (3 < t.tags.length ∨ 16 < t.fields.length ∨ t.kind = 15 ∧ 4 < t.fields.length) := by omega
        simp only [if_neg this] at hR
        exact rest R (by cases hz : t.rangesBad <;> simpa [hz] using hR) _ ⟨by simp, by simp [Hp.set, q]⟩ (by simp)
    · simp -implicitDefEqProofs [-guardOk, -gval, q]
      refine ⟨fun h => ?_, fun h h' => ?_⟩
      · have : 3 < t.tags.length ∨ 16 < t.fields.length ∨ t.kind = 15 ∧ 4 < t.fields.length := by omega
        simp only [if_pos this] at hR
        simp at hR; subst hR
        simp -implicitDefEqProofs [-guardOk, -gval, pureEnd]
      · have : ¬ (3 < t.tags.length ∨ 16 < t.fields.length ∨ t.kind = 15 ∧ 4 < t.fields.length) := by omega
        simp only [if_neg this] at hR
        exact rest R (by cases hz : t.rangesBad <;> simpa [hz] using hR) _ ⟨by simp, by simp [Hp.set]⟩ (by simp)
end Go.Proofs.YtdpbobkcbakpfaaGreatDoor

namespace Go.Proofs.YtdpbobkcbakpfaaGreatDoor
open Go Go.Ab
set_option maxRecDepth 100000
set_option maxHeartbeats 4000000
theorem grp_eq (root : Int) : ∀ (l : List Fd) (i : Nat) (last before : Int), (∀ f ∈ l, 0 ≤ f.grp) → root ≤ i → 0 ≤ last → last + l.length < 4611686018427387904 → (before = 0 ∨ before = last) → groupedF root i l (last, before) = groupedR l (last, before)
  | [], i, last, before, _, _, _, _, _ => by simp [groupedF, groupedR]
  | f :: r, i, last, before, hg, hi, h0, hl, hb => by
    have hf := hg f (by simp)
    have hg' : ∀ f ∈ r, 0 ≤ f.grp := fun x hx => hg x (by simp [hx])
    simp only [List.length_cons] at hl
    have hw : IntKind.i64.wrap (last + 1) = last + 1 := wrap_i64 (by omega) (by omega)
    simp only [groupedF, groupedR, hw]
    by_cases z : f.grp = 0
    · have h1 : ¬ last < 0 := by omega
      simp only [z, beq_self_eq_true, Bool.true_or, if_true, if_neg h1, bne_self_eq_false, Bool.false_and, Bool.false_eq_true, if_false]
      exact grp_eq root r (i + 1) last 0 hg' (by omega) h0 (by omega) (.inl rfl)
    · have zb : (f.grp == 0) = false := by simp [z]
      have zn : (f.grp != 0) = true := by simp [z]
      have hge : decide ((i : Int) ≥ root) = true := by simp; omega
      simp only [zb, zn, hge, Bool.false_or, Bool.true_and]
      by_cases e : f.grp = before
      · have hbl : before = last := by rcases hb with h | h <;> omega
        subst hbl
        have e1 : ¬ before < f.grp := by omega
        simp only [e, bne_self_eq_false, beq_self_eq_true, Bool.and_self, Bool.or_true, if_true, Bool.false_eq_true, if_false]
        rw [if_neg (by omega)]
        exact grp_eq root r (i + 1) before before hg' (by omega) h0 (by omega) (.inr rfl)
      · have en : (f.grp != before) = true := by simp [e]
        simp only [en, if_true]
        by_cases e2 : f.grp = last + 1
        · have q1 : (f.grp == last + 1) = true := by simp [e2]
          have q2 : (f.grp != last + 1) = false := by simp [e2]
          simp only [q1, q2, Bool.true_or, if_true, Bool.false_eq_true, if_false]
          rw [if_pos (by omega)]
          exact grp_eq root r (i + 1) f.grp f.grp hg' (by omega) (by omega) (by omega) (.inr rfl)
        · have q1 : (f.grp == last + 1) = false := by simp [e2]
          have q2 : (f.grp != last + 1) = true := by simp [e2]
          have q3 : (f.grp == last && before == last) = false := by
            rw [Bool.eq_false_iff]; simp; intro a b; exact e (a.trans b.symm)
          simp only [q1, q2, q3, Bool.or_self, Bool.false_eq_true, if_false, if_true]
theorem grp_pre (root : Int) : ∀ (a b : List Fd) (i : Nat), (∀ f ∈ a, f.grp = 0) → groupedF root i (a ++ b) (0, 0) = groupedF root (i + a.length) b (0, 0)
  | [], b, i, _ => by simp
  | f :: r, b, i, h => by
    have hf := h f (by simp)
    simp only [List.cons_append, groupedF, hf, beq_self_eq_true, Bool.true_or, if_true]
    rw [if_neg (by omega), grp_pre root r b (i + 1) (fun x hx => h x (by simp [hx]))]
    simp only [List.length_cons]
    congr 1; omega
theorem grouped_eq (t : Ty) (hl : t.fields.length ≤ 1000) (hr : 0 ≤ t.root ∧ t.root ≤ t.fields.length) (hg : ∀ f ∈ t.fields, 0 ≤ f.grp) (h0 : (t.fields.take t.root.toNat).any (fun f => f.grp != 0) = false) :
    groupedF t.root 0 t.fields (0, 0) = groupedR (t.fields.drop t.root.toNat) (0, 0) := by
  have h0' : ∀ f ∈ t.fields.take t.root.toNat, f.grp = 0 := fun f hf => by
    have := (List.any_eq_false.1 h0) f hf
    simpa using this
  have e : t.fields = t.fields.take t.root.toNat ++ t.fields.drop t.root.toNat := (List.take_append_drop _ _).symm
  have := grp_pre t.root (t.fields.take t.root.toNat) (t.fields.drop t.root.toNat) 0 h0'
  rw [← e] at this
  rw [this]
  refine grp_eq t.root _ _ 0 0 (fun f hf => hg f (List.mem_of_mem_drop hf)) ?_ (by omega) ?_ (.inl rfl)
  · simp; omega
  · simp; omega
def formKind (k : Int) : Bool := isGrp k || k == 3 || k == 14 || k == 15
theorem fd_bad (k root : Int) (i : Nat) (f : Fd) (hk : formKind k = true) : f.formBad k root i = (!f.fits k || (f.grp != 0 && decide ((i : Int) < root))) := by
  have hd : ((f.dflt.length : Int) == 0) = !decide (0 < f.dflt.length) := by rw [Bool.eq_iff_iff]; simp
  simp only [Fd.formBad, Fd.fits, Fd.alone, hd, isGrp]
  generalize decide (0 < f.dflt.length) = d
  generalize decide ((i : Int) < root) = w
  have h1 : k = 9 ∨ k = 10 ∨ k = 13 ∨ k = 3 ∨ k = 14 ∨ k = 15 := by
    simp [formKind, isGrp] at hk; omega
  by_cases p2 : f.pres = 2
  · rcases h1 with rfl | rfl | rfl | rfl | rfl | rfl <;> simp [p2, bne] <;> (try generalize (f.num == 0) = a) <;> (try generalize (f.grp == 0) = b) <;> (try generalize f.ty.isZ = c) <;> (try generalize seqB f.name (bs []) = e) <;> revert d w <;> (try revert a) <;> (try revert b) <;> (try revert c) <;> (try revert e) <;> decide
  · by_cases p0 : f.pres = 0
    · rcases h1 with rfl | rfl | rfl | rfl | rfl | rfl <;> simp [p0, bne] <;> (try generalize (f.num == 0) = a) <;> (try generalize (f.grp == 0) = b) <;> (try generalize f.ty.isZ = c) <;> (try generalize seqB f.name (bs []) = e) <;> revert d w <;> (try revert a) <;> (try revert b) <;> (try revert c) <;> (try revert e) <;> decide
    · have q2 : (f.pres == 2) = false := by simp [p2]
      have q0 : (f.pres == 0) = false := by simp [p0]
      rcases h1 with rfl | rfl | rfl | rfl | rfl | rfl <;> simp [q0, q2, bne] <;> (try generalize (f.num == 0) = a) <;> (try generalize (f.grp == 0) = b) <;> (try generalize f.ty.isZ = c) <;> (try generalize seqB f.name (bs []) = e) <;> revert d w <;> (try revert a) <;> (try revert b) <;> (try revert c) <;> (try revert e) <;> decide
theorem formAt_any (k root : Int) (l : List Fd) (hk : formKind k = true) (hr : 0 ≤ root) : (List.range l.length).any (formAt k root l) = (l.any (fun f => !f.fits k) || (l.take root.toNat).any fun f => f.grp != 0) := by
  rw [Bool.eq_iff_iff]
  simp only [Bool.or_eq_true, List.any_eq_true, List.mem_range]
  constructor
  · rintro ⟨i, hi, h⟩
    have q : l[i]? = some l[i] := List.getElem?_eq_getElem hi
    simp only [formAt, q, fd_bad k root i _ hk, Bool.or_eq_true, Bool.and_eq_true, decide_eq_true_eq] at h
    rcases h with h | ⟨h1, h2⟩
    · exact .inl ⟨_, List.getElem_mem hi, h⟩
    · refine .inr ⟨l[i], List.mem_of_getElem? (i := i) ?_, h1⟩
      rw [List.getElem?_take, if_pos (by omega), q]
  · rintro (⟨f, hf, h⟩ | ⟨f, hf, h⟩)
    · obtain ⟨i, hi, rfl⟩ := List.getElem_of_mem hf
      refine ⟨i, hi, ?_⟩
      have q : l[i]? = some l[i] := List.getElem?_eq_getElem hi
      simp only [formAt, q, fd_bad k root i _ hk, h, Bool.true_or]
    · obtain ⟨i, hi, rfl⟩ := List.getElem_of_mem hf
      simp only [List.length_take] at hi
      rw [List.getElem_take] at h
      refine ⟨i, by omega, ?_⟩
      have q : l[i]? = some l[i] := List.getElem?_eq_getElem (by omega)
      have hw : decide ((i : Int) < root) = true := by simp; omega
      simp only [formAt, q, fd_bad k root i _ hk, h, hw, Bool.and_self, Bool.or_true]
theorem form_eq (t : Ty) (hr : 0 ≤ t.root) : t.formBadR = t.formBad := by
  have hk : (isGrp t.kind || t.kind == 3 || t.kind == 14 || t.kind == 15) = formKind t.kind := rfl
  simp only [Ty.formBadR, Ty.formBad, Ty.badF]
  rcases bb (formKind t.kind) with h | h
  · rw [formAt_any _ _ _ h hr]
  · rcases Nat.eq_zero_or_pos t.fields.length with z | z
    · have : t.fields = [] := List.length_eq_zero_iff.1 z
      simp [this]
    · have hz : decide (0 < t.fields.length) = true := by simp [z]
      rw [hk, h]
      simp only [formBad1, hz, Bool.not_false, Bool.and_self, Bool.or_true, Bool.true_or]
theorem shapes_eq (t : Ty) : t.shapesBad = !t.inShape := by
  have hd : (t.fields.any fun f => f.pres == 2 && (f.dflt.length : Int) != 1) = t.fields.any Fd.dfltBad := rfl
  simp only [Ty.shapesBad, Ty.inShape, Ty.shape1, hd, isLst]
  generalize t.fields.any Fd.dfltBad = a
  generalize isTreeF t.limits = b
  generalize t.shape2 = c
  generalize ((t.kind == 11 || t.kind == 12) && (t.of.length : Int) != 1) = d
  rw [Bool.or_comm (t.kind == 13)]
  generalize ((t.kind == 3 || t.kind == 13) && decide (t.root < 1)) = e
  revert a b c d e; decide
theorem firstE_nil : firstE [] = 0 := rfl
theorem firstE_cons (x : Int) (l : List Int) : firstE (x :: l) = if x != 0 then x else firstE l := by
  simp only [firstE, List.findSome?_cons, ne0]
  by_cases h : (x != 0) = true
  · simp [h]
  · simp [h]
theorem names_eq (t : Ty) (hl : t.fields.length ≤ 1000) (hr : 0 ≤ t.root ∧ t.root ≤ t.fields.length) (hg : ∀ f ∈ t.fields, 0 ≤ f.grp) (hf : t.formBad = false) (hs : t.inShape = true) :
    t.namesErr = if t.partsErr1 != 0 then t.partsErr1 else t.partsErr2 := by
  have hb : t.badF = false := by
    simp only [Ty.formBad, Bool.or_eq_false_iff] at hf
    exact hf.2
  have h0 : (t.fields.take t.root.toNat).any (fun f => f.grp != 0) = false := by
    simp only [Ty.badF, Bool.or_eq_false_iff] at hb
    exact hb.2
  have he : formKind t.kind = false → t.fields = [] := fun h => by
    have hk : (isGrp t.kind || t.kind == 3 || t.kind == 14 || t.kind == 15) = formKind t.kind := rfl
    simp only [Ty.formBad, Bool.or_eq_false_iff, formBad1, hk, h] at hf
    simpa using hf.1.1.1.1.1.2
  have hgr := grouped_eq t hl hr hg h0
  simp only [Ty.partsErr1, Ty.partsErr2, hs, if_true, firstE_cons, firstE_nil, bne_self_eq_false, Bool.false_eq_true, if_false, hgr]
  simp only [Ty.namesErr, Ty.nameErr, Ty.doubleErr, Ty.numsBad]
  have isf : ∀ k : Int, k = t.kind → isGrp t.kind = isGrp k := fun k h => by rw [h]
  obtain ⟨A, hA⟩ : ∃ x, strType t.name = x := ⟨_, rfl⟩
  obtain ⟨B, hB⟩ : ∃ x, nameOk t.name = x := ⟨_, rfl⟩
  obtain ⟨C, hC⟩ : ∃ x, seqB t.name (bs []) = x := ⟨_, rfl⟩
  rcases bb (formKind t.kind) with h | h
  · obtain ⟨D', hD⟩ : ∃ x, (t.fields.any fun f => !nameOk f.name) = x := ⟨_, rfl⟩
    obtain ⟨E, hE⟩ : ∃ x, (List.range t.fields.length).any (dupAt t.kind t.fields) = x := ⟨_, rfl⟩
    obtain ⟨G, hG⟩ : ∃ x, groupedR (t.fields.drop t.root.toNat) (0, 0) = x := ⟨_, rfl⟩
    obtain ⟨H, hH⟩ : ∃ x, (t.fields.any fun f => !isNum f.num) = x := ⟨_, rfl⟩
    simp only [hA, hB, hC, hD, hE, hG, hH]
    have h1 : t.kind = 9 ∨ t.kind = 10 ∨ t.kind = 13 ∨ t.kind = 3 ∨ t.kind = 14 ∨ t.kind = 15 := by
      simp [formKind, isGrp] at h; omega
    rcases h1 with q | q | q | q | q | q
    all_goals
      simp only [q, isGrp]
      clear hA hB hC hD hE hG hH
      revert A B C D' E G H
      decide
  · have hf := he h
    have h1 : ¬ t.kind = 9 ∧ ¬ t.kind = 10 ∧ ¬ t.kind = 13 ∧ ¬ t.kind = 3 ∧ ¬ t.kind = 14 ∧ ¬ t.kind = 15 := by
      simp [formKind, isGrp] at h; omega
    have hgrp : isGrp t.kind = false := by simp [isGrp, h1]
    simp only [hf, hgrp, hA]
    by_cases q : t.kind = 6
    · cases A <;> simp [q]
    · simp [q, h1]
theorem range_fields (t : Ty) (h : t.rangeErr = 0) : t.fields.length ≤ 16 ∧ ∀ f ∈ t.fields, 0 ≤ f.grp ∧ 0 ≤ f.pres ∧ f.pres ≤ 2 := by
  rw [Ty.rangeErr_eq] at h
  split at h
  · cases h
  · split at h
    · cases h
    · rename_i h1
      split at h
      · cases h
      · rename_i h2
        refine ⟨by omega, fun f hf => ?_⟩
        have h3 : t.fields.any Fd.rangeBad = false := by
          have : t.rangesBad = false := by simpa using h2
          simp only [Ty.rangesBad, Bool.or_eq_false_iff] at this
          exact this.1.2
        have := List.any_eq_false.1 h3 f hf
        rw [Fd.rangeBad_eq] at this
        simp at this
        omega
theorem own_eq (t : Ty) : t.ownR = if t.rangeErr != 0 then t.rangeErr else t.partsErr := by
  rw [Ty.ownR]
  by_cases h : t.rangeErr = 0
  · have hr := range_root t h
    obtain ⟨hl, hg⟩ := range_fields t h
    have hb : (t.rangeErr != 0) = false := by simp [h]
    simp only [hb, Bool.false_eq_true, if_false, form_eq t hr.1, shapes_eq, Ty.partsErr]
    rcases bb t.formBad with x | x
    · simp only [x, if_true]
    · simp only [x, Bool.false_eq_true, if_false]
      rcases bb t.inShape with y | y
      · simp only [y, Bool.not_true, Bool.false_eq_true, if_false]
        exact names_eq t (by omega) hr (fun f hf => (hg f hf).1) x y
      · simp only [y, Bool.not_false, if_true, Ty.partsErr1, firstE_cons, Bool.false_eq_true, if_false]
        rfl
  · have hb : (t.rangeErr != 0) = true := by simp [h]
    simp only [hb, if_true]
end Go.Proofs.YtdpbobkcbakpfaaGreatDoor

namespace Go.Proofs.YtdpbobkcbakpfaaGreatDoor
open Go Go.Ab
set_option maxRecDepth 100000
set_option maxHeartbeats 4000000
attribute [local simp] tagsT fieldsT typesT nodesT valsT textsT intsT tyC fdC vlC ndC hset_hset D.isPt D.pt
theorem bytesLess_self : ∀ l : List UInt8, Op.bytesLess l l = false
  | [] => rfl
  | a :: r => by simp [Op.bytesLess, bytesLess_self r]
theorem cmp_bytes : ∀ a b : List UInt8, (if Op.bytesLess a b then (-1 : Int) else if !(Op.bytesLess a b || a == b) then 1 else 0) = Lib.compareBytes a b
  | [], [] => rfl
  | [], _ :: _ => rfl
  | _ :: _, [] => rfl
  | a :: r, b :: s => by
    have ih := cmp_bytes r s
    simp only [Op.bytesLess, Lib.compareBytes]
    by_cases h : a < b
    · simp [h]
    · by_cases h2 : b < a
      · have : ¬ a = b := fun e => by subst e; exact h h2
        simp [h, h2, this]
      · have : a = b := UInt8.le_antisymm (UInt8.not_lt.1 h2) (UInt8.not_lt.1 h)
        subst this
        simp only [h, decide_false, Bool.false_or, beq_self_eq_true, Bool.true_and, if_false]
        rw [← ih]
        have : ((a :: r) == (a :: s)) = (r == s) := by simp
        rw [this]
theorem cmpStr_eq (a b : ByteArray) : cmpStr a b = Lib.compareBytes a.data.toList b.data.toList := by
  rw [cmpStr, ByteArray.toList_eq, ByteArray.toList_eq]
  exact cmp_bytes _ _
def sg (b : Bool) : Int := if b then 1 else -1
theorem cmpStr_ne (a b : ByteArray) (h : (a.toList == b.toList) = false) : cmpStr a b = sg (!Op.bytesLess a.toList b.toList) := by
  simp only [cmpStr, h, Bool.or_false, sg]
  cases Op.bytesLess a.toList b.toList <;> rfl
theorem cmpStr_same (a b : ByteArray) (h : (a.toList == b.toList) = true) : cmpStr a b = 0 := by
  have e : a.toList = b.toList := by simpa using h
  simp only [cmpStr, e, bytesLess_self]
  simp
theorem cmpI_ne (a b : Int) (h : ¬ a = b) : cmpI a b = sg (decide (b < a)) := by
  simp only [cmpI, sg]
  by_cases h1 : a < b
  · have : ¬ b < a := by omega
    simp [h1, this]
  · have : b < a := by omega
    simp [h1, this]
theorem wA : IntKind.i64.wrap (IntKind.i64.wrap 0 - 1) = -1 := by decide
theorem wB : IntKind.i64.wrap (IntKind.i64.wrap 2 - 1) = 1 := by decide
theorem wC : IntKind.i64.wrap (1 : Int) = 1 := by decide
theorem wD : IntKind.i64.wrap (-1 : Int) = -1 := by decide
theorem wE : IntKind.i64.wrap (0 : Int) = 0 := by decide
def cmpInts : List Int → List Int → Int
  | [], [] => 0
  | [], _ :: _ => -1
  | _ :: _, [] => 1
  | x :: xs, y :: ys => if cmpI x y != 0 then cmpI x y else cmpInts xs ys
attribute [local simp] c138r0 c138r1 c138r2 c138t3 c138r4 c138r5 c138t6 c138r3 c138t8 c138b9 c138t10 c138r6 c138t12 c138 in
theorem P138 (a b : List Int) (ha : short a) (_hb : short b) : PSp Tryz.prog 138 [.one (.t (intsT a)), .one (.t (intsT b))] (.one (.t (I (cmpInts a b)))) := by
  refine k138.pureK (by simp) rfl rfl ?_
  simp -implicitDefEqProofs [-guardOk, -gval]
  refine loopRec a (fun i r (_ : Unit) => cmpInts r (b.drop i)) (cmpInts a b) () [0, 1] [] (fun i _ st => st.tmps 5 = .one (.t (I i)) ∧ i ≤ b.length) ha (by simp) ⟨by simp, by simp, by simp⟩ ?_ ?_
  · rintro i y _ st hi hiI hw hg hy hR ⟨hx, hib⟩ hk hh
    simp at hk
    generalize cmpInts a b = R at *
    rcases Nat.lt_or_ge i b.length with h | h
    · have hg2 : b[i]? = some b[i] := List.getElem?_eq_getElem h
      rw [List.drop_eq_getElem_cons h, cmpInts] at hR
      generalize b[i] = z at *
      have h'' : (i : Int) < (b.length : Int) := by omega
      rcases eqCases y z with e | e
      · subst e
        have e0 : cmpI y y = 0 := by simp [cmpI]
        rw [e0] at hR
        simp at hR
        simp -implicitDefEqProofs [-guardOk, -gval, hx, hk, hiI, hi, rowAtM hg, rowAtM hg2, h'', h, hw]
        exact ⟨hR, by omega⟩
      · have e0 := cmpI_ne y z e.2.1
        have e1 : (cmpI y z != 0) = true := by rw [e0]; cases decide (z < y) <;> rfl
        rw [e1, e0] at hR
        simp only [if_true] at hR
        simp -implicitDefEqProofs [-guardOk, -gval, hx, hk, hiI, hi, rowAtM hg, rowAtM hg2, h'', h, e]
        refine callK.treeD (P19 _) rfl ?_
        subst hR
        generalize decide (z < y) = q
        cases q
        · simp -implicitDefEqProofs [-guardOk, -gval, pureEnd, sg, wA]
        · simp -implicitDefEqProofs [-guardOk, -gval, pureEnd, sg, wB]
    · rw [List.drop_eq_nil_of_le h, cmpInts] at hR
      have h1 : ¬ (i : Int) < (b.length : Int) := by omega
      have h2 : b.length < a.length := by omega
      have h3 : ¬ a.length < b.length := by omega
      simp -implicitDefEqProofs [-guardOk, -gval, hx, hk, hiI, h1]
      refine callK.tree (P19 _) rfl ?_
      simp -implicitDefEqProofs [-guardOk, -gval, hk, h2, h3]
      refine callK.tree (P19 _) rfl ?_
      subst hR
      simp -implicitDefEqProofs [-guardOk, -gval, pureEnd, wC]
  · rintro _ st hR ⟨hx, hib⟩ hk hh
    simp at hk
    generalize cmpInts a b = R at *
    rcases Nat.lt_or_ge a.length b.length with h | h
    · rw [List.drop_eq_getElem_cons h, cmpInts] at hR
      have h3 : ¬ b.length < a.length := by omega
      simp -implicitDefEqProofs [-guardOk, -gval, hx, hk, h, h3]
      refine callK.tree (P19 _) rfl ?_
      simp -implicitDefEqProofs [-guardOk, -gval, hk, h]
      refine callK.tree (P19 _) rfl ?_
      subst hR
      simp -implicitDefEqProofs [-guardOk, -gval, pureEnd, wD]
    · rw [List.drop_eq_nil_of_le h, cmpInts] at hR
      have h' : ¬ a.length < b.length := by omega
      have h3 : ¬ b.length < a.length := by omega
      simp -implicitDefEqProofs [-guardOk, -gval, hx, hk, h', h3]
      refine callK.tree (P19 _) rfl ?_
      simp -implicitDefEqProofs [-guardOk, -gval, hk, h']
      refine callK.tree (P19 _) rfl ?_
      subst hR
      simp -implicitDefEqProofs [-guardOk, -gval, pureEnd, wE]
attribute [local simp] c139r0 c139r1 c139r2 c139t3 c139r4 c139r5 c139r6 c139t7 c139t8 c139r3 c139t10 c139b11 c139t12 c139r7 c139t14 c139 in
theorem P139 (a b : List Vl) (ha : short a) (_hb : short b) (IH : ∀ x ∈ a, ∀ y ∈ b, PSp Tryz.prog 100 [.agg (vlC x), .agg (vlC y)] (.one (.t (I (x.cmp y))))) : PSp Tryz.prog 139 [.one (.t (valsT a)), .one (.t (valsT b))] (.one (.t (I (cmpVals a b)))) := by
  refine k139.pureK (by simp) (by simp [D.closed, A.closed]) rfl ?_
  simp -implicitDefEqProofs [-guardOk, -gval]
  refine loopRec a (fun i r (_ : Unit) => cmpVals r (b.drop i)) (cmpVals a b) () [0, 1] [] (fun i _ st => st.tmps 5 = .one (.t (I i)) ∧ i ≤ b.length) ha (by simp) ⟨by simp, by simp, by simp⟩ ?_ ?_
  · rintro i y _ st hi hiI hw hg hy hR ⟨hx, hib⟩ hk hh
    simp at hk
    generalize cmpVals a b = R at *
    rcases Nat.lt_or_ge i b.length with h | h
    · have hg2 : b[i]? = some b[i] := List.getElem?_eq_getElem h
      have hz : b[i] ∈ b := List.getElem_mem h
      rw [List.drop_eq_getElem_cons h, cmpVals] at hR
      generalize b[i] = z at *
      have h'' : (i : Int) < (b.length : Int) := by omega
      simp -implicitDefEqProofs [-guardOk, -gval, hx, hk, hiI, hi, rowAtM hg, rowAtM hg2, h'', h, Vl.row_eq, -List.getElem_map]
      refine callK.treeD (IH y hy z hz) rfl ?_
      rcases eqCases (y.cmp z) 0 with e | e
      · rw [e] at hR ⊢
        simp at hR
        simp -implicitDefEqProofs [-guardOk, -gval, hx, hk, hw]
        exact ⟨hR, by omega⟩
      · simp -implicitDefEqProofs [-guardOk, -gval, e, pureEnd]
        simpa [e] using hR
    · rw [List.drop_eq_nil_of_le h, cmpVals] at hR
      have h1 : ¬ (i : Int) < (b.length : Int) := by omega
      have h2 : b.length < a.length := by omega
      have h3 : ¬ a.length < b.length := by omega
      simp -implicitDefEqProofs [-guardOk, -gval, hx, hk, hiI, h1]
      refine callK.tree (P19 _) rfl ?_
      simp -implicitDefEqProofs [-guardOk, -gval, hk, h2, h3]
      refine callK.tree (P19 _) rfl ?_
      subst hR
      simp -implicitDefEqProofs [-guardOk, -gval, pureEnd, wC]
  · rintro _ st hR ⟨hx, hib⟩ hk hh
    simp at hk
    generalize cmpVals a b = R at *
    rcases Nat.lt_or_ge a.length b.length with h | h
    · rw [List.drop_eq_getElem_cons h, cmpVals] at hR
      have h3 : ¬ b.length < a.length := by omega
      simp -implicitDefEqProofs [-guardOk, -gval, hx, hk, h, h3]
      refine callK.tree (P19 _) rfl ?_
      simp -implicitDefEqProofs [-guardOk, -gval, hk, h]
      refine callK.tree (P19 _) rfl ?_
      subst hR
      simp -implicitDefEqProofs [-guardOk, -gval, pureEnd, wD]
    · rw [List.drop_eq_nil_of_le h, cmpVals] at hR
      have h' : ¬ a.length < b.length := by omega
      have h3 : ¬ b.length < a.length := by omega
      simp -implicitDefEqProofs [-guardOk, -gval, hx, hk, h', h3]
      refine callK.tree (P19 _) rfl ?_
      simp -implicitDefEqProofs [-guardOk, -gval, hk, h']
      refine callK.tree (P19 _) rfl ?_
      subst hR
      simp -implicitDefEqProofs [-guardOk, -gval, pureEnd, wE]
def VB2 (a b : Vl) (st : St) : Prop := st.tmps 2 = .one (.ptr ⟨0, 0, 6, 0, 0⟩) ∧ st.tmps 3 = .one (.ptr ⟨1, 0, 6, 0, 0⟩) ∧ st.heap 0 = some (.arr 0 false 6 [vlC a]) ∧ st.heap 1 = some (.arr 0 false 6 [vlC b])
attribute [local simp] c100r0 c100r1 c100r2 c100r3 c100t4 c100t5 c100r4 c100r5 c100t8 c100r6 c100r7 c100t11 c100r9 c100r10 c100t14 c100r8 c100t16 c100b17 c100t18 c100r11 c100r12 c100t21 c100r13 c100t23 c100t24 c100t25 c100t26 c100 in
theorem cmp23 (a b : Vl) (p139 : PSp Tryz.prog 139 [.one (.t (valsT a.items)), .one (.t (valsT b.items))] (.one (.t (I (cmpVals a.items b.items))))) (R : Int) (st : St) (h1 : VB2 a b st)
    (hR : (if a.names.length = b.names.length then cmpVals a.items b.items else sg (decide (b.names.length < a.names.length))) = R) :
    awpK Tryz.prog 99 (pureEnd [.tmp 4] (.one (.t (I R)))) c100t23 [] st := by
  obtain ⟨h1, h2, h3, h4⟩ := h1
  obtain ⟨o1, o2, o3, o4⟩ := objF h3
  obtain ⟨p1, p2, p3, p4⟩ := objF h4
  rcases eqCases (a.names.length : Int) (b.names.length : Int) with e | e
  · have e' : a.names.length = b.names.length := by omega
    rw [if_pos e'] at hR
    subst hR
    simp -implicitDefEqProofs [-guardOk, -gval, h1, h2, o1, o2, o3, p1, p2, p3, e']
    refine callK.tree p139 rfl ?_
    simp -implicitDefEqProofs [-guardOk, -gval, pureEnd]
  · have e' : ¬ a.names.length = b.names.length := by omega
    rw [if_neg e'] at hR
    simp -implicitDefEqProofs [-guardOk, -gval, h1, h2, o1, o2, o3, p1, p2, p3, e]
    refine callK.tree (P19 _) rfl ?_
    generalize decide (b.names.length < a.names.length) = q at *
    subst hR
    cases q
    · simp -implicitDefEqProofs [-guardOk, -gval, pureEnd, sg, wA]
    · simp -implicitDefEqProofs [-guardOk, -gval, pureEnd, sg, wB]
attribute [local simp] c100r0 c100r1 c100r2 c100r3 c100t4 c100t5 c100r4 c100r5 c100t8 c100r6 c100r7 c100t11 c100r9 c100r10 c100t14 c100r8 c100t16 c100b17 c100t18 c100r11 c100r12 c100t21 c100r13 c100t24 c100t25 c100t26 c100 in
theorem cmp24 (a b : Vl) (ha : short a.names) (_hb : short b.names) (p139 : PSp Tryz.prog 139 [.one (.t (valsT a.items)), .one (.t (valsT b.items))] (.one (.t (I (cmpVals a.items b.items))))) (R : Int) (st : St) (h1 : VB2 a b st) (hnx : 1 < st.nx)
    (hR : (if cmpTexts a.names b.names != 0 then cmpTexts a.names b.names else cmpVals a.items b.items) = R) :
    awpK Tryz.prog 99 (pureEnd [.tmp 4] (.one (.t (I R)))) c100t24 [] st := by
  have rest := cmp23 a b p139 R
  generalize cmpVals a.items b.items = V at *
  obtain ⟨h1, h2, h3, h4⟩ := h1
  simp -implicitDefEqProofs [-guardOk, -gval]
  refine loopRec a.names (fun i r (_ : Unit) => if cmpTexts r (b.names.drop i) != 0 then cmpTexts r (b.names.drop i) else V) R () [2, 3] [0, 1] (fun i _ st => st.tmps 6 = .one (.t (I i)) ∧ i ≤ b.names.length) ha (by simpa using hR) ⟨by simp, by simp, by simp; omega⟩ ?_ ?_
  · rintro i y _ st' hi hiI hw hg hy hR ⟨hx, hib⟩ hk hh
    simp [h1, h2] at hk hh
    have q0 := hh.1.1.trans h3
    have q1 := hh.2.1.trans h4
    obtain ⟨o1, o2, o3, o4⟩ := objF q0
    obtain ⟨p1, p2, p3, p4⟩ := objF q1
    rcases Nat.lt_or_ge i b.names.length with h | h
    · have hg2 : b.names[i]? = some b.names[i] := List.getElem?_eq_getElem h
      rw [List.drop_eq_getElem_cons h, cmpTexts] at hR
      generalize b.names[i] = z at *
      have h'' : (i : Int) < (b.names.length : Int) := by omega
      obtain ⟨w, hw2⟩ : ∃ w, (y.toList == z.toList) = w := ⟨_, rfl⟩
      cases w
      · have e0 := cmpStr_ne y z hw2
        have e1 : (cmpStr y z != 0) = true := by rw [e0]; cases Op.bytesLess y.toList z.toList <;> rfl
        simp only [e0] at hR
        have e2 : (sg (!Op.bytesLess y.toList z.toList) != 0) = true := by cases Op.bytesLess y.toList z.toList <;> rfl
        simp only [e2, if_true] at hR
        simp -implicitDefEqProofs [-guardOk, -gval, hx, hk, hiI, hi, rowAtM hg, rowAtM hg2, h'', h, o1, o2, o3, p1, p2, p3, hw2, bne]
        refine callK.treeD (P19 _) rfl ?_
        subst hR
        generalize Op.bytesLess y.toList z.toList = q
        cases q
        · simp -implicitDefEqProofs [-guardOk, -gval, pureEnd, sg, wB]
        · simp -implicitDefEqProofs [-guardOk, -gval, pureEnd, sg, wA]
      · have e0 := cmpStr_same y z hw2
        simp only [e0, bne_self_eq_false, Bool.false_eq_true, if_false] at hR
        simp -implicitDefEqProofs [-guardOk, -gval, hx, hk, hiI, hi, rowAtM hg, rowAtM hg2, h'', h, hw, o1, o2, o3, p1, p2, p3, hw2, bne]
        exact ⟨by simpa using hR, by omega, ⟨h1.symm, h2.symm⟩, hh.1.1, hh.2.1⟩
    · rw [List.drop_eq_nil_of_le h, cmpTexts] at hR
      have h1 : ¬ (i : Int) < (b.names.length : Int) := by omega
      simp -implicitDefEqProofs [-guardOk, -gval, hx, hk, hiI, h1, o1, o2, o3, p1, p2, p3]
      refine rest _ ⟨by simp [hk], by simp [hk], by simp [q0], by simp [q1]⟩ ?_
      rw [if_neg (by omega)]
      have : decide (b.names.length < a.names.length) = true := by simp; omega
      rw [this]
      simpa [sg] using hR
  · rintro _ st' hR ⟨hx, hib⟩ hk hh
    simp [h1, h2] at hk hh
    have q0 := hh.1.1.trans h3
    have q1 := hh.2.1.trans h4
    obtain ⟨o1, o2, o3, o4⟩ := objF q0
    obtain ⟨p1, p2, p3, p4⟩ := objF q1
    rcases Nat.lt_or_ge a.names.length b.names.length with h | h
    · rw [List.drop_eq_getElem_cons h, cmpTexts] at hR
      simp -implicitDefEqProofs [-guardOk, -gval, hx, hk, o1, o2, o3, p1, p2, p3]
      refine rest _ ⟨by simp [hk], by simp [hk], by simp [q0], by simp [q1]⟩ ?_
      rw [if_neg (by omega)]
      have : decide (b.names.length < a.names.length) = false := by simp; omega
      rw [this]
      simpa [sg] using hR
    · rw [List.drop_eq_nil_of_le h, cmpTexts] at hR
      simp -implicitDefEqProofs [-guardOk, -gval, hx, hk, o1, o2, o3, p1, p2, p3]
      refine rest _ ⟨by simp [hk], by simp [hk], by simp [q0], by simp [q1]⟩ ?_
      rw [if_pos (by omega)]
      simpa using hR
attribute [local simp] c100r0 c100r1 c100r2 c100r3 c100t4 c100t5 c100r4 c100r5 c100t8 c100r6 c100r7 c100t11 c100r9 c100r10 c100t14 c100r8 c100t16 c100b17 c100t18 c100r11 c100r12 c100t21 c100r13 c100t23 c100t25 c100t26 c100 in
theorem cmp25 (a b : Vl) (ha : short a.names) (hb : short b.names) (p139 : PSp Tryz.prog 139 [.one (.t (valsT a.items)), .one (.t (valsT b.items))] (.one (.t (I (cmpVals a.items b.items))))) (R : Int) (st : St) (h1 : VB2 a b st) (_hnx : 1 < st.nx)
    (hR : (if cmpStr a.s b.s != 0 then cmpStr a.s b.s else if cmpTexts a.names b.names != 0 then cmpTexts a.names b.names else cmpVals a.items b.items) = R) :
    awpK Tryz.prog 99 (pureEnd [.tmp 4] (.one (.t (I R)))) c100t25 [] st := by
  have rest := cmp24 a b ha hb p139 R
  generalize (if cmpTexts a.names b.names != 0 then cmpTexts a.names b.names else cmpVals a.items b.items) = V at *
  obtain ⟨h1, h2, h3, h4⟩ := h1
  obtain ⟨o1, o2, o3, o4⟩ := objF h3
  obtain ⟨p1, p2, p3, p4⟩ := objF h4
  obtain ⟨w, hw2⟩ : ∃ w, (a.s.toList == b.s.toList) = w := ⟨_, rfl⟩
  cases w
  · have e0 := cmpStr_ne a.s b.s hw2
    have e1 : (cmpStr a.s b.s != 0) = true := by rw [e0]; cases Op.bytesLess a.s.toList b.s.toList <;> rfl
    simp only [e0] at hR
    have e2 : (sg (!Op.bytesLess a.s.toList b.s.toList) != 0) = true := by cases Op.bytesLess a.s.toList b.s.toList <;> rfl
    simp only [e2, if_true] at hR
    simp -implicitDefEqProofs [-guardOk, -gval, h1, h2, o1, o2, o3, p1, p2, p3, hw2]
    refine callK.tree (P19 _) rfl ?_
    subst hR
    generalize Op.bytesLess a.s.toList b.s.toList = q
    cases q
    · simp -implicitDefEqProofs [-guardOk, -gval, pureEnd, sg, wB]
    · simp -implicitDefEqProofs [-guardOk, -gval, pureEnd, sg, wA]
  · have e0 := cmpStr_same a.s b.s hw2
    simp only [e0, bne_self_eq_false, Bool.false_eq_true, if_false] at hR
    simp -implicitDefEqProofs [-guardOk, -gval, h1, h2, o1, o2, o3, p1, p2, p3, hw2]
    exact rest _ ⟨by simp [h1], by simp [h2], by simp [h3], by simp [h4]⟩ (by simp <;> omega) hR
theorem Vl.cmp_eq2 (a b : Vl) : a.cmp b = if cmpInts [a.kind, a.n, a.e] [b.kind, b.n, b.e] != 0 then cmpInts [a.kind, a.n, a.e] [b.kind, b.n, b.e] else if cmpStr a.s b.s != 0 then cmpStr a.s b.s else if cmpTexts a.names b.names != 0 then cmpTexts a.names b.names else cmpVals a.items b.items := by
  rw [Vl.cmp_eq]
  simp only [firstE_cons, firstE_nil, cmpInts, cmpStr_eq]
  generalize cmpI a.kind b.kind = x
  generalize cmpI a.n b.n = y
  generalize cmpI a.e b.e = z
  generalize cmpVals a.items b.items = v
  generalize cmpTexts a.names b.names = u
  generalize Lib.compareBytes a.s.data.toList b.s.data.toList = w
  by_cases h1 : x = 0 <;> by_cases h2 : y = 0 <;> by_cases h3 : z = 0 <;> by_cases h4 : w = 0 <;> by_cases h5 : u = 0 <;> by_cases h6 : v = 0 <;> simp [h1, h2, h3, h4, h5, h6]
attribute [local simp] c100r0 c100r1 c100r2 c100r3 c100t4 c100t5 c100r4 c100r5 c100t8 c100r6 c100r7 c100t11 c100r9 c100r10 c100t14 c100r8 c100t16 c100b17 c100t18 c100r11 c100r12 c100t21 c100r13 c100t23 c100t24 c100t26 c100 in
theorem step100 (a b : Vl) (ha : a.fine) (hb : b.fine) (IH : ∀ x ∈ a.items, ∀ y ∈ b.items, PSp Tryz.prog 100 [.agg (vlC x), .agg (vlC y)] (.one (.t (I (x.cmp y))))) : PSp Tryz.prog 100 [.agg (vlC a), .agg (vlC b)] (.one (.t (I (a.cmp b)))) := by
  rw [Vl.fine_iff] at ha hb
  have p139 := P139 a.items b.items ha.2.2.2.1 hb.2.2.2.1 IH
  have rest := cmp25 a b ha.2.1 hb.2.1 p139
  refine k100.pureK (by simp) (by simp [D.closed, A.closed]) rfl ?_
  obtain ⟨R, hR⟩ : ∃ R, a.cmp b = R := ⟨_, rfl⟩
  rw [hR]
  rw [Vl.cmp_eq2] at hR
  simp -implicitDefEqProofs [-guardOk, -gval]
  refine callK.pure (P138 [a.kind, a.n, a.e] [b.kind, b.n, b.e] (by simp [short]) (by simp [short])) (by simp) (by simp) ?_
  rcases eqCases (cmpInts [a.kind, a.n, a.e] [b.kind, b.n, b.e]) 0 with e | e
  · simp only [e, bne_self_eq_false, Bool.false_eq_true, if_false] at hR
    rw [e]
    simp -implicitDefEqProofs [-guardOk, -gval]
    refine rest R _ ?_ ?_ hR
    · exact ⟨by simp, by simp, by simp [Hp.set], by simp [Hp.set]⟩
    · simp
  · rw [e.2.2.2.2.1] at hR
    simp only [if_true] at hR
    simp -implicitDefEqProofs [-guardOk, -gval, e, pureEnd]
    exact hR
theorem P100 : ∀ a : Vl, a.fine → ∀ b : Vl, b.fine → PSp Tryz.prog 100 [.agg (vlC a), .agg (vlC b)] (.one (.t (I (a.cmp b)))) := by
  refine Vl.ind fun a IH ha b hb => step100 a b ha hb fun x hx y hy => ?_
  rw [Vl.fine_iff] at ha hb
  exact IH x hx (ha.2.2.2.2 x hx) y (hb.2.2.2.2 y hy)
end Go.Proofs.YtdpbobkcbakpfaaGreatDoor

namespace Go.Proofs.YtdpbobkcbakpfaaGreatDoor
open Go Go.Ab
set_option maxRecDepth 100000
set_option maxHeartbeats 4000000
attribute [local simp] tagsT fieldsT typesT nodesT valsT textsT intsT tyC fdC vlC ndC hset_hset D.isPt D.pt
attribute [local simp] c200r0 c200r1 c200 in
theorem P200 (k : Int) : PSp Tryz.prog 200 [.one (.t (I k))] (.one (.t (.bool (hasS k)))) := by
  refine k200.pureK (by simp) rfl rfl ?_
  simp -implicitDefEqProofs [-guardOk, -gval]
  refine callK.pure (P46 [3, 4, 5, 6, 13] k (by simp [short])) (by simp) (by simp [ints]) ?_
  simp -implicitDefEqProofs [-guardOk, -gval, pureEnd]
  rw [Bool.eq_iff_iff]; simp [hasS]; omega
attribute [local simp] c202r0 c202r1 c202 in
theorem P202 (k : Int) : PSp Tryz.prog 202 [.one (.t (I k))] (.one (.t (.bool (hasIt k)))) := by
  refine k202.pureK (by simp) rfl rfl ?_
  simp -implicitDefEqProofs [-guardOk, -gval]
  refine callK.pure (P46 [7, 9, 10, 11, 12, 13] k (by simp [short])) (by simp) (by simp [ints]) ?_
  simp -implicitDefEqProofs [-guardOk, -gval, pureEnd]
  rw [Bool.eq_iff_iff]; simp [hasIt]; omega
theorem oddB (n : Int) : (IntKind.i64.wrap ((((n % 2 ^ IntKind.i64.bits).toNat &&& 1 % 2 ^ IntKind.i64.bits) : Nat) : Int) == 1) = !(n.tmod 2 == 0) := by
  have hb : IntKind.i64.bits = 64 := rfl
  rw [hb]
  have h1 : (1 % 2 ^ 64 : Nat) = 1 := by decide
  rw [h1, Nat.and_one_is_mod]
  have h2 : ((((n % 2 ^ 64).toNat % 2) : Nat) : Int) = n % 2 := by omega
  rw [h2]
  have h3 : IntKind.i64.wrap (n % 2) = n % 2 := wrap_i64 (by omega) (by omega)
  rw [h3, Bool.eq_iff_iff]
  have h4 : n.tmod 2 = 0 ↔ n % 2 = 0 := by
    rw [← Int.dvd_iff_tmod_eq_zero, ← Int.dvd_iff_emod_eq_zero]
  simp
  omega
attribute [local simp] c203r0 c203r1 c203r2 c203r3 c203r4 c203r5 c203r6 c203r7 c203r8 c203r9 c203r10 c203r11 c203t12 c203r13 c203r14 c203t15 c203r15 c203r16 c203r17 c203r18 c203t20 c203t21 c203t22 c203t23 c203t24 c203r12 c203t26 c203b27 c203t28 c203t29 c203t30 c203t31 c203t32 c203t33 c203r19 c203t35 c203 in
theorem num33 (v : Vl) (hl : short v.items) (st : St) (h1 : VB v 1 st) (h9 : st.tmps 9 = .one (.t (I v.kind))) (h2 : st.tmps 2 = .one (.t (.bool false))) (_hnx : 0 < st.nx) : awpK Tryz.prog 117 (pureEnd [.tmp 2] (.one (.t (.bool (!v.inRange))))) c203t33 [.thn (.seq (.region 19 false 10 c203r19) .ret)] st := by
  obtain ⟨h1, h2⟩ := h1
  obtain ⟨o1, o2, o3, o4⟩ := objF h2
  rcases eqCases v.kind 1 with q1 | q1
  · simp -implicitDefEqProofs [-guardOk, -gval, h1, h9, o1, o2, o3, q1]
    refine callK.tree (WithinP _ _ _) rfl ?_
    simp -implicitDefEqProofs [-guardOk, -gval, pureEnd, Vl.inRange, q1]
  · rcases eqCases v.kind 14 with q14 | q14
    · simp -implicitDefEqProofs [-guardOk, -gval, h1, h9, o1, o2, o3, q14]
      refine callK.tree (WithinP _ _ _) rfl ?_
      simp -implicitDefEqProofs [-guardOk, -gval, pureEnd, Vl.inRange, q14]
    · rcases eqCases v.kind 8 with q8 | q8
      · obtain ⟨a, ea⟩ : ∃ a, (v.n == 0) = a := ⟨_, rfl⟩
        obtain ⟨b, eb⟩ : ∃ a, (v.e == 0) = a := ⟨_, rfl⟩
        obtain ⟨c, ec⟩ : ∃ a, isNum v.n = a := ⟨_, rfl⟩
        obtain ⟨d, ed⟩ : ∃ a, (v.n.tmod 2 == 0) = a := ⟨_, rfl⟩
        obtain ⟨e, ee⟩ : ∃ a, (decide (-1000 ≤ v.e) && decide (v.e ≤ 1000)) = a := ⟨_, rfl⟩
        have hR : v.inRange = ((a && b) || (c && !d && e)) := by
          simp only [Vl.inRange, q8, ea, eb, ec, bne, ed, ee]; rfl
        rw [hR]
        have hz : a = true → c = true := fun h => by
          rw [← ec]; have h0 : v.n = 0 := by rw [← ea] at h; simpa using h
          rw [h0]; decide
        have od := oddB v.n
        rw [ed] at od
        have p37 : PSp Tryz.prog 37 [.one (.t (I v.n)), .one (.t (I (-1152921504606846976))), .one (.t (I 1152921504606846976))] (.one (.t (.bool c))) := by
          rw [← ec]; exact WithinP _ _ _
        cases d
        · simp only [Bool.not_false] at od
          have od' := of_decide_eq_true (p := IntKind.i64.wrap ((((v.n % 2 ^ IntKind.i64.bits).toNat &&& 1 % 2 ^ IntKind.i64.bits) : Nat) : Int) = 1) (by simpa using od)
          simp -implicitDefEqProofs [-guardOk, -gval, h1, h9, o1, o2, o3, q8, od']
          refine callK.tree (WithinP _ _ _) rfl ?_
          rw [ee]
          simp -implicitDefEqProofs [-guardOk, -gval, h1, o1, o2, o3]
          refine callK.tree p37 rfl ?_
          cases c <;> cases a <;> cases b <;> cases e
          all_goals first | exact absurd (hz rfl) (by decide) | simp -implicitDefEqProofs [-guardOk, -gval, h1, o1, o2, o3, ea, eb, bne, pureEnd]
        · simp only [Bool.not_true] at od
          have od' : ¬ IntKind.i64.wrap ((((v.n % 2 ^ IntKind.i64.bits).toNat &&& 1 % 2 ^ IntKind.i64.bits) : Nat) : Int) = 1 := by simpa using od
          simp -implicitDefEqProofs [-guardOk, -gval, h1, h9, o1, o2, o3, q8, od]
          refine callK.tree p37 rfl ?_
          cases c <;> cases a <;> cases b
          all_goals first | exact absurd (hz rfl) (by decide) | simp -implicitDefEqProofs [-guardOk, -gval, h1, o1, o2, o3, ea, eb, bne, pureEnd]
      · rcases eqCases v.kind 7 with q7 | q7
        · have hR : v.inRange = isOid v.items := by simp only [Vl.inRange, q7]; rfl
          rw [hR]
          simp -implicitDefEqProofs [-guardOk, -gval, h9, q7]
          refine loopAll (List.range v.items.length) (oidBadAt v.items) [1] [0] (fun i st => st.tmps 4 = .one (.t (I i)) ∧ st.tmps 2 = .one (.t (.bool false))) (by simpa [short] using hl) ⟨by simp [*], by simp, by simp []⟩ ?_ ?_
          · rintro i y st' hi hiI hw hg hy hany ⟨hx, hx2⟩ hk hh
            obtain rfl := range_at hg
            simp [h1] at hk hh
            simp at hi
            obtain ⟨o1, o2, o3, o4⟩ := objF (hh.1.trans h2)
            have hi' : (y : Int) < (v.items.length : Int) := by omega
            have q1 : v.items[y]? = some v.items[y] := List.getElem?_eq_getElem hi
            have q2 : v.items[0]? = some v.items[0] := List.getElem?_eq_getElem (by omega)
            have c0 : 0 < v.items.length := by omega
            have hd : oidBadAt v.items y = ((v.items[y]).kind == 2 && oidBad y v.items[y] v.items[0]) := by simp [oidBadAt, q1, q2]
            rw [hd] at hany ⊢
            have e0 : isOid v.items = !(List.range v.items.length).any (oidBadAt v.items) := rfl
            rw [e0, Bool.not_not]
            generalize (List.range v.items.length).any (oidBadAt v.items) = W at *
            generalize v.items[y] = x at *
            generalize v.items[0] = x0 at *
            have hne : ∀ c, ¬ 0 = st'.nx + c + 1 := fun c => by omega
            obtain ⟨a, ea⟩ : ∃ a, (decide (0 ≤ x.n) && decide (x.n ≤ 1152921504606846976)) = a := ⟨_, rfl⟩
            obtain ⟨b, eb⟩ : ∃ a, decide (x.n > 2) = a := ⟨_, rfl⟩
            obtain ⟨c, ec⟩ : ∃ a, decide (x0.n < 2) = a := ⟨_, rfl⟩
            obtain ⟨d, ed⟩ : ∃ a, decide (x.n > 39) = a := ⟨_, rfl⟩
            obtain ⟨e, ee⟩ : ∃ a, (x0.kind == 2) = a := ⟨_, rfl⟩
            obtain ⟨z0, ez0⟩ : ∃ a, ((y : Int) == 0) = a := ⟨_, rfl⟩
            obtain ⟨z1, ez1⟩ : ∃ a, ((y : Int) == 1) = a := ⟨_, rfl⟩
            have eb' : decide (2 < x.n) = b := eb
            have ed' : decide (39 < x.n) = d := ed
            obtain ⟨u1, m1⟩ : ∃ a, (z0 && b) = a := ⟨_, rfl⟩
            obtain ⟨u2, m2⟩ : ∃ a, (z1 && e) = a := ⟨_, rfl⟩
            obtain ⟨u3, m3⟩ : ∃ a, (u2 && c) = a := ⟨_, rfl⟩
            obtain ⟨u4, m4⟩ : ∃ a, (u3 && d) = a := ⟨_, rfl⟩
            simp only [oidBad, ea, eb, ec, ed, ee, ez0, ez1, m1, m2, m3, m4] at hany ⊢
            rcases eqCases x.kind 2 with q | q
            · simp only [q, beq_self_eq_true, Bool.true_and] at hany
              cases z1
              · simp only [Bool.false_and] at m2
                subst m2
                simp only [Bool.false_and] at m3
                subst m3
                simp only [Bool.false_and] at m4
                subst m4
                simp -implicitDefEqProofs [-guardOk, -gval, hx, hk, hi', hi, q, o1, o2, o3, rowAtM q1, rowAtM q2, c0, Vl.row_eq, -List.getElem_map, eb', ec, ed', ee, ez0, ez1, m1, -Bool.not_or, -Bool.not_and]
                refine callK.tree (WithinP _ _ _) rfl ?_
                rw [ea]
                cases a <;> cases u1
                all_goals simp -implicitDefEqProofs [-guardOk, -gval, hx, hx2, hk, hw, pureEnd]
                all_goals first | exact hany rfl | simp [Hp.set, h1, hh.1]
              · cases e
                · simp only [Bool.and_false] at m2
                  subst m2
                  simp only [Bool.false_and] at m3
                  subst m3
                  simp only [Bool.false_and] at m4
                  subst m4
                  simp -implicitDefEqProofs [-guardOk, -gval, hx, hk, hi', hi, q, o1, o2, o3, rowAtM q1, rowAtM q2, c0, Vl.row_eq, -List.getElem_map, eb', ec, ed', ee, ez0, ez1, m1, -Bool.not_or, -Bool.not_and]
                  refine callK.tree (WithinP _ _ _) rfl ?_
                  rw [ea]
                  cases a <;> cases u1
                  all_goals simp -implicitDefEqProofs [-guardOk, -gval, hx, hx2, hk, hw, pureEnd]
                  all_goals first | exact hany rfl | simp [Hp.set, h1, hh.1]
                · simp only [Bool.and_true] at m2
                  subst m2
                  simp only [Bool.true_and] at m3
                  subst m3
                  simp -implicitDefEqProofs [-guardOk, -gval, hx, hk, hi', hi, q, o1, o2, o3, rowAtM q1, rowAtM q2, c0, Vl.row_eq, -List.getElem_map, eb', ec, ed', ee, ez0, ez1, m1, m4, -Bool.not_or, -Bool.not_and]
                  refine callK.tree (WithinP _ _ _) rfl ?_
                  rw [ea]
                  cases a <;> cases u1 <;> cases u4
                  all_goals simp -implicitDefEqProofs [-guardOk, -gval, hx, hx2, hk, hw, pureEnd]
                  all_goals first | exact hany rfl | simp [Hp.set, h1, hh.1]
            · simp -implicitDefEqProofs [-guardOk, -gval, hx, hx2, hk, hi', hi, hw, q, o1, o2, o3, rowAtM q1, Vl.row_eq, -List.getElem_map]
              simp [Hp.set, h1, hh.1]
          · rintro st' hany ⟨hx, hx2⟩ hk hh
            simp [h1] at hk hh
            simp only [List.length_range] at hx
            obtain ⟨o1, o2, o3, o4⟩ := objF (hh.1.trans h2)
            have e0 : isOid v.items = !(List.range v.items.length).any (oidBadAt v.items) := rfl
            rw [e0, hany]
            simp -implicitDefEqProofs [-guardOk, -gval, hx, hx2, hk, o1, o2, o3, q7, pureEnd]
        · rcases eqCases v.kind 2 with q2 | q2
          · simp -implicitDefEqProofs [-guardOk, -gval, h1, h9, o1, o2, o3, q2]
            refine callK.tree (WithinP _ _ _) rfl ?_
            simp -implicitDefEqProofs [-guardOk, -gval, pureEnd, Vl.inRange, q2, isNum]
          · simp -implicitDefEqProofs [-guardOk, -gval, h1, h9, o1, o2, o3, q1, q14, q8, q7, q2, pureEnd, Vl.inRange]
attribute [local simp] c203r0 c203r1 c203r2 c203r3 c203r4 c203r5 c203r6 c203r7 c203r8 c203r9 c203r10 c203r11 c203t12 c203r13 c203r14 c203t15 c203r15 c203r16 c203r17 c203r18 c203t20 c203t21 c203t22 c203t23 c203t24 c203r12 c203t26 c203b27 c203t28 c203t29 c203t30 c203t31 c203t32 c203r19 c203t35 c203 in
theorem P203 (v : Vl) (hl : short v.items) : PSp Tryz.prog 203 [.agg (vlC v)] (.one (.t (.bool (!v.inRange)))) := by
  refine k203.pureK (by simp) (by simp [D.closed, A.closed]) rfl ?_
  have rest := num33 v hl
  simp -implicitDefEqProofs [-guardOk, -gval]
  exact rest _ ⟨by simp, by simp [Hp.set]⟩ (by simp) (by simp) (by simp)
end Go.Proofs.YtdpbobkcbakpfaaGreatDoor

namespace Go.Proofs.YtdpbobkcbakpfaaGreatDoor
open Go Go.Ab
set_option maxRecDepth 100000
set_option maxHeartbeats 4000000
attribute [local simp] tagsT fieldsT typesT nodesT valsT textsT intsT tyC fdC vlC ndC hset_hset D.isPt D.pt
attribute [local simp] c204r0 c204r1 c204r2 c204r3 c204r4 c204r5 c204r6 c204r7 c204r8 c204r9 c204r10 c204t11 c204r12 c204r13 c204t14 c204r11 c204t16 c204b17 c204t18 c204r14 c204t20 c204t21 c204t22 c204t23 c204t24 c204r15 c204t26 c204 in
theorem parts24 (v : Vl) (hl : short v.items) (st : St) (h1 : VB v 1 st) (h9 : st.tmps 5 = .one (.t (I v.kind))) (_hnx : 0 < st.nx) : awpK Tryz.prog 66 (pureEnd [.tmp 2] (.one (.t (.bool (!v.shaped))))) c204t24 [.thn (.seq (.region 15 false 1 c204r15) .ret)] st := by
  obtain ⟨h1, h2⟩ := h1
  obtain ⟨o1, o2, o3, o4⟩ := objF h2
  rcases eqCases v.kind 9 with q9 | q9
  · simp -implicitDefEqProofs [-guardOk, -gval, h1, h9, o1, o2, o3, q9, pureEnd, Vl.shaped, bne]
  · rcases eqCases v.kind 12 with q12 | q12
    · obtain ⟨a, ea⟩ : ∃ a, ((v.names.length : Int) == 1) = a := ⟨_, rfl⟩
      obtain ⟨b, eb⟩ : ∃ a, ((v.items.length : Int) == 1) = a := ⟨_, rfl⟩
      cases a <;> cases b
      all_goals simp -implicitDefEqProofs [-guardOk, -gval, h1, h9, o1, o2, o3, q12, ea, eb, bne, pureEnd, Vl.shaped]
    · rcases eqCases v.kind 13 with q13 | q13
      · obtain ⟨a, ea⟩ : ∃ a, ((v.items.length : Int) == 1) = a := ⟨_, rfl⟩
        obtain ⟨b, eb⟩ : ∃ a, (v.s.toList == (bs []).toList) = a := ⟨_, rfl⟩
        have eb' : seqB v.s (bs []) = b := eb
        rcases bb a with rfl | rfl
        · rcases bb b with rfl | rfl
          · have hl1 : v.items.length = 1 := by have := ea; simp at this; omega
            have g : v.items[0]? = some (v.items[0]'(by omega)) := List.getElem?_eq_getElem (by omega)
            have hp : 0 < v.items.length := by omega
            generalize hgx : v.items[0]'(by omega) = x at g
            simp -implicitDefEqProofs [-guardOk, -gval, h1, h9, o1, o2, o3, q13, ea, eb, bne, hp, rowAtM g, Vl.row_eq, -List.getElem_map, pureEnd, Vl.shaped, eb', hgx]
          · simp -implicitDefEqProofs [-guardOk, -gval, h1, h9, o1, o2, o3, q13, ea, eb, eb', bne, pureEnd, Vl.shaped]
        · simp -implicitDefEqProofs [-guardOk, -gval, h1, h9, o1, o2, o3, q13, ea, bne, pureEnd, Vl.shaped]
      · rcases eqCases v.kind 7 with q7 | q7
        · have e0 : v.shaped = (decide ((v.items.length : Int) ≥ 2) && !v.items.any (fun x => !(x.kind == 2))) := by simp only [Vl.shaped, q7]; rfl
          rw [e0]
          simp -implicitDefEqProofs [-guardOk, -gval, h9, q7]
          refine loopAll v.items (fun x => !(x.kind == 2)) [1] [0] (fun i st => st.tmps 3 = .one (.t (I i))) hl ⟨by simp [*], by simp, by simp []⟩ ?_ ?_
          · intro i x st' hi hiI hw hg hy hany hx hk hh
            simp [h1] at hk hh
            obtain ⟨o1, o2, o3, o4⟩ := objF (hh.1.trans h2)
            generalize v.items.any (fun x => !(x.kind == 2)) = W at *
            rcases eqCases x.kind 2 with q | q
            · simp -implicitDefEqProofs [-guardOk, -gval, hx, hk, hi, hiI, hw, o1, o2, o3, q, rowAtM hg, Vl.row_eq, -List.getElem_map]
              exact ⟨h1.symm, hh.1⟩
            · rw [q.1] at hany
              have := hany rfl
              subst this
              simp -implicitDefEqProofs [-guardOk, -gval, hx, hk, hi, hiI, o1, o2, o3, q, rowAtM hg, Vl.row_eq, -List.getElem_map, pureEnd]
          · intro st' hany hx hk hh
            simp [h1] at hk hh
            obtain ⟨o1, o2, o3, o4⟩ := objF (hh.1.trans h2)
            rw [hany]
            simp -implicitDefEqProofs [-guardOk, -gval, hx, hk, o1, o2, o3, pureEnd]
            rw [Bool.eq_iff_iff]; simp; try omega
        · simp -implicitDefEqProofs [-guardOk, -gval, h9, q9, q12, q13, q7, pureEnd, Vl.shaped]
attribute [local simp] c204r0 c204r1 c204r2 c204r3 c204r4 c204r5 c204r6 c204r7 c204r8 c204r9 c204r10 c204t11 c204r12 c204r13 c204t14 c204r11 c204t16 c204b17 c204t18 c204r14 c204t20 c204t21 c204t22 c204t23 c204r15 c204t26 c204 in
theorem P204 (v : Vl) (hl : short v.items) : PSp Tryz.prog 204 [.agg (vlC v)] (.one (.t (.bool (!v.shaped)))) := by
  refine k204.pureK (by simp) (by simp [D.closed, A.closed]) rfl ?_
  have rest := parts24 v hl
  simp -implicitDefEqProofs [-guardOk, -gval]
  exact rest _ ⟨by simp, by simp [Hp.set]⟩ (by simp) (by simp)
end Go.Proofs.YtdpbobkcbakpfaaGreatDoor

namespace Go.Proofs.YtdpbobkcbakpfaaGreatDoor
open Go Go.Ab
set_option maxRecDepth 100000
set_option maxHeartbeats 4000000
attribute [local simp] tagsT fieldsT typesT nodesT valsT textsT intsT tyC fdC vlC ndC hset_hset D.isPt D.pt
def gtAt (l : List Vl) (j : Nat) : Bool := match l[j]?, l[j + 1]? with | some x, some y => decide (0 < x.cmp y) | _, _ => false
def unsorted (l : List Vl) : Bool := (List.range (l.length - 1)).any (gtAt l)
attribute [local simp] c158r0 c158r1 c158r2 c158t3 c158r3 c158r4 c158r5 c158t7 c158r6 c158r7 c158t10 c158r8 c158r9 c158r10 c158t14 c158r11 c158r12 c158t17 c158r13 c158r14 c158t20 c158r15 c158r16 c158r17 c158t24 c158r19 c158r20 c158t27 c158r18 c158t29 c158b30 c158t31 c158t32 c158r21 c158r22 c158t35 c158r24 c158r25 c158t38 c158r23 c158t40 c158b41 c158t42 c158r26 c158r27 c158t45 c158r28 c158r29 c158t48 c158r31 c158r32 c158t51 c158r30 c158t53 c158b54 c158t55 c158r33 c158r34 c158t58 c158r36 c158r37 c158t61 c158r35 c158t63 c158b64 c158t65 c158r38 c158r39 c158t68 c158r41 c158r42 c158t71 c158r40 c158t73 c158b74 c158t75 c158r43 c158t77 c158t78 c158t79 c158t80 c158t81 c158t82 c158t83 c158t84 c158t85 c158t86 c158t87 c158t88 c158t89 c158t90 c158 in
theorem frm77 (v : Vl) (hv : v.fine) (st : St) (h1 : VB v 1 st) (_hnx : 0 < st.nx) : awpK Tryz.prog 218 (pureEnd [.tmp 2] (.one (.t (I (if v.kind == 11 && unsorted v.items then 14 else 0))))) c158t77 [] st := by
  have hv' := (Vl.fine_iff v).1 hv
  have hl := hv'.2.2.2.1
  obtain ⟨h1, h2⟩ := h1
  obtain ⟨o1, o2, o3, o4⟩ := objF h2
  rcases eqCases v.kind 11 with q | q
  · obtain ⟨R, hR⟩ : ∃ R, (if v.kind == 11 && unsorted v.items then (14 : Int) else 0) = R := ⟨_, rfl⟩
    rw [hR]
    simp only [q, beq_self_eq_true, Bool.true_and, unsorted] at hR
    simp -implicitDefEqProofs [-guardOk, -gval]
    have hsr : short (List.range (v.items.length - 1)) := by simp [short] at hl ⊢; omega
    refine loopAll (List.range (v.items.length - 1)) (gtAt v.items) [1] [0] (fun i st => st.tmps 9 = .one (.t (I ((i + 1 : Nat) : Int)))) hsr ⟨by simp, by simp, by simp []⟩ ?_ ?_
    · intro i y st' hi hiI hw hg hy hany hx hk hh
      obtain rfl := range_at hg
      simp [h1] at hk hh
      simp at hi
      obtain ⟨o1, o2, o3, o4⟩ := objF (hh.1.trans h2)
      have b1 : y + 1 < v.items.length := by omega
      have b2 : ((y + 1 : Nat) : Int) < (v.items.length : Int) := by omega
      have g1 : v.items[y + 1]? = some v.items[y + 1] := List.getElem?_eq_getElem b1
      have g0 : v.items[y]? = some v.items[y] := List.getElem?_eq_getElem (by omega)
      have w1 : IntKind.i64.wrap (((y + 1 : Nat) : Int) - 1) = (y : Int) := by
        rw [show ((y + 1 : Nat) : Int) - 1 = (y : Int) by omega]; exact nat_wrap _ (by omega) (by simp [short] at hl; omega)
      have w2 : IntKind.i64.wrap (((y + 1 : Nat) : Int) + 1) = ((y + 1 + 1 : Nat) : Int) := nat_wrap _ (by omega) (by simp [short] at hl; omega)
      have hd : gtAt v.items y = decide (0 < (v.items[y]).cmp v.items[y + 1]) := by simp [gtAt, g0, g1]
      have m0 : v.items[y] ∈ v.items := List.getElem_mem _
      have m1 : v.items[y + 1] ∈ v.items := List.getElem_mem _
      rw [hd] at hany ⊢
      generalize v.items[y] = x0 at *
      generalize v.items[y + 1] = x1 at *
      have b0 : y < v.items.length := by omega
      have b0' : (y : Int) < (v.items.length : Int) := by omega
      obtain ⟨m, hm⟩ : ∃ m, y + 1 = m := ⟨_, rfl⟩
      rw [hm] at hx b1 b2 g1 w1 w2
      simp -implicitDefEqProofs [-guardOk, -gval, hx, hk, b1, b2, b0, b0', w1, o1, o2, o3, q, rowAtM g0, rowAtM g1, Vl.row_eq, -List.getElem_map]
      refine callK.treeD (P100 x0 (hv'.2.2.2.2 x0 m0) x1 (hv'.2.2.2.2 x1 m1)) rfl ?_
      rcases ltCases 0 (x0.cmp x1) with c | c
      · rw [if_pos (hany (by simp [c]))] at hR
        subst hR
        simp -implicitDefEqProofs [-guardOk, -gval, c, pureEnd]
      · simp -implicitDefEqProofs [-guardOk, -gval, c, hx, hk, w2, hh.1, h1]
        omega
    · intro st' hany hx hk hh
      simp [h1] at hk hh
      simp only [List.length_range] at hx
      obtain ⟨o1, o2, o3, o4⟩ := objF (hh.1.trans h2)
      obtain ⟨m, hm⟩ : ∃ m, v.items.length - 1 + 1 = m := ⟨_, rfl⟩
      rw [hm] at hx
      have b1 : ¬ (m : Int) < (v.items.length : Int) := by omega
      rw [hany] at hR
      subst hR
      simp -implicitDefEqProofs [-guardOk, -gval, hx, hk, b1, o1, o2, o3, pureEnd]
  · have e : (if v.kind == 11 && unsorted v.items then (14 : Int) else 0) = 0 := by simp [q]
    rw [e]
    simp -implicitDefEqProofs [-guardOk, -gval]
    refine loopAll ([] : List Fd) (fun f => !isNum f.num) [1] [0] (fun i st => st.tmps 9 = .one (.t (I 1))) (by simp [short]) ⟨by simp, by simp, by simp []⟩ ?_ ?_
    · intro i f st' hi; simp at hi
    · intro st' hany hx hk hh
      simp [h1] at hk hh hx
      obtain ⟨o1, o2, o3, o4⟩ := objF (hh.1.trans h2)
      simp -implicitDefEqProofs [-guardOk, -gval, hk, hx, o1, o2, o3, q, pureEnd]
attribute [local simp] c158r0 c158r1 c158r2 c158t3 c158r3 c158r4 c158r5 c158t7 c158r6 c158r7 c158t10 c158r8 c158r9 c158r10 c158t14 c158r11 c158r12 c158t17 c158r13 c158r14 c158t20 c158r15 c158r16 c158r17 c158t24 c158r19 c158r20 c158t27 c158r18 c158t29 c158b30 c158t31 c158t32 c158r21 c158r22 c158t35 c158r24 c158r25 c158t38 c158r23 c158t40 c158b41 c158t42 c158r26 c158r27 c158t45 c158r28 c158r29 c158t48 c158r31 c158r32 c158t51 c158r30 c158t53 c158b54 c158t55 c158r33 c158r34 c158t58 c158r36 c158r37 c158t61 c158r35 c158t63 c158b64 c158t65 c158r38 c158r39 c158t68 c158r41 c158r42 c158t71 c158r40 c158t73 c158b74 c158t75 c158r43 c158t78 c158t79 c158t80 c158t81 c158t82 c158t83 c158t84 c158t85 c158t86 c158t87 c158t88 c158t89 c158t90 c158 in
theorem frm78 (v : Vl) (hv : v.fine) (R : Int) (hR : (if (List.range v.names.length).any (dblAt v.names) then (13 : Int) else if v.kind == 11 && unsorted v.items then 14 else 0) = R) (st : St) (h1 : VB v 1 st) (_hnx : 0 < st.nx) : awpK Tryz.prog 218 (pureEnd [.tmp 2] (.one (.t (I R)))) c158t78 [] st := by
  have rest := frm77 v hv
  have hv' := (Vl.fine_iff v).1 hv
  have hl := hv'.2.1
  obtain ⟨h1, h2⟩ := h1
  obtain ⟨o1, o2, o3, o4⟩ := objF h2
  generalize (if v.kind == 11 && unsorted v.items then (14 : Int) else 0) = R3 at *
  simp -implicitDefEqProofs [-guardOk, -gval]
  refine loopAll (List.range v.names.length) (dblAt v.names) [1] [0] (fun i st => st.tmps 8 = .one (.t (I i))) (by simpa [short] using hl) ⟨by simp, by simp, by simp []⟩ ?_ ?_
  · intro i y st' hi hiI hw hg hy hany hx hk hh
    obtain rfl := range_at hg
    simp [h1] at hk hh
    simp at hi
    obtain ⟨o1, o2, o3, o4⟩ := objF (hh.1.trans h2)
    have hi' : (y : Int) < (v.names.length : Int) := by omega
    have g0 : v.names[y]? = some v.names[y] := List.getElem?_eq_getElem hi
    have hd : dblAt v.names y = hasT (v.names.take y) v.names[y] := by
      simp only [dblAt, g0, hasT]
      congr 1; funext x; simp only [seqB]; exact Bool.beq_comm ..
    rw [hd] at hany ⊢
    generalize v.names[y] = x at *
    have hle : y ≤ v.names.length := by omega
    have p206 := P206 (v.names.take y) x (by simp [short] at hl ⊢; omega)
    simp -implicitDefEqProofs [-guardOk, -gval, hx, hk, hi, hi', hle, o1, o2, o3, rowAtM g0, -List.getElem_map]
    simp only [textsT, List.map_take] at p206
    refine callK.treeD p206 rfl ?_
    rcases bb (hasT (v.names.take y) x) with c | c
    · rw [if_pos (hany c)] at hR
      subst hR
      rw [c]
      simp -implicitDefEqProofs [-guardOk, -gval, pureEnd]
    · rw [c]
      simp -implicitDefEqProofs [-guardOk, -gval, hx, hk, hw, h1]
      exact hh.1
  · intro st' hany hx hk hh
    simp [h1] at hk hh
    simp only [List.length_range] at hx
    obtain ⟨o1, o2, o3, o4⟩ := objF (hh.1.trans h2)
    rw [hany] at hR
    subst hR
    simp -implicitDefEqProofs [-guardOk, -gval, hx, hk, o1, o2, o3]
    exact rest _ ⟨by simp [hk], by simp [hh, h2]⟩ (by simp <;> omega)
attribute [local simp] c158r0 c158r1 c158r2 c158t3 c158r3 c158r4 c158r5 c158t7 c158r6 c158r7 c158t10 c158r8 c158r9 c158r10 c158t14 c158r11 c158r12 c158t17 c158r13 c158r14 c158t20 c158r15 c158r16 c158r17 c158t24 c158r19 c158r20 c158t27 c158r18 c158t29 c158b30 c158t31 c158t32 c158r21 c158r22 c158t35 c158r24 c158r25 c158t38 c158r23 c158t40 c158b41 c158t42 c158r26 c158r27 c158t45 c158r28 c158r29 c158t48 c158r31 c158r32 c158t51 c158r30 c158t53 c158b54 c158t55 c158r33 c158r34 c158t58 c158r36 c158r37 c158t61 c158r35 c158t63 c158b64 c158t65 c158r38 c158r39 c158t68 c158r41 c158r42 c158t71 c158r40 c158t73 c158b74 c158t75 c158r43 c158t77 c158t79 c158t80 c158t81 c158t82 c158t83 c158t84 c158t85 c158t86 c158t87 c158t88 c158t89 c158t90 c158 in
theorem frm79 (v : Vl) (hv : v.fine) (R : Int) (hR : (if v.names.any (fun s => !nameOk s) then (7 : Int) else if (List.range v.names.length).any (dblAt v.names) then (13 : Int) else if v.kind == 11 && unsorted v.items then 14 else 0) = R) (st : St) (h1 : VB v 1 st) (_hnx : 0 < st.nx) : awpK Tryz.prog 218 (pureEnd [.tmp 2] (.one (.t (I R)))) c158t79 [] st := by
  have rest := frm78 v hv _ rfl
  have hv' := (Vl.fine_iff v).1 hv
  have hl := hv'.2.1
  obtain ⟨h1, h2⟩ := h1
  obtain ⟨o1, o2, o3, o4⟩ := objF h2
  generalize (if (List.range v.names.length).any (dblAt v.names) then (13 : Int) else if v.kind == 11 && unsorted v.items then 14 else 0) = R3 at *
  simp -implicitDefEqProofs [-guardOk, -gval]
  refine loopAll v.names (fun s => !nameOk s) [1] [0] (fun i st => st.tmps 7 = .one (.t (I i))) hl ⟨by simp, by simp, by simp []⟩ ?_ ?_
  · intro i x st' hi hiI hw hg hy hany hx hk hh
    simp [h1] at hk hh
    obtain ⟨o1, o2, o3, o4⟩ := objF (hh.1.trans h2)
    simp -implicitDefEqProofs [-guardOk, -gval, hx, hk, hi, hiI, o1, o2, o3, rowAtM hg, -List.getElem_map]
    refine callK.tree (P205 x (hv'.2.2.1 x hy)) rfl ?_
    rcases bb (nameOk x) with c | c
    · rw [c]
      simp -implicitDefEqProofs [-guardOk, -gval, hx, hk, hw, h1]
      exact hh.1
    · rw [if_pos (hany (by simp [c]))] at hR
      subst hR
      rw [c]
      simp -implicitDefEqProofs [-guardOk, -gval, pureEnd]
  · intro st' hany hx hk hh
    simp [h1] at hk hh
    obtain ⟨o1, o2, o3, o4⟩ := objF (hh.1.trans h2)
    rw [hany] at hR
    subst hR
    simp -implicitDefEqProofs [-guardOk, -gval, hx, hk, o1, o2, o3]
    exact rest _ ⟨by simp [hk], by simp [hh, h2]⟩ (by simp <;> omega)
attribute [local simp] c158r0 c158r1 c158r2 c158t3 c158r3 c158r4 c158r5 c158t7 c158r6 c158r7 c158t10 c158r8 c158r9 c158r10 c158t14 c158r11 c158r12 c158t17 c158r13 c158r14 c158t20 c158r15 c158r16 c158r17 c158t24 c158r19 c158r20 c158t27 c158r18 c158t29 c158b30 c158t31 c158t32 c158r21 c158r22 c158t35 c158r24 c158r25 c158t38 c158r23 c158t40 c158b41 c158t42 c158r26 c158r27 c158t45 c158r28 c158r29 c158t48 c158r31 c158r32 c158t51 c158r30 c158t53 c158b54 c158t55 c158r33 c158r34 c158t58 c158r36 c158r37 c158t61 c158r35 c158t63 c158b64 c158t65 c158r38 c158r39 c158t68 c158r41 c158r42 c158t71 c158r40 c158t73 c158b74 c158t75 c158r43 c158t77 c158t78 c158t80 c158t81 c158t82 c158t83 c158t84 c158t85 c158t86 c158t87 c158t88 c158t89 c158t90 c158 in
theorem frm80 (v : Vl) (hv : v.fine) (R : Int) (hR : (if v.nameBad then (7 : Int) else if (List.range v.names.length).any (dblAt v.names) then (13 : Int) else if v.kind == 11 && unsorted v.items then 14 else 0) = R) (st : St) (h1 : VB v 1 st) (_hnx : 0 < st.nx) : awpK Tryz.prog 218 (pureEnd [.tmp 2] (.one (.t (I R)))) c158t80 [] st := by
  have rest := frm79 v hv _ rfl
  have hv' := (Vl.fine_iff v).1 hv
  have e0 : v.nameBad = (((v.kind == 3 || (v.kind == 13 && !seqB v.s (bs []))) && !nameOk v.s) || v.names.any fun s => !nameOk s) := rfl
  rw [e0] at hR
  obtain ⟨h1, h2⟩ := h1
  obtain ⟨o1, o2, o3, o4⟩ := objF h2
  generalize (if (List.range v.names.length).any (dblAt v.names) then (13 : Int) else if v.kind == 11 && unsorted v.items then 14 else 0) = R3 at *
  have p205 := P205 v.s hv'.1
  have go : (v.kind == 3 || (v.kind == 13 && !seqB v.s (bs []))) = false ∨ nameOk v.s = true → ∀ st : St, VB v 1 st → 0 < st.nx → awpK Tryz.prog 218 (pureEnd [.tmp 2] (.one (.t (I R)))) c158t79 [] st := fun h st g1 g2 => by
    have := rest st g1 g2
    rcases h with h | h
    · rw [h] at hR
      simp only [Bool.false_and, Bool.false_or] at hR
      rw [hR] at this; exact this
    · rw [h] at hR
      simp only [Bool.not_true, Bool.and_false, Bool.false_or] at hR
      rw [hR] at this; exact this
  have bad : (v.kind == 3 || (v.kind == 13 && !seqB v.s (bs []))) = true → nameOk v.s = false → R = 7 := fun h h' => by
    rw [h, h'] at hR
    simpa using hR.symm
  rcases eqCases v.kind 3 with q3 | q3
  · simp -implicitDefEqProofs [-guardOk, -gval, h1, o1, o2, o3, q3]
    refine callK.tree p205 rfl ?_
    rcases bb (nameOk v.s) with c | c
    · rw [c]
      simp -implicitDefEqProofs [-guardOk, -gval, h1, o1, o2, o3, q3]
      exact go (.inr c) _ ⟨by simp [h1], by simp [h2]⟩ (by simp <;> omega)
    · rw [c, bad (by simp [q3]) c]
      simp -implicitDefEqProofs [-guardOk, -gval, h1, o1, o2, o3, q3, pureEnd]
  · rcases eqCases v.kind 13 with q13 | q13
    · obtain ⟨z, hz⟩ : ∃ z, (v.s.toList == (bs []).toList) = z := ⟨_, rfl⟩
      have hz' : seqB v.s (bs []) = z := hz
      rw [hz'] at go bad
      cases z
      · simp -implicitDefEqProofs [-guardOk, -gval, h1, o1, o2, o3, q13, hz, bne]
        refine callK.tree p205 rfl ?_
        rcases bb (nameOk v.s) with c | c
        · rw [c]
          simp -implicitDefEqProofs [-guardOk, -gval]
          exact go (.inr c) _ ⟨by simp [h1], by simp [h2]⟩ (by simp <;> omega)
        · rw [c, bad (by simp [q13]) c]
          simp -implicitDefEqProofs [-guardOk, -gval, pureEnd]
      · simp -implicitDefEqProofs [-guardOk, -gval, h1, o1, o2, o3, q13, hz, bne]
        exact go (.inl (by simp [q3])) _ ⟨by simp [h1], by simp [h2, q13]⟩ (by simp <;> omega)
    · simp -implicitDefEqProofs [-guardOk, -gval, h1, o1, o2, o3, q3, q13]
      exact go (.inl (by simp [q3, q13])) _ ⟨by simp [h1], by simp [h2]⟩ (by simp <;> omega)
end Go.Proofs.YtdpbobkcbakpfaaGreatDoor

namespace Go.Proofs.YtdpbobkcbakpfaaGreatDoor
open Go Go.Ab
set_option maxRecDepth 100000
set_option maxHeartbeats 4000000
attribute [local simp] tagsT fieldsT typesT nodesT valsT textsT intsT tyC fdC vlC ndC hset_hset D.isPt D.pt ixs_eq D.ixsOk
attribute [local simp] c158r0 c158r1 c158r2 c158t3 c158r3 c158r4 c158r5 c158t7 c158r6 c158r7 c158t10 c158r8 c158r9 c158r10 c158t14 c158r11 c158r12 c158t17 c158r13 c158r14 c158t20 c158r15 c158r16 c158r17 c158t24 c158r19 c158r20 c158t27 c158r18 c158t29 c158b30 c158t31 c158t32 c158r21 c158r22 c158t35 c158r24 c158r25 c158t38 c158r23 c158t40 c158b41 c158t42 c158r26 c158r27 c158t45 c158r28 c158r29 c158t48 c158r31 c158r32 c158t51 c158r30 c158t53 c158b54 c158t55 c158r33 c158r34 c158t58 c158r36 c158r37 c158t61 c158r35 c158t63 c158b64 c158t65 c158r38 c158r39 c158t68 c158r41 c158r42 c158t71 c158r40 c158t73 c158b74 c158t75 c158r43 c158t77 c158t78 c158t79 c158t81 c158t82 c158t83 c158t84 c158t85 c158t86 c158t87 c158t88 c158t89 c158t90 c158 in
theorem frm81 (v : Vl) (hv : v.fine) (R : Int) (R3 : Int) (hR3 : (if v.nameBad then (7 : Int) else if (List.range v.names.length).any (dblAt v.names) then (13 : Int) else if v.kind == 11 && unsorted v.items then 14 else 0) = R3)
    (hR : (if v.kind == 6 && (chars v.s).any (fun c => decide (127 < c)) then (17 : Int) else R3) = R) (st : St) (h1 : VB v 1 st) (_hnx : 0 < st.nx) : awpK Tryz.prog 218 (pureEnd [.tmp 2] (.one (.t (I R)))) c158t81 [] st := by
  have rest := frm80 v hv _ rfl
  rw [hR3] at rest
  have hv' := (Vl.fine_iff v).1 hv
  have hl := hv'.1
  have hcl := chars_len v.s
  obtain ⟨h1, h2⟩ := h1
  obtain ⟨o1, o2, o3, o4⟩ := objF h2
  rcases eqCases v.kind 6 with q | q
  · simp only [q, beq_self_eq_true, Bool.true_and] at hR
    simp -implicitDefEqProofs [-guardOk, -gval]
    refine loopAll (chars v.s) (fun c => decide (127 < c)) [1] [0] (fun i st => st.tmps 6 = .one (.t (I i))) (by simp only [short]; omega) ⟨by simp, by simp, by simp []⟩ ?_ ?_
    · intro i c st' hi hiI hw hg hy hany hx hk hh
      simp [h1] at hk hh
      obtain ⟨o1, o2, o3, o4⟩ := objF (hh.1.trans h2)
      rw [hcl] at hi hiI
      have hc : (chars v.s)[i]?.getD 0 = c := by rw [hg]; rfl
      rcases ltCases 127 c with g | g
      · rw [if_pos (hany (by simp [g]))] at hR
        subst hR
        simp -implicitDefEqProofs [-guardOk, -gval, hx, hk, hiI, o1, o2, o3, q, hc, g, pureEnd]
      · simp -implicitDefEqProofs [-guardOk, -gval, hx, hk, hiI, o1, o2, o3, q, hc, g, hw, h1]
        exact hh.1
    · intro st' hany hx hk hh
      simp [h1] at hk hh
      rw [hcl] at hx
      obtain ⟨o1, o2, o3, o4⟩ := objF (hh.1.trans h2)
      rw [hany] at hR
      simp at hR
      subst hR
      simp -implicitDefEqProofs [-guardOk, -gval, hx, hk, o1, o2, o3]
      exact rest _ ⟨by simp [hk], by simp [hh, h2]⟩ (by simp <;> omega)
  · have e : R3 = R := by rw [← hR]; simp [q]
    subst e
    simp -implicitDefEqProofs [-guardOk, -gval]
    refine loopAll ([] : List Fd) (fun f => !isNum f.num) [1] [0] (fun i st => st.tmps 6 = .one (.t (I 0))) (by simp [short]) ⟨by simp, by simp, by simp []⟩ ?_ ?_
    · intro i f st' hi; simp at hi
    · intro st' hany hx hk hh
      simp [h1] at hk hh hx
      obtain ⟨o1, o2, o3, o4⟩ := objF (hh.1.trans h2)
      obtain ⟨b, eb⟩ : ∃ x, decide (0 < v.s.size) = x := ⟨_, rfl⟩
      cases b
      · simp -implicitDefEqProofs [-guardOk, -gval, hk, hx, o1, o2, o3, q, eb]
        exact rest _ ⟨by simp [hk], by simp [hh, h2]⟩ (by simp <;> omega)
      · simp -implicitDefEqProofs [-guardOk, -gval, hk, hx, o1, o2, o3, q, eb]
        exact rest _ ⟨by simp [hk], by simp [hh, h2]⟩ (by simp <;> omega)
attribute [local simp] c158r0 c158r1 c158r2 c158t3 c158r3 c158r4 c158r5 c158t7 c158r6 c158r7 c158t10 c158r8 c158r9 c158r10 c158t14 c158r11 c158r12 c158t17 c158r13 c158r14 c158t20 c158r15 c158r16 c158r17 c158t24 c158r19 c158r20 c158t27 c158r18 c158t29 c158b30 c158t31 c158t32 c158r21 c158r22 c158t35 c158r24 c158r25 c158t38 c158r23 c158t40 c158b41 c158t42 c158r26 c158r27 c158t45 c158r28 c158r29 c158t48 c158r31 c158r32 c158t51 c158r30 c158t53 c158b54 c158t55 c158r33 c158r34 c158t58 c158r36 c158r37 c158t61 c158r35 c158t63 c158b64 c158t65 c158r38 c158r39 c158t68 c158r41 c158r42 c158t71 c158r40 c158t73 c158b74 c158t75 c158r43 c158t77 c158t78 c158t79 c158t80 c158t82 c158t83 c158t84 c158t85 c158t86 c158t87 c158t88 c158t89 c158t90 c158 in
theorem frm82 (v : Vl) (hv : v.fine) (R : Int) (R3 : Int) (hR3 : (if v.nameBad then (7 : Int) else if (List.range v.names.length).any (dblAt v.names) then (13 : Int) else if v.kind == 11 && unsorted v.items then 14 else 0) = R3)
    (hR : (if v.typeBad then (17 : Int) else R3) = R) (st : St) (h1 : VB v 1 st) (_hnx : 0 < st.nx) : awpK Tryz.prog 218 (pureEnd [.tmp 2] (.one (.t (I R)))) c158t82 [] st := by
  have rest := fun R' => frm81 v hv R' R3 hR3
  have hv' := (Vl.fine_iff v).1 hv
  have hl := hv'.1
  have hcl := chars_len v.s
  have e0 : v.typeBad = ((v.kind == 4 && (chars v.s).any fun c => !(c == 48 || c == 49)) || (v.kind == 6 && (chars v.s).any fun c => decide (127 < c))) := rfl
  rw [e0] at hR
  obtain ⟨h1, h2⟩ := h1
  obtain ⟨o1, o2, o3, o4⟩ := objF h2
  rcases eqCases v.kind 4 with q | q
  · have q6 : (v.kind == 6) = false := by simp [q]
    simp only [q, beq_self_eq_true, Bool.true_and] at hR
    rw [show ((4 : Int) == 6) = false by decide] at hR
    simp only [Bool.false_and, Bool.or_false] at hR
    have rest' := rest R3 (by simp [q6])
    simp -implicitDefEqProofs [-guardOk, -gval, h1, o1, o2, o3, q]
    refine loopAll (chars v.s) (fun c => !(c == 48 || c == 49)) [1] [0] (fun i st => st.tmps 5 = .one (.t (I i))) (by simp only [short]; omega) ⟨by simp, by simp, by simp []⟩ ?_ ?_
    · intro i c st' hi hiI hw hg hy hany hx hk hh
      simp [h1] at hk hh
      obtain ⟨o1, o2, o3, o4⟩ := objF (hh.1.trans h2)
      rw [hcl] at hi hiI
      have hc : (chars v.s)[i]?.getD 0 = c := by rw [hg]; rfl
      have hm := chars_mem hy
      rcases eqCases c 48 with g | g
      · subst g
        simp -implicitDefEqProofs [-guardOk, -gval, hx, hk, hiI, o1, o2, o3, q, hc, hw, h1, hh.1]
      · rcases eqCases c 49 with g' | g'
        · subst g'
          simp -implicitDefEqProofs [-guardOk, -gval, hx, hk, hiI, o1, o2, o3, q, hc, hw, h1, hh.1]
        · rw [if_pos (hany (by simp [g, g']))] at hR
          subst hR
          simp -implicitDefEqProofs [-guardOk, -gval, hx, hk, hiI, o1, o2, o3, q, hc, g, g', pureEnd]
    · intro st' hany hx hk hh
      simp [h1] at hk hh
      rw [hcl] at hx
      obtain ⟨o1, o2, o3, o4⟩ := objF (hh.1.trans h2)
      rw [hany] at hR
      simp at hR
      subst hR
      simp -implicitDefEqProofs [-guardOk, -gval, hx, hk, o1, o2, o3]
      exact rest' _ ⟨by simp [hk], by simp [hh, h2]⟩ (by simp <;> omega)
  · simp only [q, Bool.false_and, Bool.false_or] at hR
    simp -implicitDefEqProofs [-guardOk, -gval, h1, o1, o2, o3, q]
    exact rest R hR _ ⟨by simp [h1], by simp [h2]⟩ (by simp <;> omega)
end Go.Proofs.YtdpbobkcbakpfaaGreatDoor

namespace Go.Proofs.YtdpbobkcbakpfaaGreatDoor
open Go Go.Ab
set_option maxRecDepth 100000
set_option maxHeartbeats 4000000
attribute [local simp] tagsT fieldsT typesT nodesT valsT textsT intsT tyC fdC vlC ndC hset_hset D.isPt D.pt
def Vl.r1 (v : Vl) : Int := if v.nameBad then (7 : Int) else if (List.range v.names.length).any (dblAt v.names) then (13 : Int) else if v.kind == 11 && unsorted v.items then 14 else 0
def Vl.r2 (v : Vl) : Int := if v.typeBad then (17 : Int) else v.r1
def Vl.r3 (v : Vl) : Int := if v.shaped then v.r2 else 6
def Vl.largeR (v : Vl) : Bool := (decide (200 < v.s.size) && v.kind != 3 && v.kind != 13) || decide ((if v.kind == 9 then 16 else 40) < v.items.length)
def Vl.r4 (v : Vl) : Int := if v.largeR then 2 else v.r3
def Vl.r5 (v : Vl) : Int := if v.inRange then v.r4 else 3
def Vl.r6 (v : Vl) : Int := if v.formBad then 5 else v.r5
def Vl.ownR (v : Vl) : Int := if decide (0 ≤ v.kind) && decide (v.kind ≤ 14) then v.r6 else 4
attribute [local simp] c158r0 c158r1 c158r2 c158t3 c158r3 c158r4 c158r5 c158t7 c158r6 c158r7 c158t10 c158r8 c158r9 c158r10 c158t14 c158r11 c158r12 c158t17 c158r13 c158r14 c158t20 c158r15 c158r16 c158r17 c158t24 c158r19 c158r20 c158t27 c158r18 c158t29 c158b30 c158t31 c158t32 c158r21 c158r22 c158t35 c158r24 c158r25 c158t38 c158r23 c158t40 c158b41 c158t42 c158r26 c158r27 c158t45 c158r28 c158r29 c158t48 c158r31 c158r32 c158t51 c158r30 c158t53 c158b54 c158t55 c158r33 c158r34 c158t58 c158r36 c158r37 c158t61 c158r35 c158t63 c158b64 c158t65 c158r38 c158r39 c158t68 c158r41 c158r42 c158t71 c158r40 c158t73 c158b74 c158t75 c158r43 c158t77 c158t78 c158t79 c158t80 c158t81 c158t83 c158t84 c158t85 c158t86 c158t87 c158t88 c158t89 c158t90 c158 in
theorem frm83 (v : Vl) (hv : v.fine) (st : St) (h1 : VB v 1 st) (_hnx : 0 < st.nx) : awpK Tryz.prog 218 (pureEnd [.tmp 2] (.one (.t (I v.r3)))) c158t83 [] st := by
  have rest := frm82 v hv v.r2 v.r1 rfl rfl
  have hv' := (Vl.fine_iff v).1 hv
  obtain ⟨h1, h2⟩ := h1
  obtain ⟨o1, o2, o3, o4⟩ := objF h2
  rw [Vl.r3]
  simp -implicitDefEqProofs [-guardOk, -gval, h1, o1, o2, o3]
  refine callK.tree (P204 v hv'.2.2.2.1) rfl ?_
  rcases bb v.shaped with c | c
  · rw [c]
    simp -implicitDefEqProofs [-guardOk, -gval]
    exact rest _ ⟨by simp [h1], by simp [h2]⟩ (by simp <;> omega)
  · rw [c]
    simp -implicitDefEqProofs [-guardOk, -gval, pureEnd]
attribute [local simp] c158r0 c158r1 c158r2 c158t3 c158r3 c158r4 c158r5 c158t7 c158r6 c158r7 c158t10 c158r8 c158r9 c158r10 c158t14 c158r11 c158r12 c158t17 c158r13 c158r14 c158t20 c158r15 c158r16 c158r17 c158t24 c158r19 c158r20 c158t27 c158r18 c158t29 c158b30 c158t31 c158t32 c158r21 c158r22 c158t35 c158r24 c158r25 c158t38 c158r23 c158t40 c158b41 c158t42 c158r26 c158r27 c158t45 c158r28 c158r29 c158t48 c158r31 c158r32 c158t51 c158r30 c158t53 c158b54 c158t55 c158r33 c158r34 c158t58 c158r36 c158r37 c158t61 c158r35 c158t63 c158b64 c158t65 c158r38 c158r39 c158t68 c158r41 c158r42 c158t71 c158r40 c158t73 c158b74 c158t75 c158r43 c158t77 c158t78 c158t79 c158t80 c158t81 c158t82 c158t84 c158t85 c158t86 c158t87 c158t88 c158t89 c158t90 c158 in
theorem frm84 (v : Vl) (hv : v.fine) (k : Int) (hk : (if v.kind == 9 then (16 : Int) else 40) = k) (st : St) (h1 : VB v 1 st) (_hnx : 0 < st.nx) (h4 : st.tmps 4 = .one (.t (I k))) : awpK Tryz.prog 218 (pureEnd [.tmp 2] (.one (.t (I v.r4)))) c158t84 [] st := by
  have rest := frm83 v hv
  obtain ⟨h1, h2⟩ := h1
  obtain ⟨o1, o2, o3, o4⟩ := objF h2
  obtain ⟨a, ea⟩ : ∃ x, decide (200 < v.s.size) = x := ⟨_, rfl⟩
  have ea' : decide ((200 : Int) < (v.s.size : Int)) = a := by rw [← ea]; congr 1; simp; omega
  obtain ⟨b, eb⟩ : ∃ x, (v.kind == 3) = x := ⟨_, rfl⟩
  obtain ⟨c, ec⟩ : ∃ x, (v.kind == 13) = x := ⟨_, rfl⟩
  obtain ⟨d, ed⟩ : ∃ x, decide (k < (v.items.length : Int)) = x := ⟨_, rfl⟩
  have ed' : decide ((if v.kind == 9 then 16 else 40) < v.items.length) = d := by
    rw [← ed, ← hk]; congr 1
    by_cases q : v.kind = 9
    · simp [q]; omega
    · simp [q]; omega
  obtain ⟨u1, m1⟩ : ∃ x, (a && !b) = x := ⟨_, rfl⟩
  obtain ⟨u2, m2⟩ : ∃ x, (u1 && !c) = x := ⟨_, rfl⟩
  obtain ⟨u3, m3⟩ : ∃ x, (u2 || d) = x := ⟨_, rfl⟩
  have e0 : v.r4 = if u3 then 2 else v.r3 := by
    simp only [Vl.r4, Vl.largeR, ea, bne, eb, ec, ed', m1, m2, m3]
  rw [e0]
  generalize v.r3 = R at *
  simp -implicitDefEqProofs [-guardOk, -gval, h1, h4, o1, o2, o3, ea', eb, ec, ed, bne, m1, m2, m3, -Bool.not_or, -Bool.not_and]
  refine ⟨fun h => ?_, fun h => ?_⟩
  · subst h; simp -implicitDefEqProofs [-guardOk, -gval, pureEnd]
  · subst h
    exact rest _ ⟨by simp [h1], by simp [h2]⟩ (by simp <;> omega)
attribute [local simp] c158r0 c158r1 c158r2 c158t3 c158r3 c158r4 c158r5 c158t7 c158r6 c158r7 c158t10 c158r8 c158r9 c158r10 c158t14 c158r11 c158r12 c158t17 c158r13 c158r14 c158t20 c158r15 c158r16 c158r17 c158t24 c158r19 c158r20 c158t27 c158r18 c158t29 c158b30 c158t31 c158t32 c158r21 c158r22 c158t35 c158r24 c158r25 c158t38 c158r23 c158t40 c158b41 c158t42 c158r26 c158r27 c158t45 c158r28 c158r29 c158t48 c158r31 c158r32 c158t51 c158r30 c158t53 c158b54 c158t55 c158r33 c158r34 c158t58 c158r36 c158r37 c158t61 c158r35 c158t63 c158b64 c158t65 c158r38 c158r39 c158t68 c158r41 c158r42 c158t71 c158r40 c158t73 c158b74 c158t75 c158r43 c158t77 c158t78 c158t79 c158t80 c158t81 c158t82 c158t83 c158t85 c158t86 c158t87 c158t88 c158t89 c158t90 c158 in
theorem frm87 (v : Vl) (hv : v.fine) (st : St) (h1 : VB v 1 st) (_hnx : 0 < st.nx) : awpK Tryz.prog 218 (pureEnd [.tmp 2] (.one (.t (I v.r5)))) c158t87 [] st := by
  have rest := frm84 v hv
  have hv' := (Vl.fine_iff v).1 hv
  obtain ⟨h1, h2⟩ := h1
  obtain ⟨o1, o2, o3, o4⟩ := objF h2
  rw [Vl.r5]
  simp -implicitDefEqProofs [-guardOk, -gval, h1, o1, o2, o3]
  refine callK.tree (P203 v hv'.2.2.2.1) rfl ?_
  rcases bb v.inRange with c | c
  · rw [c]
    rcases eqCases v.kind 9 with q | q
    · simp -implicitDefEqProofs [-guardOk, -gval, h1, o1, o2, o3, q]
      exact rest 16 (by simp [q]) _ ⟨by simp [h1], by simp [h2, q]⟩ (by simp <;> omega) (by simp)
    · simp -implicitDefEqProofs [-guardOk, -gval, h1, o1, o2, o3, q]
      exact rest 40 (by simp [q]) _ ⟨by simp [h1], by simp [h2]⟩ (by simp <;> omega) (by simp)
  · rw [c]
    simp -implicitDefEqProofs [-guardOk, -gval, pureEnd]
attribute [local simp] c158r0 c158r1 c158r2 c158t3 c158r3 c158r4 c158r5 c158t7 c158r6 c158r7 c158t10 c158r8 c158r9 c158r10 c158t14 c158r11 c158r12 c158t17 c158r13 c158r14 c158t20 c158r15 c158r16 c158r17 c158t24 c158r19 c158r20 c158t27 c158r18 c158t29 c158b30 c158t31 c158t32 c158r21 c158r22 c158t35 c158r24 c158r25 c158t38 c158r23 c158t40 c158b41 c158t42 c158r26 c158r27 c158t45 c158r28 c158r29 c158t48 c158r31 c158r32 c158t51 c158r30 c158t53 c158b54 c158t55 c158r33 c158r34 c158t58 c158r36 c158r37 c158t61 c158r35 c158t63 c158b64 c158t65 c158r38 c158r39 c158t68 c158r41 c158r42 c158t71 c158r40 c158t73 c158b74 c158t75 c158r43 c158t77 c158t78 c158t79 c158t80 c158t81 c158t82 c158t83 c158t84 c158t85 c158t86 c158t88 c158t89 c158t90 c158 in
theorem frm88 (v : Vl) (hv : v.fine) (st : St) (h1 : VB v 1 st) (_hnx : 0 < st.nx) (h3 : st.tmps 3 = .one (.t (.bool (hasN v.kind)))) : awpK Tryz.prog 218 (pureEnd [.tmp 2] (.one (.t (I v.r6)))) c158t88 [] st := by
  have rest := frm87 v hv
  obtain ⟨h1, h2⟩ := h1
  obtain ⟨o1, o2, o3, o4⟩ := objF h2
  obtain ⟨N, eN⟩ : ∃ x, hasN v.kind = x := ⟨_, rfl⟩
  obtain ⟨n, en⟩ : ∃ x, (v.n == 0) = x := ⟨_, rfl⟩
  obtain ⟨E, eE⟩ : ∃ x, (v.kind == 8) = x := ⟨_, rfl⟩
  obtain ⟨e, ee⟩ : ∃ x, (v.e == 0) = x := ⟨_, rfl⟩
  obtain ⟨S, eS⟩ : ∃ x, hasS v.kind = x := ⟨_, rfl⟩
  obtain ⟨s, es⟩ : ∃ x, (v.s.toList == (bs []).toList) = x := ⟨_, rfl⟩
  obtain ⟨M, eM⟩ : ∃ x, hasNm v.kind = x := ⟨_, rfl⟩
  obtain ⟨m, em⟩ : ∃ x, decide (0 < v.names.length) = x := ⟨_, rfl⟩
  obtain ⟨F, eF⟩ : ∃ x, hasIt v.kind = x := ⟨_, rfl⟩
  obtain ⟨f, ef⟩ : ∃ x, decide (0 < v.items.length) = x := ⟨_, rfl⟩
  obtain ⟨u1, m1⟩ : ∃ x, (!N && !n) = x := ⟨_, rfl⟩
  obtain ⟨x2, m2⟩ : ∃ x, (!E && !e) = x := ⟨_, rfl⟩
  obtain ⟨u2, m3⟩ : ∃ x, (u1 || x2) = x := ⟨_, rfl⟩
  obtain ⟨y3, m4⟩ : ∃ x, (!S && !s) = x := ⟨_, rfl⟩
  obtain ⟨y4, m5⟩ : ∃ x, (!M && m) = x := ⟨_, rfl⟩
  obtain ⟨y5, m6⟩ : ∃ x, (!F && f) = x := ⟨_, rfl⟩
  have e0 : v.r6 = if (u2 || y3 || y4 || y5) then 5 else v.r5 := by
    have es' : seqB v.s (bs []) = s := es
    simp only [Vl.r6, Vl.formBad, eN, bne, en, hasE, eE, ee, eS, es', eM, em, eF, ef, m1, m2, m3, m4, m5, m6]
  rw [e0]
  generalize v.r5 = R at *
  have p200 := P200 v.kind
  have p201 : PSp Tryz.prog 201 [.one (.t (I v.kind))] (.one (.t (.bool (hasNm v.kind)))) := P201 v.kind
  have p202 := P202 v.kind
  rw [eS] at p200
  rw [eM] at p201
  rw [eF] at p202
  rw [eN] at h3
  rcases bb u2 with rfl | rfl
  · simp -implicitDefEqProofs [-guardOk, -gval, h1, h3, o1, o2, o3, en, eE, ee, bne, m1, m2, m3, -Bool.not_or, -Bool.not_and]
    refine ⟨fun h => by simp [h], ?_⟩
    simp -implicitDefEqProofs [-guardOk, -gval, pureEnd]
  · simp -implicitDefEqProofs [-guardOk, -gval, h1, h3, o1, o2, o3, en, eE, ee, bne, m1, m2, m3, -Bool.not_or, -Bool.not_and]
    refine ⟨fun h => by simp [h], ?_⟩
    refine callK.tree p200 rfl ?_
    rcases bb y3 with rfl | rfl
    · simp -implicitDefEqProofs [-guardOk, -gval, h1, o1, o2, o3, es, m4, -Bool.not_or, -Bool.not_and]
      simp -implicitDefEqProofs [-guardOk, -gval, pureEnd]
    · simp -implicitDefEqProofs [-guardOk, -gval, h1, o1, o2, o3, es, m4, -Bool.not_or, -Bool.not_and]
      refine callK.tree p201 rfl ?_
      rcases bb y4 with rfl | rfl
      · simp -implicitDefEqProofs [-guardOk, -gval, h1, o1, o2, o3, em, m5, -Bool.not_or, -Bool.not_and]
        simp -implicitDefEqProofs [-guardOk, -gval, pureEnd]
      · simp -implicitDefEqProofs [-guardOk, -gval, h1, o1, o2, o3, em, m5, -Bool.not_or, -Bool.not_and]
        refine callK.tree p202 rfl ?_
        rcases bb y5 with rfl | rfl
        · simp -implicitDefEqProofs [-guardOk, -gval, h1, o1, o2, o3, ef, m6, -Bool.not_or, -Bool.not_and]
          simp -implicitDefEqProofs [-guardOk, -gval, pureEnd]
        · simp -implicitDefEqProofs [-guardOk, -gval, h1, o1, o2, o3, ef, m6, -Bool.not_or, -Bool.not_and]
          exact rest _ ⟨by simp [h1], by simp [h2]⟩ (by simp <;> omega)
attribute [local simp] c158r0 c158r1 c158r2 c158t3 c158r3 c158r4 c158r5 c158t7 c158r6 c158r7 c158t10 c158r8 c158r9 c158r10 c158t14 c158r11 c158r12 c158t17 c158r13 c158r14 c158t20 c158r15 c158r16 c158r17 c158t24 c158r19 c158r20 c158t27 c158r18 c158t29 c158b30 c158t31 c158t32 c158r21 c158r22 c158t35 c158r24 c158r25 c158t38 c158r23 c158t40 c158b41 c158t42 c158r26 c158r27 c158t45 c158r28 c158r29 c158t48 c158r31 c158r32 c158t51 c158r30 c158t53 c158b54 c158t55 c158r33 c158r34 c158t58 c158r36 c158r37 c158t61 c158r35 c158t63 c158b64 c158t65 c158r38 c158r39 c158t68 c158r41 c158r42 c158t71 c158r40 c158t73 c158b74 c158t75 c158r43 c158t77 c158t78 c158t79 c158t80 c158t81 c158t82 c158t83 c158t84 c158t85 c158t86 c158t87 c158t89 c158t90 c158 in
theorem P158 (v : Vl) (hv : v.fine) : PSp Tryz.prog 158 [.agg (vlC v)] (.one (.t (I v.ownR))) := by
  have rest := frm88 v hv
  refine k158.pureK (by simp) (by simp [D.closed, A.closed]) rfl ?_
  obtain ⟨R, hR⟩ : ∃ R, v.ownR = R := ⟨_, rfl⟩
  rw [hR]
  rw [Vl.ownR] at hR
  simp -implicitDefEqProofs [-guardOk, -gval]
  refine callK.tree (WithinP _ _ _) rfl ?_
  obtain ⟨a, ea⟩ : ∃ x, (decide (0 ≤ v.kind) && decide (v.kind ≤ 14)) = x := ⟨_, rfl⟩
  rw [ea] at hR ⊢
  cases a
  · simp at hR; subst hR
    simp -implicitDefEqProofs [-guardOk, -gval, pureEnd]
  · simp only [if_true] at hR; subst hR
    simp -implicitDefEqProofs [-guardOk, -gval]
    refine callK.pure (P46 [1, 2, 8, 14] v.kind (by simp [short])) (by simp) (by simp [ints]) ?_
    have e : ([1, 2, 8, 14].any fun x => x == v.kind) = hasN v.kind := by
      rw [Bool.eq_iff_iff]; simp [hasN]; omega
    rw [e]
    simp -implicitDefEqProofs [-guardOk, -gval]
    refine rest _ ⟨?_, ?_⟩ ?_ ?_
    · simp
    · simp [Hp.set]
    · simp
    · simp
mutual
def Vl.formR : Vl → Int
  | .mk k n e s ns is => if (Vl.mk k n e s ns is).ownR != 0 then (Vl.mk k n e s ns is).ownR else formRs is
def formRs : List Vl → Int
  | [] => 0
  | v :: r => if v.formR != 0 then v.formR else formRs r
end
theorem Vl.formR_eq (v : Vl) : v.formR = if v.ownR != 0 then v.ownR else formRs v.items := by cases v; rw [Vl.formR]; rfl
attribute [local simp] c127r0 c127r1 c127r2 c127r3 c127t4 c127t5 c127r4 c127r5 c127t8 c127r7 c127r8 c127r9 c127t12 c127t13 c127r6 c127t15 c127b16 c127t17 c127r10 c127t19 c127t20 c127 in
theorem win19 (v : Vl) (hl : short v.items) (IH : ∀ x ∈ v.items, PSp Tryz.prog 127 [.agg (vlC x)] (.one (.t (I x.formR)))) (st : St) (h1 : VB v 1 st) (_hnx : 0 < st.nx) : awpK Tryz.prog 27 (pureEnd [.tmp 2] (.one (.t (I (formRs v.items))))) c127t19 [] st := by
  obtain ⟨h1, h2⟩ := h1
  obtain ⟨o1, o2, o3, o4⟩ := objF h2
  simp -implicitDefEqProofs [-guardOk, -gval]
  refine loopRec v.items (fun _ r (_ : Unit) => formRs r) (formRs v.items) () [1] [0] (fun i _ st => st.tmps 4 = .one (.t (I i))) hl rfl ⟨by simp, by simp, by simp []⟩ ?_ ?_
  · intro i y _ st' hi hiI hw hg hy hR hx hk hh
    simp [h1] at hk hh
    rw [formRs] at hR
    generalize formRs v.items = R at *
    obtain ⟨o1, o2, o3, o4⟩ := objF (hh.1.trans h2)
    simp -implicitDefEqProofs [-guardOk, -gval, hx, hk, hiI, hi, o1, o2, o3, rowAtM hg, Vl.row_eq, -List.getElem_map]
    refine callK.tree (IH y hy) rfl ?_
    rcases eqCases y.formR 0 with e | e
    · rw [e] at hR ⊢
      simp at hR
      simp -implicitDefEqProofs [-guardOk, -gval, hx, hk, hw, h1]
      exact ⟨hR, hh.1⟩
    · simp -implicitDefEqProofs [-guardOk, -gval, e, pureEnd]
      simpa [e] using hR
  · intro _ st' hR hx hk hh
    simp [h1] at hk hh
    rw [formRs] at hR
    generalize formRs v.items = R at *
    obtain ⟨o1, o2, o3, o4⟩ := objF (hh.1.trans h2)
    simp -implicitDefEqProofs [-guardOk, -gval, hx, hk, o1, o2, o3, pureEnd]
    exact hR
attribute [local simp] c127r0 c127r1 c127r2 c127r3 c127t4 c127t5 c127r4 c127r5 c127t8 c127r7 c127r8 c127r9 c127t12 c127t13 c127r6 c127t15 c127b16 c127t17 c127r10 c127t20 c127 in
theorem step127 (v : Vl) (hv : v.fine) (IH : ∀ x ∈ v.items, PSp Tryz.prog 127 [.agg (vlC x)] (.one (.t (I x.formR)))) : PSp Tryz.prog 127 [.agg (vlC v)] (.one (.t (I v.formR))) := by
  rw [Vl.formR_eq]
  refine k127.pureK (by simp) (by simp [D.closed, A.closed]) rfl ?_
  have rest := win19 v ((Vl.fine_iff v).1 hv).2.2.2.1 IH
  simp -implicitDefEqProofs [-guardOk, -gval]
  refine callK.tree (P158 v hv) rfl ?_
  rcases eqCases v.ownR 0 with e | e
  · rw [e]
    simp -implicitDefEqProofs [-guardOk, -gval]
    exact rest _ ⟨by simp, by simp [Hp.set]⟩ (by simp)
  · simp -implicitDefEqProofs [-guardOk, -gval, e, pureEnd]
theorem P127 : ∀ v : Vl, v.fine → PSp Tryz.prog 127 [.agg (vlC v)] (.one (.t (I v.formR))) :=
  Vl.ind fun v IH hv => step127 v hv fun x hx => IH x hx (((Vl.fine_iff v).1 hv).2.2.2.2 x hx)
def Vl.formErrR (v : Vl) : Int := if (v.sz 8 (120, false)).2 then 2 else v.formR
attribute [local simp] c75r0 c75r1 c75r2 c75r3 c75 in
theorem P75 (v : Vl) (hv : v.fine) : PSp Tryz.prog 75 [.agg (vlC v)] (.one (.t (I v.formErrR))) := by
  refine k75.pureK (by simp) (by simp [D.closed, A.closed]) rfl ?_
  rw [Vl.formErrR]
  simp -implicitDefEqProofs [-guardOk, -gval]
  refine callK.tree (P126 v 120 hv) rfl ?_
  cases (v.sz 8 (120, false)).2
  · simp -implicitDefEqProofs [-guardOk, -gval]
    refine callK.tree (P127 v hv) rfl ?_
    simp -implicitDefEqProofs [-guardOk, -gval, pureEnd]
  · simp -implicitDefEqProofs [-guardOk, -gval, pureEnd]
end Go.Proofs.YtdpbobkcbakpfaaGreatDoor

namespace Go.Proofs.YtdpbobkcbakpfaaGreatDoor
open Go Go.Ab
set_option maxRecDepth 100000
set_option maxHeartbeats 4000000
attribute [local simp] tagsT fieldsT typesT nodesT valsT textsT intsT tyC fdC vlC ndC hset_hset D.isPt D.pt
def dfltR : List Vl → Int
  | [] => 0
  | v :: _ => v.formErrR
mutual
def Ty.winR : Ty → Int
  | .mk k nm tg fs o r of l => if (Ty.mk k nm tg fs o r of l).ownR != 0 then (Ty.mk k nm tg fs o r of l).ownR else if fdsR (!(k == 3 || k == 14)) fs != 0 then fdsR (!(k == 3 || k == 14)) fs else tysR of
def Fd.winR (h : Bool) : Fd → Int
  | .mk _ _ t _ d _ => if h then (if t.winR != 0 then t.winR else dfltR d) else 0
def fdsR (h : Bool) : List Fd → Int
  | [] => 0
  | f :: r => if f.winR h != 0 then f.winR h else fdsR h r
def tysR : List Ty → Int
  | [] => 0
  | t :: _ => t.winR
end
theorem Ty.winR_eq (t : Ty) : t.winR = if t.ownR != 0 then t.ownR else if fdsR (!(t.kind == 3 || t.kind == 14)) t.fields != 0 then fdsR (!(t.kind == 3 || t.kind == 14)) t.fields else tysR t.of := by
  cases t; rw [Ty.winR]; rfl
theorem Fd.winR_eq (h : Bool) (f : Fd) : f.winR h = if h then (if f.ty.winR != 0 then f.ty.winR else dfltR f.dflt) else 0 := by
  cases f; rw [Fd.winR]; rfl
theorem fdsR_false : ∀ l : List Fd, fdsR false l = 0
  | [] => by rw [fdsR]
  | f :: r => by rw [fdsR, Fd.winR_eq, fdsR_false r]; rfl
attribute [local simp] c113r0 c113r1 c113r2 c113r3 c113t4 c113t5 c113r4 c113r5 c113t8 c113r7 c113t10 c113r8 c113r9 c113r10 c113t14 c113t15 c113r11 c113r12 c113r13 c113r14 c113t20 c113t21 c113t22 c113t23 c113t24 c113r6 c113t26 c113b27 c113t28 c113r15 c113r16 c113t31 c113r17 c113t33 c113t34 c113t35 c113 in
theorem win33 (t : Ty) (IH : ∀ x ∈ t.of, PSp Tryz.prog 113 [.agg (tyC x)] (.one (.t (I x.winR)))) (R : Int) (hR : tysR t.of = R) (st : St) (h1 : TB t 1 st) (_hnx : 0 < st.nx) : awpK Tryz.prog 66 (pureEnd [.tmp 2] (.one (.t (I R)))) c113t33 [] st := by
  obtain ⟨h1, h2⟩ := h1
  obtain ⟨o1, o2, o3, o4⟩ := objF h2
  rcases ho : t.of with - | ⟨o, r⟩
  · rw [ho, tysR] at hR
    subst hR
    simp -implicitDefEqProofs [-guardOk, -gval, h1, o1, o2, o3, ho, pureEnd]
  · rw [ho, tysR] at hR
    subst hR
    have hlen : (0 : Int) < ((r.length : Int) + 1) := by omega
    have ih := IH o (by rw [ho]; simp)
    simp -implicitDefEqProofs [-guardOk, -gval, h1, o1, o2, o3, ho, hlen, Ty.row_eq]
    refine callK.tree ih rfl ?_
    simp -implicitDefEqProofs [-guardOk, -gval, pureEnd]
attribute [local simp] c113r0 c113r1 c113r2 c113r3 c113t4 c113t5 c113r4 c113r5 c113t8 c113r7 c113t10 c113r8 c113r9 c113r10 c113t14 c113t15 c113r11 c113r12 c113r13 c113r14 c113t20 c113t21 c113t22 c113t23 c113t24 c113r6 c113t26 c113b27 c113t28 c113r15 c113r16 c113t31 c113r17 c113t34 c113t35 c113 in
theorem win34 (t : Ty) (hn : t.narrow = true) (IHf : ∀ x ∈ t.fields, PSp Tryz.prog 113 [.agg (tyC x.ty)] (.one (.t (I x.ty.winR)))) (IH : ∀ x ∈ t.of, PSp Tryz.prog 113 [.agg (tyC x)] (.one (.t (I x.winR)))) (h : Bool) (hh0 : (!(t.kind == 3 || t.kind == 14)) = h) (R : Int) (hR0 : (if fdsR h t.fields != 0 then fdsR h t.fields else tysR t.of) = R) (st : St) (h1 : TB t 1 st) (_hnx : 0 < st.nx) :
    awpK Tryz.prog 66 (pureEnd [.tmp 2] (.one (.t (I R)))) c113t34 [] st := by
  have hnr := (Ty.narrow_iff t).1 hn
  have hle := hnr.2.2.1
  have rest := win33 t IH
  obtain ⟨h1, h2⟩ := h1
  obtain ⟨o1, o2, o3, o4⟩ := objF h2
  cases h
  · have h0 : (t.kind == 3 || t.kind == 14) = true := by rcases bb (t.kind == 3 || t.kind == 14) with z | z <;> simp_all
    rw [fdsR_false] at hR0
    simp only [bne_self_eq_false, Bool.false_eq_true, if_false] at hR0
    simp -implicitDefEqProofs [-guardOk, -gval]
    refine loopAll ([] : List Fd) (fun f => !isNum f.num) [1] [0] (fun i st => st.tmps 4 = .one (.t (I 0))) (by simp [short]) ⟨by simp, by simp, by simp []⟩ ?_ ?_
    · intro i f st' hi; simp at hi
    · intro st' hany hx hk hh
      simp [h1] at hk hh hx
      obtain ⟨o1, o2, o3, o4⟩ := objF (hh.1.trans h2)
      obtain ⟨b, eb⟩ : ∃ x, decide (0 < t.fields.length) = x := ⟨_, rfl⟩
      cases b
      · simp -implicitDefEqProofs [-guardOk, -gval, hk, hx, o1, o2, o3, eb]
        exact rest R hR0 _ ⟨by simp [hk], by simp [hh, h2]⟩ (by simp <;> omega)
      · simp -implicitDefEqProofs [-guardOk, -gval, hk, hx, o1, o2, o3, eb, h0]
        exact rest R hR0 _ ⟨by simp [hk], by simp [hh, h2]⟩ (by simp <;> omega)
  · have h0 : (t.kind == 3 || t.kind == 14) = false := by rcases bb (t.kind == 3 || t.kind == 14) with z | z <;> simp_all
    simp -implicitDefEqProofs [-guardOk, -gval]
    refine loopRec t.fields (fun _ r (_ : Unit) => if fdsR true r != 0 then fdsR true r else tysR t.of) R () [1] [0] (fun i _ st => st.tmps 4 = .one (.t (I i))) (by simp [short]; omega) hR0 ⟨by simp, by simp, by simp []⟩ ?_ ?_
    · intro i f _ st' hi hiI hw hg hy hR hx hk hh
      simp [h1] at hk hh
      rw [fdsR] at hR
      have hfn := (Fd.narrow_iff _).1 (hnr.2.2.2.2.2.2.1 _ hy)
      obtain ⟨o1, o2, o3, o4⟩ := objF (hh.1.trans h2)
      simp -implicitDefEqProofs [-guardOk, -gval, hx, hk, hiI, hi, rowAtM hg, Fd.row_eq, o1, o2, o3, h0, -List.getElem_map]
      refine callK.tree (IHf f hy) rfl ?_
      rw [Fd.winR_eq] at hR
      simp only [if_true] at hR
      rcases eqCases f.ty.winR 0 with e | e
      · rw [e] at hR ⊢
        simp only [bne_self_eq_false, Bool.false_eq_true, if_false] at hR
        rcases hd : f.dflt with - | ⟨d, r⟩
        · rw [hd, dfltR] at hR
          simp only [bne_self_eq_false, Bool.false_eq_true, if_false] at hR
          simp -implicitDefEqProofs [-guardOk, -gval, hx, hk, hiI, hi, rowAtM hg, Fd.row_eq, o1, o2, o3, hd, hw, h1, -List.getElem_map]
          exact ⟨by simpa using hR, hh.1⟩
        · rw [hd, dfltR] at hR
          have hlen : (0 : Int) < ((r.length : Int) + 1) := by omega
          have hdf : d.fine := Vl.slim_fine d (Vl.few_slim (hfn.2.2.2 d (by rw [hd]; simp)))
          simp -implicitDefEqProofs [-guardOk, -gval, hx, hk, hiI, hi, rowAtM hg, Fd.row_eq, o1, o2, o3, hd, hlen, Vl.row_eq, -List.getElem_map]
          refine callK.tree (P75 d hdf) rfl ?_
          rcases eqCases d.formErrR 0 with e2 | e2
          · rw [e2] at hR ⊢
            simp only [bne_self_eq_false, Bool.false_eq_true, if_false] at hR
            simp -implicitDefEqProofs [-guardOk, -gval, hx, hk, hw, h1]
            exact ⟨by simpa using hR, hh.1⟩
          · simp -implicitDefEqProofs [-guardOk, -gval, e2, pureEnd]
            simpa [e2] using hR
      · simp -implicitDefEqProofs [-guardOk, -gval, e, pureEnd]
        simpa [e] using hR
    · intro _ st' hR hx hk hh
      simp [h1] at hk hh
      rw [fdsR] at hR
      simp only [bne_self_eq_false, Bool.false_eq_true, if_false] at hR
      obtain ⟨o1, o2, o3, o4⟩ := objF (hh.1.trans h2)
      simp -implicitDefEqProofs [-guardOk, -gval, hx, hk, o1, o2, o3]
      exact rest R hR _ ⟨by simp [hk], by simp [hh.1, h2]⟩ (by simp)
attribute [local simp] c113r0 c113r1 c113r2 c113r3 c113t4 c113t5 c113r4 c113r5 c113t8 c113r7 c113t10 c113r8 c113r9 c113r10 c113t14 c113t15 c113r11 c113r12 c113r13 c113r14 c113t20 c113t21 c113t22 c113t23 c113t24 c113r6 c113t26 c113b27 c113t28 c113r15 c113r16 c113t31 c113r17 c113t33 c113t35 c113 in
theorem step113 (t : Ty) (hn : t.narrow = true) (IHf : ∀ x ∈ t.fields, PSp Tryz.prog 113 [.agg (tyC x.ty)] (.one (.t (I x.ty.winR)))) (IH : ∀ x ∈ t.of, PSp Tryz.prog 113 [.agg (tyC x)] (.one (.t (I x.winR)))) : PSp Tryz.prog 113 [.agg (tyC t)] (.one (.t (I t.winR))) := by
  obtain ⟨R, hR⟩ : ∃ R, t.winR = R := ⟨_, rfl⟩
  rw [hR]
  rw [Ty.winR_eq] at hR
  have rest := win34 t hn IHf IH _ rfl _ rfl
  generalize (if fdsR (!(t.kind == 3 || t.kind == 14)) t.fields != 0 then fdsR (!(t.kind == 3 || t.kind == 14)) t.fields else tysR t.of) = R2 at *
  refine k113.pureK (by simp) (by simp [D.closed, A.closed]) rfl ?_
  simp -implicitDefEqProofs [-guardOk, -gval]
  refine callK.tree (P153 t hn) rfl ?_
  rcases eqCases t.ownR 0 with e | e
  · rw [e] at hR ⊢
    simp only [bne_self_eq_false, Bool.false_eq_true, if_false] at hR
    subst hR
    simp -implicitDefEqProofs [-guardOk, -gval]
    refine rest _ ⟨?_, ?_⟩ ?_
    · simp
    · simp [Hp.set]
    · simp
  · simp -implicitDefEqProofs [-guardOk, -gval, e, pureEnd]
    simpa [e] using hR
theorem P113 : ∀ t : Ty, t.narrow = true → PSp Tryz.prog 113 [.agg (tyC t)] (.one (.t (I t.winR))) :=
  Ty.ind fun t IHf IH hn => by
    have h := (Ty.narrow_iff t).1 hn
    exact step113 t hn (fun x hx => IHf x hx ((Fd.narrow_iff x).1 (h.2.2.2.2.2.2.1 x hx)).2.2.1) fun x hx => IH x hx (h.2.2.2.2.2.2.2 x hx)
def Ty.typeErrR (t : Ty) : Int := if (t.sz 9 (60, false)).2 then 2 else t.winR
attribute [local simp] c67r0 c67r1 c67r2 c67r3 c67 in
theorem P67 (t : Ty) (hn : t.narrow = true) : PSp Tryz.prog 67 [.agg (tyC t)] (.one (.t (I t.typeErrR))) := by
  refine k67.pureK (by simp) (by simp [D.closed, A.closed]) rfl ?_
  rw [Ty.typeErrR]
  simp -implicitDefEqProofs [-guardOk, -gval]
  refine callK.tree (P112 t 60 (Ty.narrow_fine t hn)) rfl ?_
  cases (t.sz 9 (60, false)).2
  · simp -implicitDefEqProofs [-guardOk, -gval]
    refine callK.tree (P113 t hn) rfl ?_
    simp -implicitDefEqProofs [-guardOk, -gval, pureEnd]
  · simp -implicitDefEqProofs [-guardOk, -gval, pureEnd]
end Go.Proofs.YtdpbobkcbakpfaaGreatDoor

namespace Go.Proofs.YtdpbobkcbakpfaaGreatDoor
open Go Go.Ab
set_option maxRecDepth 100000
set_option maxHeartbeats 4000000
theorem cmpI_anti (a b : Int) : cmpI b a = - cmpI a b := by
  simp only [cmpI]
  by_cases h1 : a < b
  · have : ¬ b < a := by omega
    simp [h1, this]
  · by_cases h2 : b < a
    · simp [h1, h2]
    · simp [h1, h2]
theorem bytes_anti : ∀ a b : List UInt8, Lib.compareBytes b a = - Lib.compareBytes a b
  | [], [] => rfl
  | [], _ :: _ => rfl
  | _ :: _, [] => rfl
  | a :: r, b :: s => by
    simp only [Lib.compareBytes]
    by_cases h1 : a < b
    · have : ¬ b < a := fun h => UInt8.lt_asymm h h1
      simp [h1, this]
    · by_cases h2 : b < a
      · simp [h1, h2]
      · simp only [h1, h2, if_false]; exact bytes_anti r s
theorem texts_anti : ∀ a b : List ByteArray, cmpTexts b a = - cmpTexts a b
  | [], [] => rfl
  | [], _ :: _ => rfl
  | _ :: _, [] => rfl
  | x :: r, y :: s => by
    have e : cmpStr y x = - cmpStr x y := by rw [cmpStr_eq, cmpStr_eq]; exact bytes_anti _ _
    simp only [cmpTexts, e, texts_anti r s]
    by_cases h : cmpStr x y = 0
    · simp [h]
    · simp [h]
theorem firstE_anti : ∀ l : List Int, firstE (l.map fun x => -x) = - firstE l
  | [] => rfl
  | x :: r => by
    rw [List.map_cons, firstE_cons, firstE_cons, firstE_anti r]
    by_cases h : x = 0
    · simp [h]
    · simp [h]
theorem vals_anti : ∀ a b : List Vl, (∀ x ∈ a, ∀ y, y.cmp x = - x.cmp y) → cmpVals b a = - cmpVals a b
  | [], [], _ => by simp [cmpVals]
  | [], _ :: _, _ => by simp [cmpVals]
  | _ :: _, [], _ => by simp [cmpVals]
  | x :: r, y :: s, h => by
    have e := h x (by simp) y
    simp only [cmpVals, e, vals_anti r s (fun x hx => h x (by simp [hx]))]
    by_cases h : x.cmp y = 0
    · simp [h]
    · simp [h]
theorem Vl.cmp_anti : ∀ x y : Vl, y.cmp x = - x.cmp y :=
  Vl.ind fun x IH y => by
    rw [Vl.cmp_eq, Vl.cmp_eq x y, ← firstE_anti]
    simp only [List.map_cons, List.map_nil, ← cmpI_anti, ← bytes_anti, ← texts_anti, ← vals_anti x.items y.items IH]
theorem unsorted_eq (l : List Vl) : unsorted l = (List.range (l.length - 1)).any (descAt l) := by
  have key : ∀ j, j < l.length - 1 → descAt l j = gtAt l (l.length - 2 - j) := fun j hj => by
    have e : l.length - 2 - j + 1 = l.length - 1 - j := by omega
    have g1 : l[l.length - 1 - j]? = some (l[l.length - 1 - j]'(by omega)) := List.getElem?_eq_getElem _
    have g2 : l[l.length - 2 - j]? = some (l[l.length - 2 - j]'(by omega)) := List.getElem?_eq_getElem _
    simp only [descAt, gtAt, e, g1, g2]
    rw [Vl.cmp_anti (l[l.length - 2 - j]'(by omega))]
    congr 1
    simp
  rw [unsorted, Bool.eq_iff_iff]
  simp only [List.any_eq_true, List.mem_range]
  constructor
  · rintro ⟨i, hi, h⟩
    refine ⟨l.length - 2 - i, by omega, ?_⟩
    rw [key _ (by omega), show l.length - 2 - (l.length - 2 - i) = i by omega]
    exact h
  · rintro ⟨j, hj, h⟩
    rw [key j hj] at h
    exact ⟨_, by omega, h⟩
theorem large_eq (v : Vl) (h : v.formBad = false) : v.largeR = v.large := by
  have hs : hasS v.kind = true ∨ seqB v.s (bs []) = true := by
    simp only [Vl.formBad, Bool.or_eq_false_iff, Bool.and_eq_false_iff, Bool.not_eq_false'] at h
    exact h.1.1.2
  simp only [Vl.largeR, Vl.large]
  congr 1
  rcases hs with h | h
  · have : v.kind = 3 ∨ v.kind = 4 ∨ v.kind = 5 ∨ v.kind = 6 ∨ v.kind = 13 := by simp [hasS] at h; omega
    rcases this with q | q | q | q | q <;> simp [Vl.isText, q]
  · have : v.s.size = 0 := by
      simp only [seqB, ByteArray.toList_eq, beq_iff_eq] at h
      have := congrArg List.length h
      rw [dsize, dsize] at this
      exact this.trans rfl
    simp [this]
theorem Vl.ownR_eq (v : Vl) : v.ownR = v.ownErr := by
  rw [Vl.ownR, Vl.ownErr]
  congr 1
  rw [Vl.r6, Vl.own1]
  rcases bb v.formBad with h | h
  · simp [h]
  · have e : v.r1 = v.own6 := by
      rw [Vl.r1, Vl.own6, Vl.own7, unsorted_eq]
      congr 2
      by_cases q : v.kind = 11
      · simp only [q, beq_self_eq_true, Bool.true_and, bne_self_eq_false, Bool.false_or]
        cases (List.range (v.items.length - 1)).any (descAt v.items) <;> rfl
      · simp [q]
    rw [h, Vl.r5, Vl.own2, Vl.r4, Vl.own3, Vl.r3, Vl.own4, Vl.r2, Vl.own5, e, large_eq v h]
theorem formRs_eq : ∀ l : List Vl, (∀ x ∈ l, x.formR = x.formErr) → formRs l = formErrs l
  | [], _ => by rw [formRs, formErrs]
  | x :: r, h => by rw [formRs, formErrs, h x (by simp), formRs_eq r (fun y hy => h y (by simp [hy]))]
theorem Vl.formR_eq2 : ∀ v : Vl, v.formR = v.formErr :=
  Vl.ind fun v IH => by rw [Vl.formR_eq, Vl.formErr_eq, Vl.ownR_eq, formRs_eq v.items IH]
end Go.Proofs.YtdpbobkcbakpfaaGreatDoor

namespace Go.Proofs.YtdpbobkcbakpfaaGreatDoor
open Go Go.Ab
set_option maxRecDepth 100000
set_option maxHeartbeats 4000000
theorem wr_id {x : Int} (h1 : -1000000 ≤ x) (h2 : x ≤ 1000000) : wr x = x := wrap_i64 (by omega) (by omega)
theorem Vl.sz_eq (lv : Int) (v : Vl) (s : Sz) : v.sz lv s = if (meetF lv s).2 then meetF lv s else szVs (wr (lv - 1)) v.items (meetF lv s) := by
  cases v; rw [Vl.sz]; rfl
theorem meet_bad {lv : Int} {s : Sz} (h : s.2 = true) : (meetF lv s).2 = true := by simp [meetF, h]
theorem meet_ok {lv : Int} {m : Int} (hm : m ≤ 100000) (hm0 : -100 ≤ m) (h : (meetF lv (m, false)).2 = false) : 1 ≤ m ∧ 1 ≤ lv ∧ meetF lv (m, false) = (m - 1, false) := by
  simp only [meetF] at h ⊢
  rw [wr_id (by omega) (by omega)] at h ⊢
  simp at h
  refine ⟨by omega, by omega, ?_⟩
  simp; omega
theorem meet_of {lv : Int} {m : Int} (hm : m ≤ 100000) (hm0 : 1 ≤ m) (hl : 1 ≤ lv) : meetF lv (m, false) = (m - 1, false) := by
  simp only [meetF]
  rw [wr_id (by omega) (by omega)]
  simp; omega
def VN (v : Vl) : Prop := ∀ (lv m : Int), 0 ≤ m → m ≤ 1000 → lv ≤ 1000 → (v.sz lv (m, false)).2 = false → ∃ r, 0 ≤ r ∧ r ≤ m ∧ ∀ (lv' d : Int), lv ≤ lv' → lv' ≤ 1000 → 0 ≤ d → d ≤ 1000 → v.sz lv' (m + d, false) = (r + d, false)
theorem szVs_n : ∀ (l : List Vl), (∀ x ∈ l, VN x) → ∀ (lv m : Int), 0 ≤ m → m ≤ 1000 → lv ≤ 1000 → (szVs lv l (m, false)).2 = false → ∃ r, 0 ≤ r ∧ r ≤ m ∧ ∀ (lv' d : Int), lv ≤ lv' → lv' ≤ 1000 → 0 ≤ d → d ≤ 1000 → szVs lv' l (m + d, false) = (r + d, false)
  | [], _, lv, m, h0, h1, h2, h => ⟨m, h0, Int.le_refl _, fun lv' d _ _ _ _ => by rw [szVs]⟩
  | v :: l, ih, lv, m, h0, h1, h2, h => by
    rw [szVs, if_neg (by simp)] at h
    have hb : (v.sz lv (m, false)).2 = false := by
      rcases bb (v.sz lv (m, false)).2 with c | c
      · rw [szVs_bad c, c] at h; cases h
      · exact c
    obtain ⟨r, r0, r1, hr⟩ := ih v (by simp) lv m h0 h1 h2 hb
    have e := hr lv 0 (Int.le_refl _) h2 (by omega) (by omega)
    rw [Int.add_zero, Int.add_zero] at e
    rw [e] at h
    obtain ⟨q, q0, q1, hq⟩ := szVs_n l (fun x hx => ih x (by simp [hx])) lv r r0 (by omega) h2 h
    refine ⟨q, q0, by omega, fun lv' d a b c e => ?_⟩
    rw [szVs, if_neg (by simp), hr lv' d a b c e]
    exact hq lv' d a b c e
theorem Vl.sz_n : ∀ v : Vl, VN v :=
  Vl.ind fun v IH lv m h0 h1 h2 h => by
    rw [Vl.sz_eq] at h
    have hb : (meetF lv (m, false)).2 = false := by
      rcases bb (meetF lv (m, false)).2 with c | c
      · rw [if_pos c, c] at h; cases h
      · exact c
    rw [if_neg (by rw [hb]; simp)] at h
    obtain ⟨m1, l1, e⟩ := meet_ok (by omega) (by omega) hb
    rw [e, wr_id (by omega) (by omega)] at h
    obtain ⟨r, r0, r1, hr⟩ := szVs_n v.items IH (lv - 1) (m - 1) (by omega) (by omega) (by omega) h
    refine ⟨r, r0, by omega, fun lv' d a b c e => ?_⟩
    rw [Vl.sz_eq, meet_of (by omega) (by omega) (by omega), if_neg (by simp), wr_id (by omega) (by omega), show m + d - 1 = m - 1 + d by omega]
    exact hr (lv' - 1) d (by omega) (by omega) c e
def FitV (v : Vl) : Prop := ∃ lv m : Int, 0 ≤ m ∧ m ≤ 60 ∧ lv ≤ 8 ∧ (v.sz lv (m, false)).2 = false
def Fit (t : Ty) : Prop := ∃ lv m : Int, 0 ≤ m ∧ m ≤ 60 ∧ lv ≤ 9 ∧ (t.sz lv (m, false)).2 = false
theorem fitV_small {v : Vl} (h : FitV v) : (v.sz 8 (120, false)).2 = false := by
  obtain ⟨lv, m, h0, h1, h2, h3⟩ := h
  obtain ⟨r, _, _, hr⟩ := Vl.sz_n v lv m h0 (by omega) (by omega) h3
  have := hr 8 (120 - m) h2 (by omega) (by omega) (by omega)
  rw [show m + (120 - m) = 120 by omega] at this
  rw [this]
theorem szVs_fit : ∀ (l : List Vl) (lv m : Int), 0 ≤ m → m ≤ 60 → lv ≤ 8 → (szVs lv l (m, false)).2 = false → (∃ r, 0 ≤ r ∧ r ≤ m ∧ szVs lv l (m, false) = (r, false)) ∧ ∀ d ∈ l, FitV d
  | [], lv, m, h0, h1, h2, h => ⟨⟨m, h0, Int.le_refl _, by rw [szVs]⟩, fun d hd => by simp at hd⟩
  | v :: l, lv, m, h0, h1, h2, h => by
    rw [szVs, if_neg (by simp)] at h ⊢
    have hb : (v.sz lv (m, false)).2 = false := by
      rcases bb (v.sz lv (m, false)).2 with c | c
      · rw [szVs_bad c, c] at h; cases h
      · exact c
    obtain ⟨r, r0, r1, hr⟩ := Vl.sz_n v lv m h0 (by omega) (by omega) hb
    have e := hr lv 0 (Int.le_refl _) (by omega) (by omega) (by omega)
    rw [Int.add_zero, Int.add_zero] at e
    rw [e] at h ⊢
    obtain ⟨⟨q, q0, q1, hq⟩, hd⟩ := szVs_fit l lv r r0 (by omega) h2 h
    refine ⟨⟨q, q0, by omega, hq⟩, fun d hd' => ?_⟩
    rcases List.mem_cons.1 hd' with rfl | hd'
    · exact ⟨lv, m, h0, h1, h2, hb⟩
    · exact hd d hd'
def TN (t : Ty) : Prop := ∀ (lv m : Int), 0 ≤ m → m ≤ 60 → lv ≤ 9 → (t.sz lv (m, false)).2 = false → ∃ r, 0 ≤ r ∧ r ≤ m ∧ t.sz lv (m, false) = (r, false)
theorem szFs_fit : ∀ (l : List Fd), (∀ f ∈ l, TN f.ty) → ∀ (lv m : Int), 0 ≤ m → m ≤ 60 → lv ≤ 8 → (szFs lv l (m, false)).2 = false → (∃ r, 0 ≤ r ∧ r ≤ m ∧ szFs lv l (m, false) = (r, false)) ∧ ∀ f ∈ l, Fit f.ty ∧ ∀ d ∈ f.dflt, FitV d
  | [], _, lv, m, h0, h1, h2, h => ⟨⟨m, h0, Int.le_refl _, by rw [szFs]⟩, fun d hd => by simp at hd⟩
  | f :: l, ih, lv, m, h0, h1, h2, h => by
    rw [szFs, if_neg (by simp)] at h ⊢
    have hb : (f.sz lv (m, false)).2 = false := by
      rcases bb (f.sz lv (m, false)).2 with c | c
      · rw [szFs_bad c, c] at h; cases h
      · exact c
    rw [Fd.sz_eq] at h hb ⊢
    have hb2 : (f.ty.sz lv (m, false)).2 = false := by
      rcases bb (f.ty.sz lv (m, false)).2 with c | c
      · rw [szVs_bad c, c] at hb; cases hb
      · exact c
    obtain ⟨r, r0, r1, hr⟩ := ih f (by simp) lv m h0 h1 (by omega) hb2
    rw [hr] at h hb ⊢
    obtain ⟨⟨q, q0, q1, hq⟩, hd⟩ := szVs_fit f.dflt lv r r0 (by omega) h2 hb
    rw [hq] at h ⊢
    obtain ⟨⟨p, p0, p1, hp⟩, hf⟩ := szFs_fit l (fun x hx => ih x (by simp [hx])) lv q q0 (by omega) h2 h
    refine ⟨⟨p, p0, by omega, hp⟩, fun x hx => ?_⟩
    rcases List.mem_cons.1 hx with rfl | hx
    · exact ⟨⟨lv, m, h0, h1, by omega, hb2⟩, hd⟩
    · exact hf x hx
theorem szTs_fit : ∀ (l : List Ty), (∀ x ∈ l, TN x) → ∀ (lv m : Int), 0 ≤ m → m ≤ 60 → lv ≤ 8 → (szTs lv l (m, false)).2 = false → (∃ r, 0 ≤ r ∧ r ≤ m ∧ szTs lv l (m, false) = (r, false)) ∧ ∀ o ∈ l, Fit o
  | [], _, lv, m, h0, h1, h2, h => ⟨⟨m, h0, Int.le_refl _, by rw [szTs]⟩, fun d hd => by simp at hd⟩
  | t :: l, ih, lv, m, h0, h1, h2, h => by
    rw [szTs, if_neg (by simp)] at h ⊢
    have hb : (t.sz lv (m, false)).2 = false := by
      rcases bb (t.sz lv (m, false)).2 with c | c
      · rw [szTs_bad c, c] at h; cases h
      · exact c
    obtain ⟨r, r0, r1, hr⟩ := ih t (by simp) lv m h0 h1 (by omega) hb
    rw [hr] at h ⊢
    obtain ⟨⟨p, p0, p1, hp⟩, hf⟩ := szTs_fit l (fun x hx => ih x (by simp [hx])) lv r r0 (by omega) h2 h
    refine ⟨⟨p, p0, by omega, hp⟩, fun x hx => ?_⟩
    rcases List.mem_cons.1 hx with rfl | hx
    · exact ⟨lv, m, h0, h1, by omega, hb⟩
    · exact hf x hx
theorem ty_split (t : Ty) (ihf : ∀ f ∈ t.fields, TN f.ty) (ih : ∀ o ∈ t.of, TN o) (lv m : Int) (h0 : 0 ≤ m) (h1 : m ≤ 60) (h2 : lv ≤ 9) (h : (t.sz lv (m, false)).2 = false) :
    (∃ r, 0 ≤ r ∧ r ≤ m ∧ t.sz lv (m, false) = (r, false)) ∧ (∀ f ∈ t.fields, Fit f.ty ∧ ∀ d ∈ f.dflt, FitV d) ∧ ∀ o ∈ t.of, Fit o := by
  rw [Ty.sz_eq] at h ⊢
  have hb : (meetF lv (m, false)).2 = false := by
    rcases bb (meetF lv (m, false)).2 with c | c
    · rw [if_pos c, c] at h; cases h
    · exact c
  rw [if_neg (by rw [hb]; simp)] at h ⊢
  obtain ⟨m1, l1, e⟩ := meet_ok (by omega) (by omega) hb
  rw [e, wr_id (by omega) (by omega)] at h ⊢
  have hb2 : (szFs (lv - 1) t.fields (m - 1, false)).2 = false := by
    rcases bb (szFs (lv - 1) t.fields (m - 1, false)).2 with c | c
    · rw [szTs_bad c, c] at h; cases h
    · exact c
  obtain ⟨⟨r, r0, r1, hr⟩, hf⟩ := szFs_fit t.fields ihf (lv - 1) (m - 1) (by omega) (by omega) (by omega) hb2
  rw [hr] at h ⊢
  obtain ⟨⟨p, p0, p1, hp⟩, ho⟩ := szTs_fit t.of ih (lv - 1) r r0 (by omega) (by omega) h
  exact ⟨⟨p, p0, by omega, hp⟩, hf, ho⟩
theorem Ty.sz_n : ∀ t : Ty, TN t := Ty.ind fun t ihf ih lv m h0 h1 h2 h => (ty_split t ihf ih lv m h0 h1 h2 h).1
theorem fit_parts {t : Ty} (h : Fit t) : (∀ f ∈ t.fields, Fit f.ty ∧ ∀ d ∈ f.dflt, FitV d) ∧ ∀ o ∈ t.of, Fit o := by
  obtain ⟨lv, m, h0, h1, h2, h3⟩ := h
  exact (ty_split t (fun f _ => Ty.sz_n f.ty) (fun o _ => Ty.sz_n o) lv m h0 h1 h2 h3).2
end Go.Proofs.YtdpbobkcbakpfaaGreatDoor

namespace Go.Proofs.YtdpbobkcbakpfaaGreatDoor
open Go Go.Ab
set_option maxRecDepth 100000
set_option maxHeartbeats 4000000
theorem firstE_zero {x : Int} {l : List Int} (h : firstE (x :: l) = 0) : x = 0 ∧ firstE l = 0 := by
  rw [firstE_cons] at h
  by_cases c : x = 0
  · simp [c] at h; exact ⟨c, h⟩
  · simp [c] at h
theorem parts_zero (t : Ty) (h : t.partsErr = 0) : t.formBad = false ∧ t.inShape = true := by
  rw [Ty.partsErr] at h
  rcases bb t.formBad with c | c
  · rw [c] at h; simp at h
  · refine ⟨c, ?_⟩
    rw [c] at h
    simp only [Bool.false_eq_true, if_false] at h
    have h1 : t.partsErr1 = 0 := by
      by_cases q : t.partsErr1 = 0
      · exact q
      · simp [q] at h
    rw [Ty.partsErr1] at h1
    have := (firstE_zero h1).1
    by_cases q : t.inShape = true
    · exact q
    · simp [q] at this
theorem of_one (t : Ty) (hf : t.formBad = false) (hs : t.inShape = true) : t.of.length ≤ 1 := by
  simp only [Ty.inShape, Bool.and_eq_true, Bool.not_eq_true'] at hs
  have h1 := hs.1.1.1
  simp only [Ty.shape1, Bool.or_eq_false_iff] at h1
  have h2 := h1.1
  simp only [Ty.formBad, Bool.or_eq_false_iff] at hf
  have h3 := hf.1.1.2
  rcases bb (isLst t.kind) with c | c
  · have c' : (t.kind == 11 || t.kind == 12) = true := c
    rw [c'] at h2
    simp at h2; omega
  · rw [c] at h3
    simp at h3; simp [h3]
theorem tys_eq (t : Ty) (h : t.of.length ≤ 1) (ih : ∀ o ∈ t.of, o.winR = o.typeErr) : tysR t.of = typeErrs t.of := by
  rcases e : t.of with - | ⟨o, r⟩
  · rw [tysR, typeErrs]
  · rw [e] at h
    have : r = [] := by
      have : r.length = 0 := by simp at h; simp [h]
      exact List.length_eq_zero_iff.1 this
    subst this
    rw [tysR, typeErrs, typeErrs, ih o (by rw [e]; simp)]
    by_cases q : o.typeErr = 0 <;> simp [q]
theorem dflt_eq (l : List Vl) (h : l.length ≤ 1) (hd : ∀ d ∈ l, FitV d) : dfltR l = formErrs l := by
  rcases l with - | ⟨d, r⟩
  · rw [dfltR, formErrs]
  · have : r = [] := by
      have : r.length = 0 := by simp at h; simp [h]
      exact List.length_eq_zero_iff.1 this
    subst this
    rw [dfltR, formErrs, formErrs, Vl.formErrR, fitV_small (hd d (by simp)), Vl.formR_eq2]
    by_cases q : d.formErr = 0 <;> simp [q]
theorem fds_true : ∀ l : List Fd, (∀ f ∈ l, f.ty.winR = f.ty.typeErr ∧ f.dflt.length ≤ 1 ∧ ∀ d ∈ f.dflt, FitV d) → fdsR true l = fieldErrs true l
  | [], _ => by rw [fdsR, fieldErrs]
  | f :: r, h => by
    obtain ⟨h1, h2, h3⟩ := h f (by simp)
    have e : f.winR true = f.ownErr true := by
      rw [Fd.winR_eq, Fd.ownErr_eq, h1, dflt_eq f.dflt h2 h3]
      by_cases q : f.ty.typeErr = 0 <;> simp [q]
    rw [fdsR, fieldErrs, e, fds_true r (fun x hx => h x (by simp [hx]))]
theorem fds_none : ∀ l : List Fd, (∀ f ∈ l, f.dflt = []) → fieldErrs false l = 0
  | [], _ => by rw [fieldErrs]
  | f :: r, h => by
    have : f.ownErr false = 0 := by rw [Fd.ownErr_eq, h f (by simp), formErrs]; rfl
    rw [fieldErrs, this, fds_none r (fun x hx => h x (by simp [hx]))]; rfl
theorem win_eq : ∀ t : Ty, Fit t → t.winR = t.typeErr :=
  Ty.ind fun t ihf ih hfit => by
    obtain ⟨ff, fo⟩ := fit_parts hfit
    rw [Ty.winR_eq, Ty.typeErr_eq, own_eq]
    by_cases hr : t.rangeErr = 0
    · by_cases hp : t.partsErr = 0
      · obtain ⟨hf, hs⟩ := parts_zero t hp
        rw [tys_eq t (of_one t hf hs) (fun o ho => ih o ho (fo o ho))]
        have e : fdsR (!(t.kind == 3 || t.kind == 14)) t.fields = fieldErrs (hasTy t.kind) t.fields := by
          rcases hfl : t.fields with - | ⟨f0, r0⟩
          · rw [fdsR, fieldErrs]
          · rw [← hfl]
            have hk : formKind t.kind = true := by
              rcases bb (formKind t.kind) with c | c
              · exact c
              · have hk' : (isGrp t.kind || t.kind == 3 || t.kind == 14 || t.kind == 15) = false := c
                simp only [Ty.formBad, formBad1, hk', hfl, Bool.or_eq_false_iff] at hf
                simp at hf
            have hfits : ∀ f ∈ t.fields, f.fits t.kind = true := by
              simp only [Ty.formBad, Ty.badF, Bool.or_eq_false_iff] at hf
              have := List.any_eq_false.1 hf.2.1
              exact fun f hf => by simpa using this f hf
            have hsh : ∀ f ∈ t.fields, f.pres = 2 → f.dflt.length = 1 := by
              simp only [Ty.inShape, Bool.and_eq_true, Bool.not_eq_true'] at hs
              have := List.any_eq_false.1 hs.1.2
              exact fun f hf h => by have := this f hf; simp [h] at this; omega
            have h1 : t.kind = 9 ∨ t.kind = 10 ∨ t.kind = 13 ∨ t.kind = 3 ∨ t.kind = 14 ∨ t.kind = 15 := by
              simp [formKind, isGrp] at hk; omega
            have one : (t.kind = 9 ∨ t.kind = 10 ∨ t.kind = 13 ∨ t.kind = 15) → ∀ f ∈ t.fields, f.dflt.length ≤ 1 := fun q f hf => by
              have a := hfits f hf
              have b := hsh f hf
              by_cases p : f.pres = 2
              · have := b p; omega
              · rcases q with q | q | q | q <;> simp [Fd.fits, Fd.alone, q, p] at a <;> simp [a]
            have go : (t.kind = 9 ∨ t.kind = 10 ∨ t.kind = 13 ∨ t.kind = 15) → fdsR true t.fields = fieldErrs true t.fields := fun q =>
              fds_true t.fields fun f hf => ⟨ihf f hf (ff f hf).1, one q f hf, (ff f hf).2⟩
            have no : (t.kind = 3 ∨ t.kind = 14) → fdsR false t.fields = fieldErrs false t.fields := fun q => by
              rw [fdsR_false, fds_none]
              intro f hf
              have a := hfits f hf
              rcases q with q | q <;> simp [Fd.fits, Fd.alone, q] at a <;> simp [a]
            rcases h1 with q | q | q | q | q | q
            · have := go (.inl q); rw [q]; exact this
            · have := go (.inr (.inl q)); rw [q]; exact this
            · have := go (.inr (.inr (.inl q))); rw [q]; exact this
            · have := no (.inl q); rw [q]; exact this
            · have := no (.inr q); rw [q]; exact this
            · have := go (.inr (.inr (.inr q))); rw [q]; exact this
        rw [e]
        simp [hr, hp]
      · simp [hr, hp]
    · simp [hr]
theorem typeErrR_eq (t : Ty) : t.typeErrR = t.check := by
  rw [Ty.typeErrR, Ty.check]
  rcases bb (t.sz 9 (60, false)).2 with c | c
  · rw [c]; rfl
  · rw [c, win_eq t ⟨9, 60, by omega, by omega, by omega, c⟩]
end Go.Proofs.YtdpbobkcbakpfaaGreatDoor

namespace Go.Proofs.YtdpbobkcbakpfaaGreatDoor
open Go Go.Ab
set_option maxRecDepth 100000
set_option maxHeartbeats 4000000
attribute [local simp] tagsT fieldsT typesT nodesT valsT textsT intsT tyC fdC vlC ndC hset_hset D.isPt D.pt
def sNum : ByteArray := bs [78, 117, 109, 101, 114, 105, 99, 83, 116, 114, 105, 110, 103]
def sPri : ByteArray := bs [80, 114, 105, 110, 116, 97, 98, 108, 101, 83, 116, 114, 105, 110, 103]
def sVis : ByteArray := bs [86, 105, 115, 105, 98, 108, 101, 83, 116, 114, 105, 110, 103]
def sIa5 : ByteArray := bs [73, 65, 53, 83, 116, 114, 105, 110, 103]
def alpha (s : ByteArray) : List Sp :=
  if seqB s sNum then [⟨32, 32⟩, ⟨48, 57⟩] else if seqB s sPri then [⟨32, 32⟩, ⟨39, 41⟩, ⟨43, 58⟩, ⟨61, 61⟩, ⟨63, 63⟩, ⟨65, 90⟩, ⟨97, 122⟩]
  else if seqB s sVis then [⟨32, 126⟩] else if seqB s sIa5 then [⟨0, 127⟩] else []
theorem strType_eq (s : ByteArray) : strType s = (seqB s sNum || seqB s sPri || seqB s sVis || seqB s sIa5) := by
  simp [strType, strNames, sNum, sPri, sVis, sIa5, Bool.or_assoc]
attribute [local simp] c18r0 c18r1 c18r2 c18r3 c18r4 c18r5 c18r6 c18r7 c18r8 c18r9 c18t10 c18t11 c18t12 c18t13 c18t14 c18r10 c18t16 c18 in
theorem P18 (s : ByteArray) : PSp Tryz.prog 18 [.one (.t (.str s))] (.one (.t (spans (alpha s)))) := by
  refine k18.pureK (by simp) rfl rfl ?_
  obtain ⟨a, ea⟩ : ∃ x, seqB s sNum = x := ⟨_, rfl⟩
  obtain ⟨b, eb⟩ : ∃ x, seqB s sPri = x := ⟨_, rfl⟩
  obtain ⟨c, ec⟩ : ∃ x, seqB s sVis = x := ⟨_, rfl⟩
  obtain ⟨d, ed⟩ : ∃ x, seqB s sIa5 = x := ⟨_, rfl⟩
  have e0 : alpha s = if a then [⟨32, 32⟩, ⟨48, 57⟩] else if b then [⟨32, 32⟩, ⟨39, 41⟩, ⟨43, 58⟩, ⟨61, 61⟩, ⟨63, 63⟩, ⟨65, 90⟩, ⟨97, 122⟩] else if c then [⟨32, 126⟩] else if d then [⟨0, 127⟩] else [] := by
    rw [← ea, ← eb, ← ec, ← ed]; rfl
  rw [e0]
  simp only [seqB, sNum, sPri, sVis, sIa5] at ea eb ec ed
  cases a
  · cases b
    · cases c
      · cases d
        · simp -implicitDefEqProofs [-guardOk, -gval, ea, eb, ec, ed, pureEnd, spans]
        · simp -implicitDefEqProofs [-guardOk, -gval, ea, eb, ec, ed, pureEnd, spans, spr]
      · simp -implicitDefEqProofs [-guardOk, -gval, ea, eb, ec, pureEnd, spans, spr]
    · simp -implicitDefEqProofs [-guardOk, -gval, ea, eb, pureEnd, spans, spr]
  · simp -implicitDefEqProofs [-guardOk, -gval, ea, pureEnd, spans, spr]
attribute [local simp] c17r0 c17r1 c17r2 c17r3 c17r4 c17r5 c17r6 c17r7 c17r8 c17r9 c17t10 c17t11 c17t12 c17t13 c17t14 c17r10 c17t16 c17 in
theorem P17 (s : ByteArray) : PSp Tryz.prog 17 [.one (.t (.str s))] (.tup [.one (.t (spans (alpha s))), .one (.t (I (if strType s then 0 else 7)))]) := by
  refine k17.pureK (by simp) rfl rfl ?_
  obtain ⟨a, ea⟩ : ∃ x, seqB s sNum = x := ⟨_, rfl⟩
  obtain ⟨b, eb⟩ : ∃ x, seqB s sPri = x := ⟨_, rfl⟩
  obtain ⟨c, ec⟩ : ∃ x, seqB s sVis = x := ⟨_, rfl⟩
  obtain ⟨d, ed⟩ : ∃ x, seqB s sIa5 = x := ⟨_, rfl⟩
  have e0 : alpha s = if a then [⟨32, 32⟩, ⟨48, 57⟩] else if b then [⟨32, 32⟩, ⟨39, 41⟩, ⟨43, 58⟩, ⟨61, 61⟩, ⟨63, 63⟩, ⟨65, 90⟩, ⟨97, 122⟩] else if c then [⟨32, 126⟩] else if d then [⟨0, 127⟩] else [] := by
    rw [← ea, ← eb, ← ec, ← ed]; rfl
  rw [e0, strType_eq, ea, eb, ec, ed]
  simp only [seqB, sNum, sPri, sVis, sIa5] at ea eb ec ed
  cases a
  · cases b
    · cases c
      · cases d
        · simp -implicitDefEqProofs [-guardOk, -gval, ea, eb, ec, ed, pureEnd, spans]
        · simp -implicitDefEqProofs [-guardOk, -gval, ea, eb, ec, ed, pureEnd, spans, spr]
      · simp -implicitDefEqProofs [-guardOk, -gval, ea, eb, ec, pureEnd, spans, spr]
    · simp -implicitDefEqProofs [-guardOk, -gval, ea, eb, pureEnd, spans, spr]
  · simp -implicitDefEqProofs [-guardOk, -gval, ea, pureEnd, spans, spr]
end Go.Proofs.YtdpbobkcbakpfaaGreatDoor

namespace Go.Proofs.YtdpbobkcbakpfaaGreatDoor
open Go Go.Ab
set_option maxRecDepth 100000
set_option maxHeartbeats 4000000
attribute [local simp] tagsT fieldsT typesT nodesT valsT textsT intsT tyC fdC vlC ndC hset_hset D.isPt D.pt
attribute [local simp] c79r0 c79r1 c79r2 c79r3 c79r4 c79r5 c79r6 c79b7 c79r7 c79 in
theorem P79 (l : List Int) (hl : short l) : PSp Tryz.prog 79 [.one (.t (intsT l))] (.one (.t (I (firstE l)))) := by
  refine k79.pureK (by simp) rfl rfl ?_
  simp -implicitDefEqProofs [-guardOk, -gval]
  refine loopFind l ne0 [5, 6] [] (fun i st => st.tmps 7 = .one (.t (I i))) hl ⟨by simp, by simp, by simp⟩ ?_ ?_
  · intro i y st hi hiI hw hg hy hany hx hk hh
    simp at hk
    rcases eqCases y 0 with e | e
    · simp -implicitDefEqProofs [-guardOk, -gval, hx, hk, hiI, hi, rowAtM hg, hw, e, ne0]
    · simp -implicitDefEqProofs [-guardOk, -gval, hx, hk, hiI, hi, rowAtM hg, e, pureEnd]
      simp [firstE, hany y (by simp [e, ne0])]
  · intro st hany hx hk hh
    simp at hk
    simp -implicitDefEqProofs [-guardOk, -gval, hx, hk, pureEnd, firstE, hany]
def mostSz (k : Int) : Int := if k == 11 || k == 12 then 40 else 200
attribute [local simp] c91r0 c91r1 c91r2 c91r3 c91 in
theorem P91 (t : Ty) : PSp Tryz.prog 91 [.agg (tyC t)] (.one (.t (I (mostSz t.kind)))) := by
  refine k91.pureK (by simp) (by simp [D.closed, A.closed]) rfl ?_
  rw [mostSz]
  obtain ⟨a, ea⟩ : ∃ x, (t.kind == 11 || t.kind == 12) = x := ⟨_, rfl⟩
  have p61 := P61 t.kind
  rw [ea] at p61 ⊢
  simp -implicitDefEqProofs [-guardOk, -gval]
  refine callK.tree p61 rfl ?_
  cases a
  · simp -implicitDefEqProofs [-guardOk, -gval, pureEnd]
  · simp -implicitDefEqProofs [-guardOk, -gval, pureEnd]
def nodeRange (x : Nd) (a k : Int) : Bool :=
  let lo : Int := if a == 5 || a == 6 then 0 else -1152921504606846976
  let hi : Int := if a == 5 then mostSz k else if a == 6 then 127 else 1152921504606846976
  decide (x.lo > x.hi) || decide (x.lo < lo) || decide (x.hi > hi)
attribute [local simp] c116r0 c116r1 c116r2 c116r3 c116t4 c116r4 c116r5 c116t7 c116r6 c116t9 c116t10 c116t11 c116 in
theorem P116 (x : Nd) (a k : Int) : PSp Tryz.prog 116 [.agg (ndC x), .one (.t (I a)), .one (.t (I k))] (.one (.t (.bool (nodeRange x a k)))) := by
  have fin : ∀ (lo hi : Int) (R : Bool), (decide (x.lo > x.hi) || decide (x.lo < lo) || decide (x.hi > hi)) = R → (lo = (if a == 5 || a == 6 then 0 else -1152921504606846976)) → (hi = (if a == 5 then mostSz k else if a == 6 then 127 else 1152921504606846976)) → nodeRange x a k = R := fun lo hi R h1 h2 h3 => by
    rw [nodeRange, ← h2, ← h3]; exact h1
  obtain ⟨u, eu⟩ : ∃ y, decide (x.hi < x.lo) = y := ⟨_, rfl⟩
  have eu' : decide (x.lo > x.hi) = u := eu
  have p133 : PSp Tryz.prog 133 [.one (.t (I k))] (.one (.t (I (mostSz k)))) := P133 k
  obtain ⟨m, em⟩ : ∃ m, mostSz k = m := ⟨_, rfl⟩
  rw [em] at p133 fin
  refine k116.pureK (by simp) (by simp [D.closed, A.closed]) rfl ?_
  rcases eqCases a 5 with q5 | q5
  · obtain ⟨v, ev⟩ : ∃ y, decide (x.lo < 0) = y := ⟨_, rfl⟩
    obtain ⟨w, ew⟩ : ∃ y, decide (m < x.hi) = y := ⟨_, rfl⟩
    have ew' : decide (x.hi > m) = w := ew
    rw [fin 0 m _ (by rw [eu', ev, ew']) (by simp [q5]) (by simp [q5])]
    simp -implicitDefEqProofs [-guardOk, -gval, q5]
    refine callK.tree p133 rfl ?_
    cases u <;> cases v <;> cases w
    all_goals simp -implicitDefEqProofs [-guardOk, -gval, eu, ev, ew, pureEnd]
  · rcases eqCases a 6 with q6 | q6
    · obtain ⟨v, ev⟩ : ∃ y, decide (x.lo < 0) = y := ⟨_, rfl⟩
      obtain ⟨w, ew⟩ : ∃ y, decide (127 < x.hi) = y := ⟨_, rfl⟩
      have ew' : decide (x.hi > 127) = w := ew
      rw [fin 0 127 _ (by rw [eu', ev, ew']) (by simp [q6]) (by simp [q6])]
      cases u <;> cases v <;> cases w
      all_goals simp -implicitDefEqProofs [-guardOk, -gval, q6, eu, ev, ew, pureEnd]
    · obtain ⟨v, ev⟩ : ∃ y, decide (x.lo < -1152921504606846976) = y := ⟨_, rfl⟩
      obtain ⟨w, ew⟩ : ∃ y, decide (1152921504606846976 < x.hi) = y := ⟨_, rfl⟩
      have ew' : decide (x.hi > 1152921504606846976) = w := ew
      rw [fin (-1152921504606846976) 1152921504606846976 _ (by rw [eu', ev, ew']) (by simp [q5, q6]) (by simp [q5, q6])]
      cases u <;> cases v <;> cases w
      all_goals simp -implicitDefEqProofs [-guardOk, -gval, q5, q6, eu, ev, ew, pureEnd]
theorem alpha_len (s : ByteArray) : (alpha s).length ≤ 7 := by
  simp only [alpha]
  repeat' split
  all_goals simp
theorem foldl_or {α : Type} (p : α → Bool) : ∀ (l : List α) (b : Bool), l.foldl (fun b c => b || p c) b = (b || l.any p)
  | [], b => by simp
  | x :: r, b => by rw [List.foldl_cons, foldl_or p r, List.any_cons, Bool.or_assoc]
def textBadC (t : Ty) (a c : Int) : Bool := if a == 3 then t.kind == 4 && c != 48 && c != 49 else !inS (alpha (if a == 6 then sIa5 else t.name)) c
def textErrR (t : Ty) (s : ByteArray) (a : Int) : Int := if (a == 6 && seqB s (bs [])) || (chars s).any (textBadC t a) then 17 else if 200 < s.size then 2 else 0
attribute [local simp] ixs_eq D.ixsOk
attribute [local simp] c117r0 c117r1 c117r2 c117r3 c117t4 c117r4 c117r5 c117r6 c117t8 c117r8 c117r9 c117r10 c117r11 c117t13 c117t14 c117r7 c117t16 c117b17 c117t18 c117r12 c117r13 c117t21 c117r14 c117t23 c117t24 c117t25 c117t26 c117t27 c117 in
theorem text24 (t : Ty) (s : ByteArray) (a : Int) (b0 : Bool) (hs : s.size ≤ 9223372036854775807) (st : St) (h1 : st.tmps 1 = .one (.t (.str s))) (h2 : st.tmps 2 = .one (.t (I a))) (h3 : st.tmps 3 = .one (.ptr ⟨0, 0, 8, 0, 0⟩)) (hh : st.heap 0 = some (.arr 0 false 8 [tyC t])) (_hnx : 0 < st.nx)
    (h7 : st.tmps 7 = .one (.t (spans (alpha (if a == 6 then sIa5 else t.name))))) (h8 : st.tmps 8 = .one (.t (.bool b0))) :
    awpK Tryz.prog 62 (pureEnd [.tmp 6] (.one (.t (I (if b0 || (chars s).any (textBadC t a) then 17 else if 200 < s.size then 2 else 0))))) c117t24 [] st := by
  obtain ⟨R, hR⟩ : ∃ R, (if b0 || (chars s).any (textBadC t a) then (17 : Int) else if 200 < s.size then 2 else 0) = R := ⟨_, rfl⟩
  rw [hR]
  have hcl := chars_len s
  obtain ⟨o1, o2, o3, o4⟩ := objF hh
  generalize hA : alpha (if a == 6 then sIa5 else t.name) = A at *
  have hAl : A.length ≤ 1000000 := by
    rw [← hA]; have := alpha_len (if a == 6 then sIa5 else t.name); omega
  simp -implicitDefEqProofs [-guardOk, -gval]
  refine loopFold (chars s) (fun b c => b || textBadC t a c) b0 [1, 2, 3, 7] [0] (fun i b st => st.tmps 9 = .one (.t (I i)) ∧ st.tmps 8 = .one (.t (.bool b))) (by simp only [short]; omega) ⟨by simp [h8], by simp, by simp []⟩ ?_ ?_
  · rintro i c b st' hi hiI hw hg hy hb ⟨hx, hx8⟩ hk hh'
    simp [h1, h2, h3, h7] at hk hh'
    rw [hcl] at hi hiI
    obtain ⟨o1, o2, o3, o4⟩ := objF (hh'.1.trans hh)
    have hc : (chars s)[i]?.getD 0 = c := by rw [hg]; rfl
    have hm := chars_mem hy
    have hcv : D.cvInt .i64 (.one (.t (.int .u8 c))) = .one (.t (I c)) := by
      have : IntKind.i64.wrap c = c := wrap_i64 (by omega) (by omega)
      simp [D.cvInt, this]
    rcases eqCases a 3 with q | q
    · have hd : textBadC t a c = (t.kind == 4 && c != 48 && c != 49) := by simp [textBadC, q]
      obtain ⟨x, ex⟩ : ∃ x, (t.kind == 4) = x := ⟨_, rfl⟩
      obtain ⟨y, ey⟩ : ∃ x, (c == 48) = x := ⟨_, rfl⟩
      obtain ⟨z, ez⟩ : ∃ x, (c == 49) = x := ⟨_, rfl⟩
      rw [hd]
      simp only [ex, bne, ey, ez]
      cases b <;> cases x <;> cases y <;> cases z
      all_goals simp -implicitDefEqProofs [-guardOk, -gval, hx, hx8, hk, hiI, hw, hc, hcv, o1, o2, o3, q, ex, ey, ez, bne, hh'.1]
      all_goals simp [h1, h2, h3, h7, q]
    · have hd : textBadC t a c = !inS A c := by rw [← hA]; simp [textBadC, q]
      rw [hd]
      cases b
      · simp -implicitDefEqProofs [-guardOk, -gval, hx, hx8, hk, hiI, hw, hc, hcv, q, hh'.1]
        refine callK.tree (InP A c hAl) rfl ?_
        simp -implicitDefEqProofs [-guardOk, -gval, hx, hk, hw, hh'.1]
        simp [h1, h2, h3, h7]
      · simp -implicitDefEqProofs [-guardOk, -gval, hx, hx8, hk, hiI, hw, hc, hcv, q, hh'.1]
        simp [h1, h2, h3, h7]
  · rintro st' ⟨hx, hx8⟩ hk hh'
    simp [h1, h2, h3, h7] at hk hh'
    rw [hcl] at hx
    rw [foldl_or] at hx8
    rcases bb (b0 || (chars s).any (textBadC t a)) with z | z
    · rw [z] at hx8 hR
      simp only [if_true] at hR
      subst hR
      simp -implicitDefEqProofs [-guardOk, -gval, hx, hx8, hk, pureEnd]
    · rw [z] at hx8 hR
      obtain ⟨w, ew⟩ : ∃ x, decide ((200 : Int) < (s.size : Int)) = x := ⟨_, rfl⟩
      have ew' : decide (200 < s.size) = w := by rw [← ew]; congr 1; simp; omega
      have e2 : (if 200 < s.size then (2 : Int) else 0) = if w then 2 else 0 := by rw [← ew']; simp
      rw [e2] at hR
      simp only [Bool.false_eq_true, if_false] at hR
      subst hR
      have wF : IntKind.i64.wrap (2 : Int) = 2 := by decide
      simp -implicitDefEqProofs [-guardOk, -gval, hx, hx8, hk, ew]
      refine callK.tree (P19 _) rfl ?_
      cases w
      · simp -implicitDefEqProofs [-guardOk, -gval, pureEnd, wE]
      · simp -implicitDefEqProofs [-guardOk, -gval, pureEnd, wF]
attribute [local simp] c117r0 c117r1 c117r2 c117r3 c117t4 c117r4 c117r5 c117r6 c117t8 c117r8 c117r9 c117r10 c117r11 c117t13 c117t14 c117r7 c117t16 c117b17 c117t18 c117r12 c117r13 c117t21 c117r14 c117t23 c117t25 c117t26 c117t27 c117 in
theorem P117 (t : Ty) (s : ByteArray) (a : Int) (hs : s.size ≤ 9223372036854775807) : PSp Tryz.prog 117 [.agg (tyC t), .one (.t (.str s)), .one (.t (I a))] (.one (.t (I (textErrR t s a)))) := by
  obtain ⟨b, eb⟩ : ∃ b, (s.toList == (bs []).toList) = b := ⟨_, rfl⟩
  have eb' : seqB s (bs []) = b := eb
  obtain ⟨R, hR⟩ : ∃ R, textErrR t s a = R := ⟨_, rfl⟩
  rw [hR]
  rw [textErrR, eb'] at hR
  have rest : ∀ b0, (a == 6 && b) = b0 → ∀ st : St, st.tmps 1 = .one (.t (.str s)) → st.tmps 2 = .one (.t (I a)) → st.tmps 3 = .one (.ptr ⟨0, 0, 8, 0, 0⟩) → st.heap 0 = some (.arr 0 false 8 [tyC t]) → 0 < st.nx →
      st.tmps 7 = .one (.t (spans (alpha (if a == 6 then sIa5 else t.name)))) → st.tmps 8 = .one (.t (.bool b0)) → awpK Tryz.prog 62 (pureEnd [.tmp 6] (.one (.t (I R)))) c117t24 [] st := fun b0 hb0 st g1 g2 g3 g4 g5 g6 g7 => by
    have := text24 t s a b0 hs st g1 g2 g3 g4 g5 g6 g7
    rw [← hb0, hR] at this
    exact this
  refine k117.pureK (by simp) (by simp [D.closed, A.closed]) rfl ?_
  simp -implicitDefEqProofs [-guardOk, -gval]
  refine callK.tree (P18 t.name) rfl ?_
  rcases eqCases a 6 with q | q
  · have p18 := P18 sIa5
    simp only [sIa5] at p18
    simp -implicitDefEqProofs [-guardOk, -gval, q]
    refine callK.tree p18 rfl ?_
    simp -implicitDefEqProofs [-guardOk, -gval, eb]
    refine rest b (by rw [q]; rfl) _ ?_ ?_ ?_ ?_ ?_ ?_ ?_
    · simp
    · simp [q]
    · simp
    · simp [Hp.set]
    · simp
    · simp [q, sIa5]
    · simp
  · simp -implicitDefEqProofs [-guardOk, -gval, q, eb]
    refine rest false (by rw [q.1]; rfl) _ ?_ ?_ ?_ ?_ ?_ ?_ ?_
    · simp
    · simp
    · simp
    · simp [Hp.set]
    · simp
    · simp [q]
    · simp
end Go.Proofs.YtdpbobkcbakpfaaGreatDoor

namespace Go.Proofs.YtdpbobkcbakpfaaGreatDoor
open Go Go.Ab
set_option maxRecDepth 100000
set_option maxHeartbeats 4000000
attribute [local simp] tagsT fieldsT typesT nodesT valsT textsT intsT tyC fdC vlC ndC hset_hset D.isPt D.pt
theorem Vl.slim_eq (v : Vl) : v.slim = (decide (v.s.size ≤ 500) && decide (v.names.length ≤ 60) && decide (v.items.length ≤ 60) && v.names.all (fun x => decide (x.size ≤ 60)) && v.items.all Vl.slim) := by
  cases v; rw [Vl.slim, slims_all]; rfl
attribute [local simp] c70r0 c70r1 c70r2 c70t3 c70r3 c70r4 c70t6 c70r6 c70r7 c70t9 c70r5 c70t11 c70b12 c70t13 c70r8 c70r9 c70t16 c70r11 c70r12 c70t19 c70r10 c70t21 c70b22 c70t23 c70r13 c70t25 c70t26 c70t27 c70 in
theorem slim25 (v : Vl) (hl : short v.items) (IH : ∀ x ∈ v.items, PSp Tryz.prog 70 [.agg (vlC x)] (.one (.t (.bool x.slim)))) (st : St) (h1 : VB v 1 st) (_hnx : 0 < st.nx) : awpK Tryz.prog 49 (pureEnd [.tmp 2] (.one (.t (.bool (!v.items.any fun x => !x.slim))))) c70t25 [] st := by
  obtain ⟨h1, h2⟩ := h1
  obtain ⟨o1, o2, o3, o4⟩ := objF h2
  obtain ⟨R, hR⟩ : ∃ R, (!v.items.any fun x => !x.slim) = R := ⟨_, rfl⟩
  rw [hR]
  simp -implicitDefEqProofs [-guardOk, -gval]
  refine loopAll v.items (fun x => !x.slim) [1] [0] (fun i st => st.tmps 4 = .one (.t (I i))) hl ⟨by simp, by simp, by simp []⟩ ?_ ?_
  · intro i x st' hi hiI hw hg hy hany hx hk hh
    simp [h1] at hk hh
    obtain ⟨o1, o2, o3, o4⟩ := objF (hh.1.trans h2)
    simp -implicitDefEqProofs [-guardOk, -gval, hx, hk, hi, hiI, o1, o2, o3, rowAtM hg, Vl.row_eq, -List.getElem_map]
    refine callK.tree (IH x hy) rfl ?_
    rcases bb x.slim with c | c
    · rw [c]
      simp -implicitDefEqProofs [-guardOk, -gval, hx, hk, hw, h1, hh.1]
    · rw [hany (by simp [c])] at hR
      subst hR
      rw [c]
      simp -implicitDefEqProofs [-guardOk, -gval, pureEnd]
  · intro st' hany hx hk hh
    simp [h1] at hk hh
    obtain ⟨o1, o2, o3, o4⟩ := objF (hh.1.trans h2)
    rw [hany] at hR
    subst hR
    simp -implicitDefEqProofs [-guardOk, -gval, hx, hk, o1, o2, o3, pureEnd]
attribute [local simp] c70r0 c70r1 c70r2 c70t3 c70r3 c70r4 c70t6 c70r6 c70r7 c70t9 c70r5 c70t11 c70b12 c70t13 c70r8 c70r9 c70t16 c70r11 c70r12 c70t19 c70r10 c70t21 c70b22 c70t23 c70r13 c70t26 c70t27 c70 in
theorem slim26 (v : Vl) (hv : v.fine) (IH : ∀ x ∈ v.items, PSp Tryz.prog 70 [.agg (vlC x)] (.one (.t (.bool x.slim)))) (st : St) (h1 : VB v 1 st) (_hnx : 0 < st.nx) : awpK Tryz.prog 49 (pureEnd [.tmp 2] (.one (.t (.bool (!(v.names.any fun x => decide (60 < x.size)) && !v.items.any fun x => !x.slim))))) c70t26 [] st := by
  have hv' := (Vl.fine_iff v).1 hv
  have rest := slim25 v hv'.2.2.2.1 IH
  generalize (!v.items.any fun x => !x.slim) = Q at *
  obtain ⟨h1, h2⟩ := h1
  obtain ⟨o1, o2, o3, o4⟩ := objF h2
  obtain ⟨R, hR⟩ : ∃ R, (!(v.names.any fun x => decide (60 < x.size)) && Q) = R := ⟨_, rfl⟩
  rw [hR]
  simp -implicitDefEqProofs [-guardOk, -gval]
  refine loopAll v.names (fun x => decide (60 < x.size)) [1] [0] (fun i st => st.tmps 3 = .one (.t (I i))) hv'.2.1 ⟨by simp, by simp, by simp []⟩ ?_ ?_
  · intro i x st' hi hiI hw hg hy hany hx hk hh
    simp [h1] at hk hh
    obtain ⟨o1, o2, o3, o4⟩ := objF (hh.1.trans h2)
    obtain ⟨c, ec⟩ : ∃ c, decide (60 < x.size) = c := ⟨_, rfl⟩
    have ec' : decide ((60 : Int) < (x.size : Int)) = c := by rw [← ec]; congr 1; simp; omega
    rw [ec] at hany ⊢
    cases c
    · simp -implicitDefEqProofs [-guardOk, -gval, hx, hk, hi, hiI, hw, o1, o2, o3, rowAtM hg, -List.getElem_map, ec', h1, hh.1]
    · rw [hany rfl] at hR
      subst hR
      simp -implicitDefEqProofs [-guardOk, -gval, hx, hk, hi, hiI, o1, o2, o3, rowAtM hg, -List.getElem_map, ec', pureEnd]
  · intro st' hany hx hk hh
    simp [h1] at hk hh
    obtain ⟨o1, o2, o3, o4⟩ := objF (hh.1.trans h2)
    rw [hany] at hR
    simp at hR
    subst hR
    simp -implicitDefEqProofs [-guardOk, -gval, hx, hk, o1, o2, o3]
    exact rest _ ⟨by simp [hk], by simp [hh, h2]⟩ (by simp <;> omega)
attribute [local simp] c70r0 c70r1 c70r2 c70t3 c70r3 c70r4 c70t6 c70r6 c70r7 c70t9 c70r5 c70t11 c70b12 c70t13 c70r8 c70r9 c70t16 c70r11 c70r12 c70t19 c70r10 c70t21 c70b22 c70t23 c70r13 c70t25 c70t27 c70 in
theorem step70 (v : Vl) (hv : v.fine) (IH : ∀ x ∈ v.items, PSp Tryz.prog 70 [.agg (vlC x)] (.one (.t (.bool x.slim)))) : PSp Tryz.prog 70 [.agg (vlC v)] (.one (.t (.bool v.slim))) := by
  have rest := slim26 v hv IH
  obtain ⟨a, ea⟩ : ∃ x, decide ((500 : Int) < (v.s.size : Int)) = x := ⟨_, rfl⟩
  obtain ⟨b, eb⟩ : ∃ x, decide ((60 : Int) < (v.names.length : Int)) = x := ⟨_, rfl⟩
  obtain ⟨c, ec⟩ : ∃ x, decide ((60 : Int) < (v.items.length : Int)) = x := ⟨_, rfl⟩
  have e0 : v.slim = (!a && !b && !c && (!(v.names.any fun x => decide (60 < x.size)) && !v.items.any fun x => !x.slim)) := by
    have e1 : v.names.all (fun x => decide (x.size ≤ 60)) = !(v.names.any fun x => decide (60 < x.size)) := by
      rw [List.not_any_eq_all_not]; congr 1; funext x; rw [Bool.eq_iff_iff]; simp
    have e2 : v.items.all Vl.slim = !v.items.any fun x => !x.slim := by
      rw [List.not_any_eq_all_not]; congr 1; funext x; simp
    have e3 : decide (v.s.size ≤ 500) = !a := by rw [← ea, Bool.eq_iff_iff]; simp; omega
    have e4 : decide (v.names.length ≤ 60) = !b := by rw [← eb, Bool.eq_iff_iff]; simp; omega
    have e5 : decide (v.items.length ≤ 60) = !c := by rw [← ec, Bool.eq_iff_iff]; simp; omega
    rw [Vl.slim_eq, e1, e2, e3, e4, e5]
    simp only [Bool.and_assoc]
  rw [e0]
  generalize (!(v.names.any fun x => decide (60 < x.size)) && !v.items.any fun x => !x.slim) = Q at *
  refine k70.pureK (by simp) (by simp [D.closed, A.closed]) rfl ?_
  cases a <;> cases b <;> cases c
  all_goals simp -implicitDefEqProofs [-guardOk, -gval, ea, eb, ec, pureEnd]
  all_goals exact rest _ ⟨by simp, by simp [Hp.set]⟩ (by simp)
theorem P70 : ∀ v : Vl, v.fine → PSp Tryz.prog 70 [.agg (vlC v)] (.one (.t (.bool v.slim))) :=
  Vl.ind fun v IH hv => step70 v hv fun x hx => IH x hx (((Vl.fine_iff v).1 hv).2.2.2.2 x hx)
attribute [local simp] c69r0 c69r1 c69r2 c69r3 c69t4 c69r5 c69r4 c69b7 c69t8 c69r6 c69t10 c69t11 c69 in
theorem P69 (l : List Vl) (m lv : Int) (hv : ∀ x ∈ l, x.fine) (hl : short l) : PSp Tryz.prog 69 [.one (.t (valsT l)), .one (.t (I m)), .one (.t (I lv))] (.one (.t (.bool (!(szVs lv l (m, false)).2)))) := by
  refine k69.pureK (by simp) rfl rfl ?_
  obtain ⟨R, hR⟩ : ∃ R, szVs lv l (m, false) = R := ⟨_, rfl⟩
  rw [hR]
  simp -implicitDefEqProofs [-guardOk, -gval, -Prod.exists, -Bool.exists_bool]
  refine loopRec l (fun _ r s => szVs lv r s) R (m, false) [0, 2, 7] [] (fun i s st => st.tmps 8 = .one (.t (I i)) ∧ st.heap 3 = some (objS s) ∧ 3 < st.nx) hl hR ⟨by simp [Hp.set, objS], by simp, by simp⟩ ?_ ?_
  · rintro i y ⟨s1, s2⟩ st hi hiI hw hg hy hR ⟨h8, ho, hnx⟩ hk hh
    simp at hk
    obtain ⟨o1, o2, o3, o4⟩ := objF ho
    have k105 := value105 y (hv y hy)
    rw [vlC_eq] at k105
    cases s2
    · rw [szVs, if_neg (by simp)] at hR
      simp -implicitDefEqProofs [-guardOk, -gval, h8, hk, hi, hiI, o1, o2, o3, rowAtM hg, Vl.row_eq, -List.getElem_map, -Prod.exists, -Bool.exists_bool]
      refine callK.imp (ISp.ok fun ho' => k105 _ _ _ lv (s1, false) ho' (by simpa using ho)) ?_
      simp -implicitDefEqProofs [-guardOk, -gval, h8, hk, hw, putS, -Prod.exists, -Bool.exists_bool]
      refine ⟨y.sz lv (s1, false), hR, ?_⟩
      simp [Hp.set, objS]
    · rw [szVs_bad rfl] at hR
      subst hR
      simp -implicitDefEqProofs [-guardOk, -gval, h8, hk, hiI, o1, o2, o3, pureEnd, -Prod.exists, -Bool.exists_bool]
  · rintro ⟨s1, s2⟩ st hR ⟨h8, ho, hnx⟩ hk hh
    simp at hk
    obtain ⟨o1, o2, o3, o4⟩ := objF ho
    rw [szVs] at hR
    subst hR
    simp -implicitDefEqProofs [-guardOk, -gval, h8, hk, o1, o2, o3, pureEnd, -Prod.exists, -Bool.exists_bool]
attribute [local simp] c21r0 c21r1 c21 in
theorem P21 (v : Vl) (hv : v.fine) : PSp Tryz.prog 21 [.agg (vlC v)] (.one (.t (.bool v.few))) := by
  refine k21.pureK (by simp) (by simp [D.closed, A.closed]) rfl ?_
  have p69 := P69 [v] 400 12 (fun x hx => by simp at hx; rw [hx]; exact hv) (by simp [short])
  have p70 := P70 v hv
  rw [Vl.few]
  generalize (szVs 12 [v] (400, false)).2 = q at *
  simp -implicitDefEqProofs [-guardOk, -gval]
  refine callK.pure p69 (by simp) (by simp [Vl.row_eq]) ?_
  cases q
  · simp -implicitDefEqProofs [-guardOk, -gval]
    refine callK.tree p70 rfl ?_
    simp -implicitDefEqProofs [-guardOk, -gval, pureEnd]
  · simp -implicitDefEqProofs [-guardOk, -gval, pureEnd]
end Go.Proofs.YtdpbobkcbakpfaaGreatDoor

namespace Go.Proofs.YtdpbobkcbakpfaaGreatDoor
open Go Go.Ab
set_option maxRecDepth 100000
set_option maxHeartbeats 4000000
attribute [local simp] tagsT fieldsT typesT nodesT valsT textsT intsT tyC fdC vlC ndC hset_hset D.isPt D.pt
attribute [local simp] c58r0 c58r1 c58r2 c58t3 c58r3 c58r4 c58t6 c58r6 c58r7 c58t9 c58r5 c58t11 c58b12 c58t13 c58r8 c58r9 c58t16 c58r11 c58r12 c58r13 c58t20 c58r14 c58r15 c58t23 c58r17 c58r18 c58t26 c58r16 c58t28 c58b29 c58t30 c58t31 c58t32 c58r10 c58t34 c58b35 c58t36 c58r19 c58r20 c58t39 c58r22 c58r23 c58t42 c58r21 c58t44 c58b45 c58t46 c58r24 c58t48 c58t49 c58t50 c58t51 c58 in
theorem nar48 (t : Ty) (hl : short t.of) (IH : ∀ x ∈ t.of, PSp Tryz.prog 58 [.agg (tyC x)] (.one (.t (.bool x.narrow)))) (st : St) (h1 : TB t 1 st) (_hnx : 0 < st.nx) : awpK Tryz.prog 117 (pureEnd [.tmp 2] (.one (.t (.bool (!t.of.any fun x => !x.narrow))))) c58t48 [] st := by
  obtain ⟨h1, h2⟩ := h1
  obtain ⟨o1, o2, o3, o4⟩ := objF h2
  obtain ⟨R, hR⟩ : ∃ R, (!t.of.any fun x => !x.narrow) = R := ⟨_, rfl⟩
  rw [hR]
  simp -implicitDefEqProofs [-guardOk, -gval]
  refine loopAll t.of (fun x => !x.narrow) [1] [0] (fun i st => st.tmps 7 = .one (.t (I i))) hl ⟨by simp, by simp, by simp []⟩ ?_ ?_
  · intro i x st' hi hiI hw hg hy hany hx hk hh
    simp [h1] at hk hh
    obtain ⟨o1, o2, o3, o4⟩ := objF (hh.1.trans h2)
    simp -implicitDefEqProofs [-guardOk, -gval, hx, hk, hi, hiI, o1, o2, o3, rowAtM hg, Ty.row_eq, -List.getElem_map]
    refine callK.tree (IH x hy) rfl ?_
    rcases bb x.narrow with c | c
    · rw [c]
      simp -implicitDefEqProofs [-guardOk, -gval, hx, hk, hw, h1, hh.1]
    · rw [hany (by simp [c])] at hR
      subst hR
      rw [c]
      simp -implicitDefEqProofs [-guardOk, -gval, pureEnd]
  · intro st' hany hx hk hh
    simp [h1] at hk hh
    obtain ⟨o1, o2, o3, o4⟩ := objF (hh.1.trans h2)
    rw [hany] at hR
    subst hR
    simp -implicitDefEqProofs [-guardOk, -gval, hx, hk, o1, o2, o3, pureEnd]
attribute [local simp] c58r0 c58r1 c58r2 c58t3 c58r3 c58r4 c58t6 c58r6 c58r7 c58t9 c58r5 c58t11 c58b12 c58t13 c58r8 c58r9 c58t16 c58r11 c58r12 c58r13 c58t20 c58r14 c58r15 c58t23 c58r17 c58r18 c58t26 c58r16 c58t28 c58b29 c58t30 c58t31 c58t32 c58r10 c58t34 c58b35 c58t36 c58r19 c58r20 c58t39 c58r22 c58r23 c58t42 c58r21 c58t44 c58b45 c58t46 c58r24 c58t49 c58t50 c58t51 c58 in
theorem nar31 (f : Fd) (hfi : f.fine) (A : Exit → St → Prop) (ks : List KF) (id : Nat) (st : St) (h5 : st.tmps 5 = .one (.ptr ⟨id, 0, 13, 0, 0⟩)) (hid : st.heap id = some (.arr 0 false 13 [fdC f])) (_hlt : id < st.nx)
    (hok : f.dflt.any (fun x => !x.few) = false → ∀ st', KeepT [1, 4] st.tmps st'.tmps → st'.heap = st.heap → st.nx ≤ st'.nx → retK Tryz.prog 117 A ks .normal st')
    (hbad : f.dflt.any (fun x => !x.few) = true → ∀ st', st'.tmps 2 = .one (.t (.bool false)) → retK Tryz.prog 117 A ks .ret st') :
    awpK Tryz.prog 117 A c58t31 ks st := by
  have hff := (Fd.fine_iff f).1 hfi
  obtain ⟨o1, o2, o3, o4⟩ := objF hid
  simp -implicitDefEqProofs [-guardOk, -gval]
  refine loopAll f.dflt (fun x => !x.few) [1, 4, 5] [] (fun i st' => st'.tmps 6 = .one (.t (I i)) ∧ st'.heap = st.heap ∧ st.nx ≤ st'.nx) hff.2.2.1 ⟨by simp <;> omega, by simp [h5], by simp⟩ ?_ ?_
  · rintro i x st' hi hiI hw hg hy hany ⟨hx, hhe, hn⟩ hk hh
    simp [h5] at hk
    rw [← hhe] at o1 o2 o3 o4
    simp -implicitDefEqProofs [-guardOk, -gval, hx, hk, hi, hiI, o1, o2, o3, rowAtM hg, Vl.row_eq, -List.getElem_map]
    refine callK.tree (P21 x (hff.2.2.2 x hy)) rfl ?_
    rcases bb x.few with c | c
    · rw [c]
      simp -implicitDefEqProofs [-guardOk, -gval, hx, hk, hw, hhe]
      exact ⟨by omega, h5.symm⟩
    · rw [c]
      simp -implicitDefEqProofs [-guardOk, -gval]
      exact hbad (hany (by simp [c])) _ (by simp)
  · rintro st' hany ⟨hx, hhe, hn⟩ hk hh
    simp [h5] at hk
    rw [← hhe] at o1 o2 o3 o4
    simp -implicitDefEqProofs [-guardOk, -gval, hx, hk, o1, o2, o3]
    exact hok hany _ (by simp [hk]) (by simp [hhe]) (by simp <;> omega)
attribute [local simp] c58r0 c58r1 c58r2 c58t3 c58r3 c58r4 c58t6 c58r6 c58r7 c58t9 c58r5 c58t11 c58b12 c58t13 c58r8 c58r9 c58t16 c58r11 c58r12 c58r13 c58t20 c58r14 c58r15 c58t23 c58r17 c58r18 c58t26 c58r16 c58t28 c58b29 c58t30 c58t32 c58r10 c58t34 c58b35 c58t36 c58r19 c58r20 c58t39 c58r22 c58r23 c58t42 c58r21 c58t44 c58b45 c58t46 c58r24 c58t49 c58t50 c58t51 c58 in
theorem nar49 (t : Ty) (ht : t.fine) (IHf : ∀ x ∈ t.fields, PSp Tryz.prog 58 [.agg (tyC x.ty)] (.one (.t (.bool x.ty.narrow)))) (IH : ∀ x ∈ t.of, PSp Tryz.prog 58 [.agg (tyC x)] (.one (.t (.bool x.narrow)))) (R : Bool) (hR : ((!t.fields.any fun x => !x.narrow) && (!t.of.any fun x => !x.narrow)) = R) (st : St) (h1 : TB t 1 st) (_hnx : 0 < st.nx) : awpK Tryz.prog 117 (pureEnd [.tmp 2] (.one (.t (.bool R)))) c58t49 [] st := by
  have hf := (Ty.fine_iff t).1 ht
  obtain ⟨g1, g2, g3, g4, g5, g6, g7, g8⟩ := hf
  have rest := nar48 t g5 IH
  generalize (!t.of.any fun x => !x.narrow) = Q at *
  obtain ⟨h1, h2⟩ := h1
  obtain ⟨o1, o2, o3, o4⟩ := objF h2
  simp -implicitDefEqProofs [-guardOk, -gval]
  refine loopAll t.fields (fun x => !x.narrow) [1] [0] (fun i st => st.tmps 4 = .one (.t (I i))) g3 ⟨by simp, by simp, by simp []⟩ ?_ ?_
  · intro i f st' hi hiI hw hg hy hany hx hk hh
    simp [h1] at hk hh
    obtain ⟨o1, o2, o3, o4⟩ := objF (hh.1.trans h2)
    have hfi := g4 f hy
    have hne : ¬ 0 = st'.nx + 5 + 5 := by omega
    obtain ⟨a, ea⟩ : ∃ x, decide ((60 : Int) < (f.name.size : Int)) = x := ⟨_, rfl⟩
    obtain ⟨b, eb⟩ : ∃ x, decide ((3 : Int) < (f.dflt.length : Int)) = x := ⟨_, rfl⟩
    have e0 : f.narrow = (!a && !b && f.ty.narrow && !f.dflt.any fun x => !x.few) := by
      have e1 : f.dflt.all Vl.few = !f.dflt.any fun x => !x.few := by
        rw [List.not_any_eq_all_not]; congr 1; funext x; simp
      have e3 : decide (f.name.size ≤ 60) = !a := by rw [← ea, Bool.eq_iff_iff]; simp; omega
      have e4 : decide (f.dflt.length ≤ 3) = !b := by rw [← eb, Bool.eq_iff_iff]; simp; omega
      rw [← e1, ← e3, ← e4]
      cases f; rw [Fd.narrow]; rfl
    rw [e0] at hany ⊢
    have stop : (!(!a && !b && f.ty.narrow && !f.dflt.any fun x => !x.few)) = true → R = false := fun h => by
      rw [hany h] at hR
      exact hR.symm
    cases a
    · cases b
      · simp -implicitDefEqProofs [-guardOk, -gval, h1, hx, hk, hi, hiI, o1, o2, o3, rowAtM hg, Fd.row_eq, -List.getElem_map, ea, eb]
        refine callK.tree (IHf f hy) rfl ?_
        rcases bb f.ty.narrow with c | c
        · rw [c]
          simp -implicitDefEqProofs [-guardOk, -gval]
          refine nar31 f hfi _ _ (st'.nx + 5 + 5) _ (by simp) (by simp [Hp.set]) (by simp <;> omega) (fun hz st2 k1 k2 k3 => ?_) fun hz st2 k2 => ?_
          · simp at k1
            simp -implicitDefEqProofs [-guardOk, -gval, k1, hk, hx, hw]
            refine ⟨by simpa [c] using hz, ?_⟩
            rw [k2]; simp only [Hp.set]; rw [if_neg hne]; exact hh.1
          · rw [stop (by rw [hz]; simp)]
            simp -implicitDefEqProofs [-guardOk, -gval, pureEnd, k2]
        · rw [c, stop (by rw [c]; simp)]
          simp -implicitDefEqProofs [-guardOk, -gval, pureEnd]
      · rw [stop (by simp)]
        simp -implicitDefEqProofs [-guardOk, -gval, h1, hx, hk, hi, hiI, o1, o2, o3, rowAtM hg, Fd.row_eq, -List.getElem_map, ea, eb, pureEnd]
    · rw [stop (by simp)]
      simp -implicitDefEqProofs [-guardOk, -gval, h1, hx, hk, hi, hiI, o1, o2, o3, rowAtM hg, Fd.row_eq, -List.getElem_map, ea, pureEnd]
  · intro st' hany hx hk hh
    simp [h1] at hk hh
    obtain ⟨o1, o2, o3, o4⟩ := objF (hh.1.trans h2)
    rw [hany] at hR
    simp at hR
    subst hR
    simp -implicitDefEqProofs [-guardOk, -gval, hx, hk, o1, o2, o3]
    exact rest _ ⟨by simp [hk], by simp [hh, h2]⟩ (by simp <;> omega)
def Nd.big (x : Nd) : Bool := decide ((500 : Int) < (x.s.size : Int)) || decide ((5 : Int) < (x.args.length : Int))
attribute [local simp] c58r0 c58r1 c58r2 c58t3 c58r3 c58r4 c58t6 c58r6 c58r7 c58t9 c58r5 c58t11 c58b12 c58t13 c58r8 c58r9 c58t16 c58r11 c58r12 c58r13 c58t20 c58r14 c58r15 c58t23 c58r17 c58r18 c58t26 c58r16 c58t28 c58b29 c58t30 c58t31 c58t32 c58r10 c58t34 c58b35 c58t36 c58r19 c58r20 c58t39 c58r22 c58r23 c58t42 c58r21 c58t44 c58b45 c58t46 c58r24 c58t48 c58t50 c58t51 c58 in
theorem nar50 (t : Ty) (ht : t.fine) (IHf : ∀ x ∈ t.fields, PSp Tryz.prog 58 [.agg (tyC x.ty)] (.one (.t (.bool x.ty.narrow)))) (IH : ∀ x ∈ t.of, PSp Tryz.prog 58 [.agg (tyC x)] (.one (.t (.bool x.narrow)))) (R : Bool) (hR : ((!t.limits.any Nd.big) && ((!t.fields.any fun x => !x.narrow) && (!t.of.any fun x => !x.narrow))) = R) (st : St) (h1 : TB t 1 st) (_hnx : 0 < st.nx) : awpK Tryz.prog 117 (pureEnd [.tmp 2] (.one (.t (.bool R)))) c58t50 [] st := by
  have hf := (Ty.fine_iff t).1 ht
  obtain ⟨g1, g2, g3, g4, g5, g6, g7, g8⟩ := hf
  have rest := nar49 t ht IHf IH _ rfl
  generalize ((!t.fields.any fun x => !x.narrow) && (!t.of.any fun x => !x.narrow)) = Q at *
  obtain ⟨h1, h2⟩ := h1
  obtain ⟨o1, o2, o3, o4⟩ := objF h2
  simp -implicitDefEqProofs [-guardOk, -gval]
  refine loopAll t.limits Nd.big [1] [0] (fun i st => st.tmps 3 = .one (.t (I i))) g7 ⟨by simp, by simp, by simp []⟩ ?_ ?_
  · intro i x st' hi hiI hw hg hy hany hx hk hh
    simp [h1] at hk hh
    obtain ⟨o1, o2, o3, o4⟩ := objF (hh.1.trans h2)
    obtain ⟨a, ea⟩ : ∃ y, decide ((500 : Int) < (x.s.size : Int)) = y := ⟨_, rfl⟩
    obtain ⟨b, eb⟩ : ∃ y, decide ((5 : Int) < (x.args.length : Int)) = y := ⟨_, rfl⟩
    have e0 : x.big = (a || b) := by rw [← ea, ← eb]; rfl
    rw [e0] at hany ⊢
    cases a <;> cases b
    all_goals try
      rw [hany rfl] at hR
      simp only [Bool.not_true, Bool.false_and] at hR
      subst hR
    all_goals simp -implicitDefEqProofs [-guardOk, -gval, hx, hk, hi, hiI, hw, o1, o2, o3, rowAtM hg, Nd.row, -List.getElem_map, ea, eb, h1, hh.1, pureEnd]
  · intro st' hany hx hk hh
    simp [h1] at hk hh
    obtain ⟨o1, o2, o3, o4⟩ := objF (hh.1.trans h2)
    rw [hany] at hR
    simp at hR
    subst hR
    simp -implicitDefEqProofs [-guardOk, -gval, hx, hk, o1, o2, o3]
    exact rest _ ⟨by simp [hk], by simp [hh, h2]⟩ (by simp <;> omega)
theorem Ty.narrow_eq (t : Ty) (a b c d e : Bool) (ha : decide ((60 : Int) < (t.name.size : Int)) = a) (hb : decide ((8 : Int) < (t.tags.length : Int)) = b) (hc : decide ((40 : Int) < (t.fields.length : Int)) = c) (hd : decide ((4 : Int) < (t.of.length : Int)) = d) (he : decide ((40 : Int) < (t.limits.length : Int)) = e) :
    t.narrow = (!(a || b || c || d || e) && ((!t.limits.any Nd.big) && ((!t.fields.any fun x => !x.narrow) && (!t.of.any fun x => !x.narrow)))) := by
  subst ha hb hc hd he
  rw [Bool.eq_iff_iff, Ty.narrow_iff]
  simp only [Bool.and_eq_true, Bool.not_eq_true', Bool.or_eq_false_iff, decide_eq_false_iff_not, List.any_eq_false, Nd.big, Bool.or_eq_true, decide_eq_true_eq, not_or, Bool.not_eq_false]
  constructor
  · rintro ⟨h1, h2, h3, h4, h5, h6, h7, h8⟩
    refine ⟨⟨⟨⟨⟨by omega, by omega⟩, by omega⟩, by omega⟩, by omega⟩, fun x hx => ?_, h7, h8⟩
    have := h6 x hx
    omega
  · rintro ⟨⟨⟨⟨⟨h1, h2⟩, h3⟩, h4⟩, h5⟩, h6, h7, h8⟩
    refine ⟨by omega, by omega, by omega, by omega, by omega, fun x hx => ?_, h7, h8⟩
    have := h6 x hx
    omega
attribute [local simp] c58r0 c58r1 c58r2 c58t3 c58r3 c58r4 c58t6 c58r6 c58r7 c58t9 c58r5 c58t11 c58b12 c58t13 c58r8 c58r9 c58t16 c58r11 c58r12 c58r13 c58t20 c58r14 c58r15 c58t23 c58r17 c58r18 c58t26 c58r16 c58t28 c58b29 c58t30 c58t31 c58t32 c58r10 c58t34 c58b35 c58t36 c58r19 c58r20 c58t39 c58r22 c58r23 c58t42 c58r21 c58t44 c58b45 c58t46 c58r24 c58t48 c58t49 c58t51 c58 in
theorem step58 (t : Ty) (ht : t.fine) (IHf : ∀ x ∈ t.fields, PSp Tryz.prog 58 [.agg (tyC x.ty)] (.one (.t (.bool x.ty.narrow)))) (IH : ∀ x ∈ t.of, PSp Tryz.prog 58 [.agg (tyC x)] (.one (.t (.bool x.narrow)))) : PSp Tryz.prog 58 [.agg (tyC t)] (.one (.t (.bool t.narrow))) := by
  have rest := nar50 t ht IHf IH _ rfl
  obtain ⟨a, ea⟩ : ∃ x, decide ((60 : Int) < (t.name.size : Int)) = x := ⟨_, rfl⟩
  obtain ⟨b, eb⟩ : ∃ x, decide ((8 : Int) < (t.tags.length : Int)) = x := ⟨_, rfl⟩
  obtain ⟨c, ec⟩ : ∃ x, decide ((40 : Int) < (t.fields.length : Int)) = x := ⟨_, rfl⟩
  obtain ⟨d, ed⟩ : ∃ x, decide ((4 : Int) < (t.of.length : Int)) = x := ⟨_, rfl⟩
  obtain ⟨e, ee⟩ : ∃ x, decide ((40 : Int) < (t.limits.length : Int)) = x := ⟨_, rfl⟩
  rw [Ty.narrow_eq t a b c d e ea eb ec ed ee]
  generalize ((!t.limits.any Nd.big) && ((!t.fields.any fun x => !x.narrow) && (!t.of.any fun x => !x.narrow))) = Q at *
  obtain ⟨u1, m1⟩ : ∃ y, (a || b) = y := ⟨_, rfl⟩
  obtain ⟨u2, m2⟩ : ∃ y, (u1 || c) = y := ⟨_, rfl⟩
  obtain ⟨u3, m3⟩ : ∃ y, (u2 || d) = y := ⟨_, rfl⟩
  obtain ⟨u4, m4⟩ : ∃ y, (u3 || e) = y := ⟨_, rfl⟩
  rw [m1, m2, m3, m4]
  refine k58.pureK (by simp) (by simp [D.closed, A.closed]) rfl ?_
  simp -implicitDefEqProofs [-guardOk, -gval, ea, eb, ec, ed, ee, m1, m2, m3, m4, -Bool.not_or, -Bool.not_and]
  refine ⟨fun h => ?_, fun h => ?_⟩
  · subst h; simp -implicitDefEqProofs [-guardOk, -gval, pureEnd]
  · subst h; simp -implicitDefEqProofs [-guardOk, -gval]
    exact rest _ ⟨by simp, by simp [Hp.set]⟩ (by simp)
theorem P58 : ∀ t : Ty, t.fine → PSp Tryz.prog 58 [.agg (tyC t)] (.one (.t (.bool t.narrow))) :=
  Ty.ind fun t IHf IH ht => by
    have h := (Ty.fine_iff t).1 ht
    exact step58 t ht (fun x hx => IHf x hx ((Fd.fine_iff x).1 (h.2.2.2.1 x hx)).2.1) fun x hx => IH x hx (h.2.2.2.2.2.1 x hx)
def Ty.tiny (t : Ty) : Bool := !(t.sz 12 (400, false)).2 && t.narrow
attribute [local simp] c13r0 c13r1 c13r2 c13r3 c13 in
theorem P13 (t : Ty) (ht : t.fine) : PSp Tryz.prog 13 [.agg (tyC t)] (.one (.t (.bool t.tiny))) := by
  have k57 := P57 t ht
  have p58 := P58 t ht
  refine k13.pureK (by simp) (by simp [D.closed, A.closed]) rfl ?_
  rw [Ty.tiny]
  simp -implicitDefEqProofs [-guardOk, -gval]
  refine callK.imp (ISp.ok fun ho => k57 _ _ _ 12 (400, false) ho (by simp [hset_at, objS])) ?_
  obtain ⟨⟨s1, s2⟩, hs⟩ : ∃ s, t.sz 12 (400, false) = s := ⟨_, rfl⟩
  rw [hs]
  cases s2
  · simp -implicitDefEqProofs [-guardOk, -gval, putS, hs, pureEnd]
    refine callK.tree p58 rfl ?_
    simp -implicitDefEqProofs [-guardOk, -gval]
  · simp -implicitDefEqProofs [-guardOk, -gval, putS, hs, pureEnd]
end Go.Proofs.YtdpbobkcbakpfaaGreatDoor

namespace Go.Proofs.YtdpbobkcbakpfaaGreatDoor
open Go Go.Ab
set_option maxRecDepth 100000
set_option maxHeartbeats 4000000
attribute [local simp] tagsT fieldsT typesT nodesT valsT textsT intsT tyC fdC vlC ndC hset_hset D.isPt D.pt
theorem frz_ref_tt {h : Hp} {id ver sz : Nat} {t : Bool} {rs : List (List T)} (hr : h.rows id = rs.map (·.map .t)) : (A.ref id ver 0 rs.length sz t).frz h frzDepth = .rows sz rs := by
  simp [frzDepth, A.frz, hr, List.take_of_length_le, Function.comp_def]
theorem frzOk_ref_tt {h : Hp} {id ver sz : Nat} {t : Bool} {rs : List (List T)} (ha : alive h id ver) (hz : h.sz id = sz) (hr : h.rows id = rs.map (·.map .t)) : (A.ref id ver 0 rs.length sz t).frzOk h frzDepth := by
  refine ⟨ha, hz, by simp [hr], fun r hr' x hx => ?_⟩
  rw [hr] at hr'
  have := List.mem_of_mem_drop (List.mem_of_mem_take hr')
  obtain ⟨y, _, rfl⟩ := List.mem_map.1 this
  obtain ⟨z, _, rfl⟩ := List.mem_map.1 hx
  simp
theorem frz_new {h : Hp} {id ver sz n : Nat} {rs : List (List T)} (e : h id = some (.arr ver false sz (rs.map (·.map .t)))) (hn : n = rs.length) : (A.ref id ver 0 n sz false).frzOk h frzDepth ∧ (A.ref id ver 0 n sz false).frz h frzDepth = .rows sz rs := by
  subst hn
  obtain ⟨o1, o2, o3, o4⟩ := objF e
  exact ⟨frzOk_ref_tt o1 o3 o2, frz_ref_tt o2⟩
attribute [local simp] c111r0 c111r1 c111 in
theorem P111 (l : List Int) (hl : l.length ≤ 1000000) : PSp Tryz.prog 111 [.one (.t (intsT l))] (.one (.t (intsT l))) := by
  refine k111.pureK (by simp) rfl (by simp [D.closed, A.closed]) ?_
  rcases l with - | ⟨a, r⟩
  · simp -implicitDefEqProofs [-guardOk, -gval, pureEnd]
  · simp -implicitDefEqProofs [-guardOk, -gval, pureEnd]
    exact ⟨by simp at hl; omega, frz_new (rs := (a :: r).map fun a => [I a]) (by simp [Hp.set, Function.comp_def]) (by simp)⟩
attribute [local simp] c73r0 c73r1 c73 in
theorem P73 (l : List ByteArray) (hl : l.length ≤ 1000000) : PSp Tryz.prog 73 [.one (.t (textsT l))] (.one (.t (textsT l))) := by
  refine k73.pureK (by simp) rfl (by simp [D.closed, A.closed]) ?_
  rcases l with - | ⟨a, r⟩
  · simp -implicitDefEqProofs [-guardOk, -gval, pureEnd]
  · simp -implicitDefEqProofs [-guardOk, -gval, pureEnd]
    exact ⟨by simp at hl; omega, frz_new (rs := (a :: r).map fun s => [T.str s]) (by simp [Hp.set, Function.comp_def]) (by simp)⟩
def GS (sz k : Nat) (rs : List (List T)) (tm : Nat → D) (h : Hp) (nx : Nat) : Prop := (rs = [] ∧ tm k = .one (.tt sz [])) ∨ (rs ≠ [] ∧ ∃ id ver, tm k = .one (.ref id ver 0 rs.length sz false) ∧ h id = some (.arr ver false sz (rs.map (·.map .t))) ∧ id < nx)
attribute [local simp] c64r0 c64r1 c64r2 c64r3 c64r5 c64r4 c64b6 c64r6 c64 in
theorem P64 (l : List Vl) (hl : l.length ≤ 1000000) (IH : ∀ x ∈ l, PSp Tryz.prog 23 [.agg (vlC x)] (.agg (vlC x))) : PSp Tryz.prog 64 [.one (.t (valsT l))] (.one (.t (valsT l))) := by
  refine k64.pureK (by simp) rfl (by simp [D.closed, A.closed]) ?_
  simp -implicitDefEqProofs [-guardOk, -gval]
  refine loopAll l (fun _ => false) [0] [] (fun i st => st.tmps 4 = .one (.t (I i)) ∧ GS 6 3 ((l.take i).map Vl.row) st.tmps st.heap st.nx) (by simp [short]; omega) ⟨by simp [GS], by simp, by simp⟩ ?_ ?_
  · rintro i x st hi hiI hw hg hy hany ⟨h4, hgs⟩ hk hh
    simp at hk
    have htk : l.take (i + 1) = l.take i ++ [x] := by rw [List.take_add_one, hg]; rfl
    have hlen : ((l.take i).map Vl.row).length = i := by simp; omega
    have e : List.take (i + 1) (List.map Vl.row l) = (l.take i).map Vl.row ++ [x.row] := by rw [← List.map_take, htk]; simp
    rcases hgs with ⟨g1, g2⟩ | ⟨g1, id, ver, g2, g3, g4⟩
    · simp -implicitDefEqProofs [-guardOk, -gval, h4, hk, hi, hiI, rowAtM hg, Vl.row_eq, -List.getElem_map]
      refine callK.tree (IH x hy) rfl ?_
      simp -implicitDefEqProofs [-guardOk, -gval, h4, hk, g2, hw]
      rw [e, g1]
      refine .inr ⟨by simp, st.nx + 4 + 7, 0, ?_, ?_, ?_⟩
      · simp
      · simp [Hp.set, Vl.row_eq]
      · omega
    · obtain ⟨p1, p2, p3, p4⟩ := objF g3
      simp -implicitDefEqProofs [-guardOk, -gval, h4, hk, hi, hiI, rowAtM hg, Vl.row_eq, -List.getElem_map]
      refine callK.tree (IH x hy) rfl ?_
      simp -implicitDefEqProofs [-guardOk, -gval, h4, hk, g2, hw, p1, p2, p3, p4]
      refine ⟨by omega, ?_⟩
      rw [e]
      refine .inr ⟨by simp, id, ver + 1, ?_, ?_, ?_⟩
      · simp
      · simp [Hp.set, Vl.row_eq]
      · omega
  · rintro st hany ⟨h4, hgs⟩ hk hh
    simp at hk
    rw [List.take_length] at hgs
    rcases hgs with ⟨g1, g2⟩ | ⟨g1, id, ver, g2, g3, g4⟩
    · have hl0 : l = [] := by simpa using g1
      subst hl0
      simp -implicitDefEqProofs [-guardOk, -gval, h4, hk, g2, pureEnd]
    · simp -implicitDefEqProofs [-guardOk, -gval, h4, hk, g2, pureEnd]
      obtain ⟨p1, p2, p3, p4⟩ := objF g3
      exact frz_new g3 (by simp)
attribute [local simp] c23r0 c23r1 c23r2 c23 in
theorem step23 (v : Vl) (h1 : v.names.length ≤ 1000000) (h2 : v.items.length ≤ 1000000) (IH : ∀ x ∈ v.items, PSp Tryz.prog 23 [.agg (vlC x)] (.agg (vlC x))) : PSp Tryz.prog 23 [.agg (vlC v)] (.agg (vlC v)) := by
  have p73 := P73 v.names h1
  have p64 := P64 v.items h2 IH
  refine k23.pureK (by simp) (by simp [D.closed, A.closed]) (by simp [D.closed, A.closed]) ?_
  simp -implicitDefEqProofs [-guardOk, -gval]
  refine callK.treeD p73 rfl ?_
  simp -implicitDefEqProofs [-guardOk, -gval]
  refine callK.treeD p64 rfl ?_
  simp -implicitDefEqProofs [-guardOk, -gval, pureEnd]
theorem P23 : ∀ v : Vl, v.slim = true → PSp Tryz.prog 23 [.agg (vlC v)] (.agg (vlC v)) :=
  Vl.ind fun v IH hv => by
    obtain ⟨h1, h2, h3, h4, h5⟩ := (Vl.slim_iff v).1 hv
    exact step23 v (by omega) (by omega) fun x hx => IH x hx (h5 x hx)
theorem Nd.row_eq (x : Nd) : x.row = [I x.k, I x.lo, I x.hi, .str x.s, .rows 1 (x.args.map fun a => [I a])] := rfl
attribute [local simp] c66r0 c66r1 c66r2 c66r3 c66r5 c66r6 c66r7 c66r4 c66b8 c66r8 c66 in
theorem P66 (l : List Nd) (hl : l.length ≤ 1000000) (ha : ∀ x ∈ l, x.args.length ≤ 1000000) : PSp Tryz.prog 66 [.one (.t (nodesT l))] (.one (.t (nodesT l))) := by
  refine k66.pureK (by simp) rfl (by simp [D.closed, A.closed]) ?_
  simp -implicitDefEqProofs [-guardOk, -gval]
  refine loopAll l (fun _ => false) [0] [] (fun i st => st.tmps 4 = .one (.t (I i)) ∧ GS 5 3 ((l.take i).map Nd.row) st.tmps st.heap st.nx) (by simp [short]; omega) ⟨by simp [GS], by simp, by simp⟩ ?_ ?_
  · rintro i x st hi hiI hw hg hy hany ⟨h4, hgs⟩ hk hh
    simp at hk
    have htk : l.take (i + 1) = l.take i ++ [x] := by rw [List.take_add_one, hg]; rfl
    have hlen : ((l.take i).map Nd.row).length = i := by simp; omega
    have e : List.take (i + 1) (List.map Nd.row l) = (l.take i).map Nd.row ++ [x.row] := by rw [← List.map_take, htk]; simp
    have p111 := P111 x.args (ha x hy)
    rcases hgs with ⟨g1, g2⟩ | ⟨g1, id, ver, g2, g3, g4⟩
    · simp -implicitDefEqProofs [-guardOk, -gval, h4, hk, hi, hiI, rowAtM hg, Nd.row_eq, -List.getElem_map]
      refine callK.tree p111 rfl ?_
      simp -implicitDefEqProofs [-guardOk, -gval, h4, hk, g2, hw]
      rw [e, g1]
      refine .inr ⟨by simp, _, _, rfl, ?_, ?_⟩
      · simp [Hp.set, Nd.row_eq]
      · omega
    · obtain ⟨p1, p2, p3, p4⟩ := objF g3
      have hne : ¬ id = st.nx + 4 + 4 := by omega
      simp -implicitDefEqProofs [-guardOk, -gval, h4, hk, hi, hiI, rowAtM hg, Nd.row_eq, -List.getElem_map]
      refine callK.tree p111 rfl ?_
      simp -implicitDefEqProofs [-guardOk, -gval, h4, hk, g2, hw, p1, p2, p3, p4, hne]
      refine ⟨by omega, ?_⟩
      rw [e]
      refine .inr ⟨by simp, id, ver + 1, ?_, ?_, ?_⟩
      · simp
      · simp [Hp.set, Nd.row_eq]
      · omega
  · rintro st hany ⟨h4, hgs⟩ hk hh
    simp at hk
    rw [List.take_length] at hgs
    rcases hgs with ⟨g1, g2⟩ | ⟨g1, id, ver, g2, g3, g4⟩
    · have hl0 : l = [] := by simpa using g1
      subst hl0
      simp -implicitDefEqProofs [-guardOk, -gval, h4, hk, g2, pureEnd]
    · simp -implicitDefEqProofs [-guardOk, -gval, h4, hk, g2, pureEnd]
      exact frz_new g3 (by simp)
attribute [local simp] c65r0 c65r1 c65r2 c65r3 c65r5 c65r4 c65b6 c65r6 c65 in
theorem P65 (l : List Ty) (hl : l.length ≤ 1000000) (IH : ∀ x ∈ l, PSp Tryz.prog 15 [.agg (tyC x)] (.agg (tyC x))) : PSp Tryz.prog 65 [.one (.t (typesT l))] (.one (.t (typesT l))) := by
  refine k65.pureK (by simp) rfl (by simp [D.closed, A.closed]) ?_
  simp -implicitDefEqProofs [-guardOk, -gval]
  refine loopAll l (fun _ => false) [0] [] (fun i st => st.tmps 4 = .one (.t (I i)) ∧ GS 8 3 ((l.take i).map Ty.row) st.tmps st.heap st.nx) (by simp [short]; omega) ⟨by simp [GS], by simp, by simp⟩ ?_ ?_
  · rintro i x st hi hiI hw hg hy hany ⟨h4, hgs⟩ hk hh
    simp at hk
    have htk : l.take (i + 1) = l.take i ++ [x] := by rw [List.take_add_one, hg]; rfl
    have hlen : ((l.take i).map Ty.row).length = i := by simp; omega
    have e : List.take (i + 1) (List.map Ty.row l) = (l.take i).map Ty.row ++ [x.row] := by rw [← List.map_take, htk]; simp
    rcases hgs with ⟨g1, g2⟩ | ⟨g1, id, ver, g2, g3, g4⟩
    · simp -implicitDefEqProofs [-guardOk, -gval, h4, hk, hi, hiI, rowAtM hg, Ty.row_eq, -List.getElem_map]
      refine callK.tree (IH x hy) rfl ?_
      simp -implicitDefEqProofs [-guardOk, -gval, h4, hk, g2, hw]
      rw [e, g1]
      refine .inr ⟨by simp, _, _, rfl, ?_, ?_⟩
      · simp [Hp.set, Ty.row_eq]
      · omega
    · obtain ⟨p1, p2, p3, p4⟩ := objF g3
      simp -implicitDefEqProofs [-guardOk, -gval, h4, hk, hi, hiI, rowAtM hg, Ty.row_eq, -List.getElem_map]
      refine callK.tree (IH x hy) rfl ?_
      simp -implicitDefEqProofs [-guardOk, -gval, h4, hk, g2, hw, p1, p2, p3, p4]
      refine ⟨by omega, ?_⟩
      rw [e]
      refine .inr ⟨by simp, id, ver + 1, ?_, ?_, ?_⟩
      · simp
      · simp [Hp.set, Ty.row_eq]
      · omega
  · rintro st hany ⟨h4, hgs⟩ hk hh
    simp at hk
    rw [List.take_length] at hgs
    rcases hgs with ⟨g1, g2⟩ | ⟨g1, id, ver, g2, g3, g4⟩
    · have hl0 : l = [] := by simpa using g1
      subst hl0
      simp -implicitDefEqProofs [-guardOk, -gval, h4, hk, g2, pureEnd]
    · simp -implicitDefEqProofs [-guardOk, -gval, h4, hk, g2, pureEnd]
      exact frz_new g3 (by simp)
end Go.Proofs.YtdpbobkcbakpfaaGreatDoor

