import Derived.Test.YtdpbobkcbakpfaaGreatDoorMrsH
namespace Go.Proofs.YtdpbobkcbakpfaaGreatDoor
open Go Go.Ab
set_option maxRecDepth 100000
theorem Data.congr {h h' : Hp} {id ver : Nat} {d : Array Sp} (hd : Data h id ver d) (e : h' id = h id) : Data h' id ver d := by
 obtain ⟨a, b, c, f⟩ := hd
 refine ⟨?_, ?_, ?_, ?_⟩
 ·unfold Ab.alive at *; rw [e]; exact a
 ·unfold Hp.rows at *; rw [e]; exact b
 ·unfold Hp.sz at *; rw [e]; exact c
 ·unfold Hp.shut at *; rw [e]; exact f
def tH (d : D) (h : Hp) (nx : Nat) (acc : List Sp) (base did : Nat) : Prop :=
 (acc = [] ∧ d = .one (.tt 2 [])) ∨ (acc ≠ [] ∧ ∃ id ver, base ≤ id ∧ id < nx ∧ id ≠ did ∧ d = .one (.ref id ver 0 acc.length 2 false) ∧ alive h id ver ∧ h.rows id = acc.map cell ∧ h.sz id = 2 ∧ h.shut id = false)
theorem tH.more {d : D} {h : Hp} {nx nx' base did did' : Nat} {acc : List Sp} (ho : tH d h nx acc base did) (hn : nx ≤ nx') (hd : nx ≤ did' ∨ did' < base ∨ did' = did) : tH d h nx' acc base did' := by
 rcases ho with ho | ⟨h1, id, ver, h2, h3, h4⟩
 ·exact .inl ho
 ·exact .inr ⟨h1, id, ver, h2, by omega, by omega, h4.2⟩
theorem tH.set {d : D} {h : Hp} {nx base did j : Nat} {o : O} {acc : List Sp} (ho : tH d h nx acc base did) (hj : nx ≤ j) : tH d (h.set j o) nx acc base did := by
 rcases ho with ho | ⟨h1, id, ver, h2, h3, h3', h4, h5, h6, h7, h8⟩
 ·exact .inl ho
 ·have hne : id ≠ j := by omega
  refine .inr ⟨h1, id, ver, h2, h3, h3', h4, ?_, ?_, ?_, ?_⟩
  ·unfold Ab.alive Hp.set at *; rw [if_neg hne]; exact h5
  ·unfold Hp.rows Hp.set at *; rw [if_neg hne]; exact h6
  ·unfold Hp.sz Hp.set at *; rw [if_neg hne]; exact h7
  ·unfold Hp.shut Hp.set at *; rw [if_neg hne]; exact h8
theorem bA {h : Hp} {j id : Nat} {o : O} (hne : id ≠ j) : (h.set j o) id = h id := by simp [Hp.set, hne]
structure aFV (x y : Sp) (bx bY base : Nat) (acc : List Sp) (h : Hp) (nx : Nat) (tm : Nat → D) : Prop where
 t9 : tm 9 = .one (.ptr ⟨bx, 0, 2, 0, 0⟩)
 t6 : tm 6 = .one (.ptr ⟨bY, 0, 2, 0, 0⟩)
 dx : Data h bx 0 #[x]
 dy : Data h bY 0 #[y]
 bxb : base ≤ bx
 bxn : bx < nx
 byb : bY < base
 out : tH (tm 7) h nx acc base bx
 len : acc.length ≤ 100000
def nY (tm tm' : Nat → D) : Prop := tm' 1 = tm 1 ∧ tm' 6 = tm 6 ∧ tm' 10 = tm 10 ∧ tm' 11 = tm 11 ∧ tm' 12 = tm 12 ∧ tm' 16 = tm 16 ∧ tm' 17 = tm 17 ∧ tm' 18 = tm 18 ∧ tm' 9 = tm 9
theorem aVQ {n : Nat} {A : Exit → St → Prop} {ks : List KF} {x y : Sp} {bx bY base : Nat} {acc : List Sp} {tm : Nat → D} {h : Hp} {nx nx' : Nat} (cs : aFV x y bx bY base acc h nx tm) (_hx : bad x = false) (hy : bad y = false) (hnx : nx' = nx + 13)
  (K : ∀ tm' h', aFV x y bx bY base (acc ++ [(x.1, min x.2 (y.1 - 1))]) h' nx' tm' ∨ 100000 < acc.length + 1 → (∀ id, id < base → h' id = h id) → nY tm tm' → cO Tryz.prog n A ks .normal ⟨tm', h', nx'⟩) :
  iE Tryz.prog false nx c102r9 (oO (kont Tryz.prog n A ks) nx') 0 tm h := by
 obtain ⟨t9, t6, dx, dy, bxb, bxn, byb, out, len⟩ := cs
 have rx : h.rows bx = [cell x] := by rw [dx.rows]; rfl
 have ry : h.rows bY = [cell y] := by rw [dy.rows]; rfl
 simp [bad] at hy
 have hw : IntKind.i64.wrap (y.1 - 1) = y.1 - 1 := wrap_i64 (by omega) (by omega)
 have hmin : (if y.1 - 1 < x.2 then y.1 - 1 else x.2) = min x.2 (y.1 - 1) := by rw [Int.min_def]; split <;> split <;> omega
 rcases out with ⟨rfl, out⟩ | ⟨hne, id, ver, h2, h3, h3', h4, h5, h6, h7, h8⟩
 ·simp [c102r9, t9, t6, dx.alive, dx.sz, rx, dy.alive, dy.sz, ry, cell, hw, hmin, out]
  refine K _ _ (.inl ⟨by simp [t9], by simp [t6], dx.set (by omega), dy.set (by omega), bxb, by omega, byb, .inr ⟨by simp, _, 0, ?_, ?_, ?_, by simp; rfl, by simp, ?_, by simp, by simp⟩, by simp⟩) (fun id hid => bA (by omega)) (by simp [nY])
  ·omega
  ·omega
  ·omega
  ·rw [dF, if_pos rfl]; rfl
 ·have aB7 : (h.rows id).length = acc.length := by rw [h6]; simp
  simp [c102r9, t9, t6, dx.alive, dx.sz, rx, dy.alive, dy.sz, ry, cell, hw, hmin, h4, h5, h7, aB7]
  refine ⟨by omega, K _ _ ?_ (fun id hid => bA (by omega)) (by simp [nY])⟩
  rcases Nat.lt_or_ge 100000 (acc.length + 1) with hb | hb
  ·exact .inr hb
  ·refine .inl ⟨by simp [t9], by simp [t6], dx.set (by omega), dy.set (by omega), bxb, by omega, byb, .inr ⟨by simp, id, ver + 1, h2, by omega, h3', by simp, by simp, ?_, by simp, by simp [h8]⟩, by simpa using hb⟩
   rw [dF, if_pos rfl, h6]; simp [cell]
theorem aVR {n : Nat} {A : Exit → St → Prop} {ks : List KF} {x y : Sp} {bx bY base : Nat} {acc : List Sp} {tm : Nat → D} {h : Hp} {nx nx' : Nat} (cs : aFV x y bx bY base acc h nx tm) (_hx : bad x = false) (hy : bad y = false) (hnx : nx' = nx + 13)
  (K : ∀ tm' h', aFV x y bx bY base (acc ++ [(max x.1 (y.2 + 1), x.2)]) h' nx' tm' ∨ 100000 < acc.length + 1 → (∀ id, id < base → h' id = h id) → nY tm tm' → cO Tryz.prog n A ks .normal ⟨tm', h', nx'⟩) :
  iE Tryz.prog false nx c102r11 (oO (kont Tryz.prog n A ks) nx') 0 tm h := by
 obtain ⟨t9, t6, dx, dy, bxb, bxn, byb, out, len⟩ := cs
 have rx : h.rows bx = [cell x] := by rw [dx.rows]; rfl
 have ry : h.rows bY = [cell y] := by rw [dy.rows]; rfl
 simp [bad] at hy
 have hw : IntKind.i64.wrap (y.2 + 1) = y.2 + 1 := wrap_i64 (by omega) (by omega)
 have hmax : (if x.1 < y.2 + 1 then y.2 + 1 else x.1) = max x.1 (y.2 + 1) := by rw [Int.max_def]; split <;> split <;> omega
 rcases out with ⟨rfl, out⟩ | ⟨hne, id, ver, h2, h3, h3', h4, h5, h6, h7, h8⟩
 ·simp [c102r11, t9, t6, dx.alive, dx.sz, rx, dy.alive, dy.sz, ry, cell, hw, hmax, out]
  refine K _ _ (.inl ⟨by simp [t9], by simp [t6], dx.set (by omega), dy.set (by omega), bxb, by omega, byb, .inr ⟨by simp, _, 0, ?_, ?_, ?_, by simp; rfl, by simp, ?_, by simp, by simp⟩, by simp⟩) (fun id hid => bA (by omega)) (by simp [nY])
  ·omega
  ·omega
  ·omega
  ·rw [dF, if_pos rfl]; rfl
 ·have aB7 : (h.rows id).length = acc.length := by rw [h6]; simp
  simp [c102r11, t9, t6, dx.alive, dx.sz, rx, dy.alive, dy.sz, ry, cell, hw, hmax, h4, h5, h7, aB7]
  refine ⟨by omega, K _ _ ?_ (fun id hid => bA (by omega)) (by simp [nY])⟩
  rcases Nat.lt_or_ge 100000 (acc.length + 1) with hb | hb
  ·exact .inr hb
  ·refine .inl ⟨by simp [t9], by simp [t6], dx.set (by omega), dy.set (by omega), bxb, by omega, byb, .inr ⟨by simp, id, ver + 1, h2, by omega, h3', by simp, by simp, ?_, by simp, by simp [h8]⟩, by simpa using hb⟩
   rw [dF, if_pos rfl, h6]; simp [cell]
theorem aGK {n : Nat} {A : Exit → St → Prop} {ks : List KF} {J : St → Prop} {x y : Sp} {bx bY base : Nat} {acc : List Sp} {tm : Nat → D} {h : Hp} {nx : Nat} {i : Nat} (cs : aFV x y bx bY base acc h nx tm) (hx : bad x = false) (hy : bad y = false) (hlen : acc.length + 2 ≤ 100000) (hi : i ≤ 100000) (h18 : tm 18 = .one (.t (I i)))
  (K : ∀ st' : St, tH (st'.tmps 7) st'.heap st'.nx (acc ++ gW y x) base st'.nx → (∀ id, id < base → st'.heap id = h id) → nx ≤ st'.nx → st'.tmps 1 = tm 1 → st'.tmps 6 = tm 6 → st'.tmps 10 = tm 10 → st'.tmps 11 = tm 11 → st'.tmps 12 = tm 12 → st'.tmps 16 = tm 16 → st'.tmps 17 = tm 17 → st'.tmps 18 = .one (.t (I ((i + 1 : Nat) : Int))) → J st') :
  iE Tryz.prog false nx c102r8 (oO (kont Tryz.prog n A (.thn (.cond (X.tmp 26) (.region 9 false 13 c102r9) .skip) :: .thn (.seq (.region 10 false 5 c102r10) (.cond (X.tmp 43) (.region 11 false 13 c102r11) .skip)) :: .blk 3 :: .thn (.region 12 false 2 c102r12) :: .post J :: ks)) (nx + 5)) 0 tm h := by
 have cs0 := cs
 obtain ⟨t9, t6, dx, dy, bxb, bxn, byb, out, len⟩ := cs
 have rx : h.rows bx = [cell x] := by rw [dx.rows]; rfl
 have ry : h.rows bY = [cell y] := by rw [dy.rows]; rfl
 have hw : IntKind.i64.wrap ((i : Int) + 1) = ((i + 1 : Nat) : Int) := bZ _ (by omega) (by omega)
 -- the second half
 have second : ∀ (acc' : List Sp) (tm' : Nat → D) (h' : Hp) (nx' : Nat), aFV x y bx bY base acc' h' nx' tm' → acc'.length ≤ acc.length + 1 → (acc' ++ (if y.2 < x.2 then [(max x.1 (y.2 + 1), x.2)] else []) = acc ++ gW y x) → (∀ id, id < base → h' id = h id) → nx ≤ nx' → nY tm tm' →
   iE Tryz.prog false nx' c102r10 (oO (kont Tryz.prog n A (.thn (.cond (X.tmp 43) (.region 11 false 13 c102r11) .skip) :: .blk 3 :: .thn (.region 12 false 2 c102r12) :: .post J :: ks)) (nx' + 5)) 0 tm' h' := by
  intro acc' tm' h' nx' cs' hl he hk hn kt
  have cs1 := cs'
  obtain ⟨t9', t6', dx', dy', _, bxn', _, out', len'⟩ := cs'
  have rx' : h'.rows bx = [cell x] := by rw [dx'.rows]; rfl
  have ry' : h'.rows bY = [cell y] := by rw [dy'.rows]; rfl
  obtain ⟨k1, k6, k10, k11, k12, k16, k17, k18, k9⟩ := kt
  simp [c102r10, t9', t6', dx'.alive, dx'.sz, rx', dy'.alive, dy'.sz, ry', cell]
  constructor
  ·intro hlt
   rw [if_pos hlt] at he
   refine aVR (acc := acc') ⟨by simp [t9'], by simp [t6'], dx', dy', bxb, by omega, byb, by simpa using out'.more (by omega) (.inr (.inr rfl)), len'⟩ hx hy rfl fun tm2 h2 c2 hk2 kt2 => ?_
   obtain ⟨j1, j6, j10, j11, j12, j16, j17, j18, j9⟩ := kt2
   simp at j1 j6 j10 j11 j12 j16 j17 j18
   rcases c2 with c2 | c2
   ·simp [c102r12, j18, k18, h18, hw]
    refine K _ ?_ (fun id hid => (hk2 id hid).trans (hk id hid)) (by simp; omega) (by simp [j1, k1]) (by simp [j6, k6]) (by simp [j10, k10]) (by simp [j11, k11]) (by simp [j12, k12]) (by simp [j16, k16]) (by simp [j17, k17]) (by simp)
    rw [← he]
    simpa using c2.out.more (by omega) (.inl (by omega))
   ·omega
  ·intro hge
   rw [if_neg (by omega)] at he
   simp [c102r12, k18, h18, hw]
   refine K _ ?_ hk (by simp; omega) (by simp [k1]) (by simp [k6]) (by simp [k10]) (by simp [k11]) (by simp [k12]) (by simp [k16]) (by simp [k17]) (by simp)
   rw [← he]
   simpa using out'.more (by omega) (.inl (by omega))
 simp [c102r8, t9, t6, dx.alive, dx.sz, rx, dy.alive, dy.sz, ry, cell]
 constructor
 ·intro hlt
  refine aVQ (acc := acc) ⟨by simp [t9], by simp [t6], dx, dy, bxb, by omega, byb, by simpa using out.more (by omega) (.inr (.inr rfl)), len⟩ hx hy rfl fun tm2 h2 c2 hk2 kt2 => ?_
  obtain ⟨j1, j6, j10, j11, j12, j16, j17, j18, j9⟩ := kt2
  simp at j1 j6 j10 j11 j12 j16 j17 j18 j9
  rcases c2 with c2 | c2
  ·simp
   refine second (acc ++ [(x.1, min x.2 (y.1 - 1))]) tm2 h2 _ c2 (by simp) (by simp [gW, hlt]) hk2 (by omega) ⟨j1, j6, j10, j11, j12, j16, j17, j18, j9⟩
  ·omega
 ·intro hge
  have hng : ¬ x.1 < y.1 := by omega
  exact second acc _ h _ ⟨by simp [t9], by simp [t6], dx, dy, bxb, by omega, byb, by simpa using out.more (by omega) (.inr (.inr rfl)), len⟩ (by omega) (by simp [gW, hng]) (fun _ _ => rfl) (by omega) (by simp [nY])
theorem Asc.left : ∀ {a b : List Sp}, Asc (a ++ b) → Asc a
 | [], _, _ => trivial
 | x :: a, b, h => ⟨h.1, fun y hy => h.2.1 y (by simp [hy]), Asc.left h.2.2⟩
theorem Asc.take {a : List Sp} (h : Asc a) (j : Nat) : Asc (a.take j) := Asc.left (b := a.drop j) (by rw [List.take_append_drop]; exact h)
def Cur (d : D) (h : Hp) (base : Nat) (l : List Sp) : Prop :=
 d = .one (.t (spans l)) ∨ (l = [] ∧ d = .one (.tt 2 [])) ∨ ∃ id ver, id < base ∧ d = .one (.ref id ver 0 l.length 2 false) ∧ Data h id ver l.toArray
def CIn (y : Sp) (cur : List Sp) (base : Nat) (st : St) (k : Nat) (st1 : St) : Prop :=
 ∃ j : Nat, k = cur.length - j ∧ j ≤ cur.length ∧ (∀ id, id < base → st1.heap id = st.heap id) ∧ st.nx ≤ st1.nx ∧ tH (st1.tmps 7) st1.heap st1.nx (iB (cur.take j) y) base st1.nx ∧
  st1.tmps 1 = st.tmps 1 ∧ st1.tmps 6 = st.tmps 6 ∧ st1.tmps 10 = st.tmps 10 ∧ st1.tmps 11 = st.tmps 11 ∧ st1.tmps 12 = st.tmps 12 ∧ st1.tmps 16 = st.tmps 16 ∧ st1.tmps 17 = st.tmps 17 ∧ st1.tmps 18 = .one (.t (I j))
theorem vX {n : Nat} {A : Exit → St → Prop} {ks : List KF} (y : Sp) (cur : List Sp) (bY base : Nat) (st : St) (hcur : Cur (st.tmps 16) st.heap base cur) (h17 : st.tmps 17 = .one (.t (I cur.length))) (h18 : st.tmps 18 = .one (.t (I 0))) (h7 : st.tmps 7 = .one (.tt 2 []))
  (h6 : st.tmps 6 = .one (.ptr ⟨bY, 0, 2, 0, 0⟩)) (dy : Data st.heap bY 0 #[y]) (byb : bY < base) (hbase : base ≤ st.nx) (hA : Asc cur) (hok : ∀ x ∈ cur, bad x = false) (hy : bad y = false) (hlen : cur.length ≤ 50000)
  (K : ∀ st' : St, tH (st'.tmps 7) st'.heap st'.nx (iB cur y) base st'.nx → (∀ id, id < base → st'.heap id = st.heap id) → st.nx ≤ st'.nx → st'.tmps 1 = st.tmps 1 → st'.tmps 10 = st.tmps 10 → st'.tmps 11 = st.tmps 11 → st'.tmps 12 = st.tmps 12 → cO Tryz.prog n A ks .normal st') :
  W Tryz.prog n (.loop c102b13) (kont Tryz.prog n A (.blk 2 :: ks)) st := by
 have hyv : y.1 ≤ y.2 := by simp [bad] at hy; omega
 refine W.fJ (fun k st1 => CIn y cur base st k st1) cur.length ⟨0, by simp, by simp, fun _ _ => rfl, Nat.le_refl _, .inl ⟨by simp [iB], h7⟩, rfl, rfl, rfl, rfl, rfl, rfl, rfl, h18⟩ ?_
 rintro k st1 ⟨j, hk, hj, hh, hnx, h7, e1, e6, e10, e11, e12, e16, e17, e18⟩
 rw [h6] at e6; rw [h17] at e17
 rcases Nat.lt_or_ge j cur.length with hlt | hge
 ·have gQ : (j : Int) < cur.length := by omega
  obtain ⟨x, hx⟩ : ∃ x, x = cur[j] := ⟨_, rfl⟩
  have hbx : bad x = false := hok x (by rw [hx]; exact List.getElem_mem hlt)
  have hl := vU (hA.take j) hyv
  rw [List.length_take] at hl
  have hstep : iB (cur.take j) y ++ gW y x = iB (cur.take (j + 1)) y := by
   rw [take_one hlt]; unfold iB; rw [List.flatMap_append, hx]; simp
  have dy1 : Data st1.heap bY 0 #[y] := dy.congr (hh bY byb)
  have fin : ∀ (st' : St), tH (st'.tmps 7) st'.heap st'.nx (iB (cur.take j) y ++ gW y x) base st'.nx → (∀ id, id < base → st'.heap id = st1.heap id) → st1.nx ≤ st'.nx → st'.tmps 1 = st1.tmps 1 → st'.tmps 6 = st1.tmps 6 → st'.tmps 10 = st1.tmps 10 → st'.tmps 11 = st1.tmps 11 → st'.tmps 12 = st1.tmps 12 → st'.tmps 16 = st1.tmps 16 → st'.tmps 17 = st1.tmps 17 → st'.tmps 18 = .one (.t (I ((j + 1 : Nat) : Int))) → ∃ k', k' < k ∧ CIn y cur base st k' st' := by
   intro st' u7 uh un u1 u6 u10 u11 u12 u16 u17 u18
   rw [hstep] at u7
   exact ⟨cur.length - (j + 1), by omega, j + 1, rfl, by omega, fun id hid => (uh id hid).trans (hh id hid), by omega, u7, u1.trans e1, u6.trans (e6.trans h6.symm), u10.trans e10, u11.trans e11, u12.trans e12, u16.trans e16, u17.trans (e17.trans h17.symm), u18⟩
  have boxed : ∀ (d16 : D) (tm : Nat → D), st1.tmps 16 = d16 → tm 9 = .one (.ptr ⟨st1.nx + 1 + 2, 0, 2, 0, 0⟩) → tm 6 = st1.tmps 6 → tm 7 = st1.tmps 7 →
    aFV x y (st1.nx + 1 + 2) bY base (iB (cur.take j) y) ((st1.heap.set (st1.nx + 1 + 2) (.arr 0 false 2 [[.t (.int .i64 0), .t (.int .i64 0)]])).set (st1.nx + 1 + 2) (.arr 0 false 2 [[.t (I x.1), .t (I x.2)]])) (st1.nx + 1 + 4) tm := by
   intro d16 tm _ t9 t6 t7
   refine ⟨t9, by rw [t6, e6], ⟨by simp, ?_, by simp, by simp⟩, (dy1.set (by omega)).set (by omega), by omega, by omega, byb, ?_, by omega⟩
   ·rw [dF, if_pos rfl]; simp [cell]
   ·rw [t7]
    exact ((h7.set (by omega)).set (by omega)).more (by omega) (.inl (by omega))
  have keep : ∀ id, id < base → ((st1.heap.set (st1.nx + 1 + 2) (.arr 0 false 2 [[.t (.int .i64 0), .t (.int .i64 0)]])).set (st1.nx + 1 + 2) (.arr 0 false 2 [[.t (I x.1), .t (I x.2)]])) id = st1.heap id := fun id hid => by rw [bA (by omega), bA (by omega)]
  have aSB : Cur (st1.tmps 16) st1.heap base cur := by
   rw [e16]
   rcases hcur with h | h | ⟨id, ver, q1, q2, q3⟩
   ·exact .inl h
   ·exact .inr (.inl h)
   ·exact .inr (.inr ⟨id, ver, q1, q2, q3.congr (hh id q1)⟩)
  rcases aSB with h | ⟨h, _⟩ | ⟨id, ver, q1, q2, q3⟩
  ·simp [c102b13, c102r6, c102r7, h, e17, e18, spans, hlt, gQ, spr, ← hx]
   refine aGK (i := j) (boxed _ _ h (by simp) (by simp) (by simp)) hbx hy (by omega) (by omega) (by simp [e18]) fun st' u7 uh un u1 u6 u10 u11 u12 u16 u17 u18 => ?_
   simp at u1 u6 u10 u11 u12 u16 u17
   exact fin st' u7 (fun id hid => (uh id hid).trans (keep id hid)) (by omega) u1 u6 u10 u11 u12 u16 u17 u18
  ·rw [h] at hlt; simp at hlt
  ·have hja : j < cur.toArray.size := by simpa using hlt
   have hln : (st1.heap.rows id).length = cur.length := by rw [q3.rows]; simp
   have g1 : ∀ hh, (st1.heap.rows id)[j]'hh = cell x := fun hh => by have := rowAt q3 hja hh; rw [hx]; simpa using this
   simp [c102b13, c102r6, c102r7, q2, e17, e18, hlt, gQ, q3.alive, q3.sz, hln, g1, cell]
   refine aGK (i := j) (boxed _ _ q2 (by simp) (by simp) (by simp)) hbx hy (by omega) (by omega) (by simp [e18]) fun st' u7 uh un u1 u6 u10 u11 u12 u16 u17 u18 => ?_
   simp at u1 u6 u10 u11 u12 u16 u17
   exact fin st' u7 (fun id hid => (uh id hid).trans (keep id hid)) (by omega) u1 u6 u10 u11 u12 u16 u17 u18
 ·have hj' : j = cur.length := by omega
  subst hj'
  have gQ : ¬ (cur.length : Int) < cur.length := by omega
  simp at h7
  simp [c102b13, c102r6, e17, e18]
  exact K _ (by simpa using h7.more (by simp) (.inl (by simp))) hh (by simp; omega) (by simp [e1]) (by simp [e10]) (by simp [e11]) (by simp [e12])
def CB (b a : List Sp) (k : Nat) (st : St) : Prop :=
 ∃ i : Nat, k = b.length - i ∧ i ≤ b.length ∧ Cur (st.tmps 0) st.heap st.nx (aZ a (b.take i)) ∧ st.tmps 1 = .one (.t (spans b)) ∧ st.tmps 10 = .one (.t (spans b)) ∧ st.tmps 11 = .one (.t (I b.length)) ∧ st.tmps 12 = .one (.t (I i))
theorem aDU {a b : List Sp} (hA : Asc a) (hb : ∀ y ∈ b, y.1 ≤ y.2) (hoa : ∀ x ∈ a, bad x = false) : ∀ z ∈ aZ a b, bad z = false := by
 intro z hz
 obtain ⟨h1, _, h3⟩ := hZ hA hb
 obtain ⟨x, hx, h4⟩ := h3 z hz
 have h5 := h1.valid z hz
 have h6 := hoa x hx
 simp [bad] at h6 ⊢
 omega
theorem aKW (a b : List Sp) (hs : (aZ a b).length ≤ 12) (ha : a.length ≤ 300) (hb : b.length ≤ 300) (hA : Asc a) (hoa : ∀ x ∈ a, bad x = false) (hob : ∀ x ∈ b, bad x = false) : PSp Tryz.prog 102 [.one (.t (spans a)), .one (.t (spans b))] (.one (.t (spans (cC (aZ a b))))) := by
 have hvb : ∀ y ∈ b, y.1 ≤ y.2 := fun y hy => by have := hob y hy; simp [bad] at this; omega
 have hpart : ∀ i, Asc (aZ a (b.take i)) ∧ (aZ a (b.take i)).length ≤ 600 ∧ ∀ z ∈ aZ a (b.take i), bad z = false := fun i => by
  have hv : ∀ y ∈ b.take i, y.1 ≤ y.2 := fun y hy => hvb y (List.mem_of_mem_take hy)
  obtain ⟨h1, h2, _⟩ := hZ (b := b.take i) hA hv
  refine ⟨h1, ?_, aDU hA hv hoa⟩
  rw [List.length_take] at h2; omega
 refine k102.aG (by simp) rfl rfl ?_
 simp [c102, c102r0, c102r1, spans]
 refine W.fJ (fun k st => CB b a k st) b.length ⟨0, by simp, by simp, .inl (by simp [aZ, spans]), by simp [spans], by simp [spans], by simp, by simp⟩ ?_
 rintro k st ⟨i, hk, hi, hcur, h1, h10, h11, h12⟩
 obtain ⟨pA, pl, pok⟩ := hpart i
 rcases Nat.lt_or_ge i b.length with hlt | hge
 ·have gQ : (i : Int) < b.length := by omega
  have hw : IntKind.i64.wrap ((i : Int) + 1) = ((i + 1 : Nat) : Int) := bZ _ (by omega) (by omega)
  obtain ⟨y, hy⟩ : ∃ y, y = b[i] := ⟨_, rfl⟩
  have hby : bad y = false := hob y (by rw [hy]; exact List.getElem_mem hlt)
  have hstep : aZ a (b.take (i + 1)) = iB (aZ a (b.take i)) y := by
   unfold aZ; rw [take_one hlt, List.foldl_append, hy]; rfl
  obtain ⟨cur, hc⟩ : ∃ cur, cur = aZ a (b.take i) := ⟨_, rfl⟩
  rw [← hc] at hcur pA pl pok hstep
  have next : ∀ st' : St, tH (st'.tmps 7) st'.heap st'.nx (iB cur y) (st.nx + 1 + 4 + 1 + 3) st'.nx → st'.tmps 1 = .one (.t (spans b)) → st'.tmps 10 = .one (.t (spans b)) → st'.tmps 11 = .one (.t (I b.length)) → st'.tmps 12 = .one (.t (I i)) →
    cO Tryz.prog 61 (aC [.tmp 4] (.one (.t (spans (cC (aZ a b)))))) [.thn (.region 13 false 2 c102r13), .blk 1, .thn (.region 14 false 2 c102r14), .post fun st' => ∃ k', k' < k ∧ CB b a k' st', .blk 0, .thn (.seq (.region 15 false 3 c102r15) .ret)] .normal st' := by
   intro st' u7 u1 u10 u11 u12
   simp [c102r13, c102r14, u12, hw]
   refine ⟨b.length - (i + 1), by omega, i + 1, rfl, by omega, ?_, by simp [u1], by simp [u10], by simp [u11], by simp⟩
   rw [hstep]
   rcases u7 with ⟨e, u7⟩ | ⟨_, id, ver, q0, q1, q2, q3, q4, q5, q6, q7⟩
   ·exact .inr (.inl ⟨e, by simp [u7]⟩)
   ·exact .inr (.inr ⟨id, ver, by simp; omega, by simp [q3], ⟨q4, by simpa using q5, q6, q7⟩⟩)
  have hnx : st.nx + 1 + 4 + 1 + 3 = st.nx + 9 := by omega
  have dyS : ∀ (o : O), Data ((st.heap.set (st.nx + 1 + 2) o).set (st.nx + 1 + 2) (.arr 0 false 2 [[.t (I y.1), .t (I y.2)]])) (st.nx + 1 + 2) 0 #[y] := fun o => ⟨by simp, by rw [dF, if_pos rfl]; simp [cell], by simp, by simp⟩
  rcases hcur with h | ⟨h, h'⟩ | ⟨id, ver, q1, q2, q3⟩
  ·simp [c102b16, c102r2, c102r3, c102r4, c102r5, h, h10, h11, h12, spans, hlt, gQ, spr, ← hy]
   refine vX y cur (st.nx + 1 + 2) (st.nx + 1 + 4 + 1 + 3) _ (.inl (by simp [spans])) (by simp) (by simp) (by simp) (by simp) (dyS _) (by omega) (by simp) pA pok hby (by omega) fun st' u7 uh un u1 u10 u11 u12 => ?_
   exact next st' u7 (by rw [u1]; simp [h1]) (by rw [u10]; simp [h10]) (by rw [u11]; simp [h11]) (by rw [u12]; simp [h12])
  ·subst h
   simp [c102b16, c102r2, c102r3, c102r4, c102r5, h', h10, h11, h12, spans, hlt, gQ, spr, ← hy]
   refine vX y [] (st.nx + 1 + 2) (st.nx + 1 + 4 + 1 + 3) _ (.inr (.inl ⟨rfl, by simp⟩)) (by simp) (by simp) (by simp) (by simp) (dyS _) (by omega) (by simp) pA pok hby (by simp) fun st' u7 uh un u1 u10 u11 u12 => ?_
   exact next st' u7 (by rw [u1]; simp [h1]) (by rw [u10]; simp [h10]) (by rw [u11]; simp [h11]) (by rw [u12]; simp [h12])
  ·simp [c102b16, c102r2, c102r3, c102r4, c102r5, q2, h10, h11, h12, spans, hlt, gQ, spr, ← hy]
   refine vX y cur (st.nx + 1 + 2) (st.nx + 1 + 4 + 1 + 3) _ (.inr (.inr ⟨id, ver, by omega, by simp, (q3.set (by omega)).set (by omega)⟩)) (by simp) (by simp) (by simp) (by simp) (dyS _) (by omega) (by simp) pA pok hby (by omega) fun st' u7 uh un u1 u10 u11 u12 => ?_
   exact next st' u7 (by rw [u1]; simp [h1]) (by rw [u10]; simp [h10]) (by rw [u11]; simp [h11]) (by rw [u12]; simp [h12])
 ·have hi' : i = b.length := by omega
  subst hi'
  have gQ : ¬ (b.length : Int) < b.length := by omega
  simp at hcur pl pok
  have hN := aB6 (aZ a b) hs (fun x hx => by have := pok x.1 x.2 hx; simpa using this)
  rcases hcur with h | ⟨h, h'⟩ | ⟨id, ver, q1, q2, q3⟩
  ·simp [c102b16, c102r2, h11, h12, c102r15, h]
   refine aD.pure hN (by simp) (by simp [spans]) ?_
   simp [aC, spans]
  ·rw [h] at hN ⊢
   simp [c102b16, c102r2, h11, h12, c102r15, h']
   refine aD.pure hN (by simp) (by simp [spans]) ?_
   simp [aC, spans]
  ·have e1 : ((aZ a b).map spr).length = (aZ a b).length := by simp
   simp [c102b16, c102r2, h11, h12, c102r15, q2]
   rw [← e1]
   have q2' : st.heap.rows id = ((aZ a b).map spr).map (·.map .t) := by rw [q3.rows, List.map_map]; rfl
   refine aD.pure hN (by simpa using jD q3.alive q3.sz q2') (by simp only [List.map_cons, List.map_nil, D.frz, lO q2', spans]) ?_
   simp [aC, spans]
end Go.Proofs.YtdpbobkcbakpfaaGreatDoor

namespace Go.Proofs.YtdpbobkcbakpfaaGreatDoor
open Go Go.Ab
set_option maxRecDepth 100000
theorem aSC (m : Nat) (hm : 0 < m) (hm2 : m ≤ 100000) (h : Hp) (n0 : Nat) (ho : aN h n0) :
  ISp Tryz.prog 162 h n0 [.one (.tt 2 []), .one (.t (I m))] (.one (.ref n0 1 0 0 2 false)) (dA h n0 1 #[]) := by
 refine k162.aO0 (by simp) ?_
 have w0 : IntKind.i64.wrap (0 : Int) = 0 := wrap_i64 (by omega) (by omega)
 have w1 : IntKind.i64.wrap (m : Int) = m := wrap_i64 (by omega) (by omega)
 have hneg : ¬ (m : Int) < 0 := by omega
 have hpos : (0 : Int) < m := by omega
 simp [c162, c162r0, c162r1, c162r3, c162r4, c162r5, c162r6, hneg, hm, w0, w1, D.aGL, D.oA, D.trunc, D.pW]
 refine ⟨⟨by omega, by omega⟩, n0 + 1 + 2 + 8 + 2 + 5, .inr rfl, ⟨by simp, by simp⟩, ⟨.ref (n0 + 1 + 2 + 8 + 2 + 5) 1 0 0 2 false, rfl, by simp [A.only], by simp [A.ren, qM]⟩, by omega, fun id hid => ?_, ?_, ⟨.arr 1 false 2 [], by simp [Hp.set]⟩, fun id hid => ?_, fun id o hid => ?_⟩
 ·simp only [dA, Hp.set]; rw [if_neg (by omega), if_neg (by omega), if_neg (by omega)]
 ·simp only [dA, Hp.set, if_true]; rfl
 ·simp only [dA, Hp.set]; rw [if_neg (by omega)]; exact ho.above id (by omega)
 ·simp only [dA, Hp.set] at hid
  split at hid
  ·simp only [Option.some.injEq] at hid; subst hid
   simp [O.below]
  ·exact ho.below id o hid
theorem aP9 (h : Hp) (n0 : Nat) (ho : aN h n0) : ISp Tryz.prog 162 h n0 [.one (.tt 2 []), .one (.t (I 0))] (.one (.tt 2 [])) h := by
 refine k162.ttK (by simp) ?_
 have w0 : IntKind.i64.wrap (0 : Int) = 0 := wrap_i64 (by omega) (by omega)
 simp [c162, c162r0, c162r1, c162r3, c162r4, c162r6, w0, D.aGL]
 exact ⟨.inr rfl, ⟨by simp, by simp⟩, rfl, ⟨2, [], rfl⟩, fun _ _ => rfl, ho.above, ho.below⟩
def lists (ls : List (List Sp)) : T := .rows 1 (ls.map fun l => [spans l])
def aSD (d : D) (h : Hp) (nx : Nat) (acc : List Sp) (tot : Nat) : Prop :=
 (tot = 0 ∧ acc = [] ∧ d = .one (.tt 2 [])) ∨ (0 < tot ∧ ∃ id ver, id < nx ∧ d = .one (.ref id ver 0 acc.length 2 false) ∧ Data h id ver acc.toArray)
def CC1 (ls : List (List Sp)) (k : Nat) (st : St) : Prop :=
 ∃ i : Nat, k = ls.length - i ∧ i ≤ ls.length ∧ st.heap = iA ∧ st.tmps 0 = .one (.t (lists ls)) ∧ st.tmps 9 = .one (.t (lists ls)) ∧ st.tmps 10 = .one (.t (I ls.length)) ∧ st.tmps 11 = .one (.t (I i)) ∧ st.tmps 3 = .one (.t (I ((ls.take i).flatten.length : Nat)))
def CC2 (ls : List (List Sp)) (k : Nat) (st : St) : Prop :=
 ∃ i : Nat, k = ls.length - i ∧ i ≤ ls.length ∧ st.tmps 25 = .one (.t (lists ls)) ∧ st.tmps 26 = .one (.t (I ls.length)) ∧ st.tmps 27 = .one (.t (I i)) ∧ aSD (st.tmps 6) st.heap st.nx (ls.take i).flatten ls.flatten.length
theorem zF {b : List (List Sp)} {j : Nat} (h : j < b.length) : (b.take (j + 1)).flatten = (b.take j).flatten ++ b[j] := by rw [List.take_add_one, List.getElem?_eq_getElem h, List.flatten_append]; simp
theorem rC (ls : List (List Sp)) (i : Nat) : (ls.take i).flatten.length ≤ ls.flatten.length := by
 have := congrArg List.length (congrArg List.flatten (List.take_append_drop i ls))
 rw [List.flatten_append, List.length_append] at this
 omega
theorem aN4 (ls : List (List Sp)) (hl : ls.flatten.length ≤ 100000) (hl2 : ls.length ≤ 100000) : PSp Tryz.prog 131 [.one (.t (lists ls))] (.one (.t (spans ls.flatten))) := by
 refine k131.aG (by simp) rfl rfl ?_
 simp [c131, c131r0, c131r1, c131r2, lists]
 refine W.fJ (fun k st => CC1 ls k st) ls.length ⟨0, by simp, by simp, by simp, by simp [lists], by simp [lists], by simp, by simp, by simp⟩ ?_
 rintro k st ⟨i, hk, hi, hh, h0, h9, h10, h11, h3⟩
 have hpi := rC ls i
 rcases Nat.lt_or_ge i ls.length with hlt | hge
 ·have gQ : (i : Int) < ls.length := by omega
  have aPA := rC ls (i + 1)
  have hstep := zF hlt
  obtain ⟨l, hle⟩ : ∃ l, l = ls[i] := ⟨_, rfl⟩
  obtain ⟨t, ht⟩ : ∃ t : Nat, t = (ls.take i).flatten.length := ⟨_, rfl⟩
  obtain ⟨t1, ht1⟩ : ∃ t : Nat, t = (ls.take (i + 1)).flatten.length := ⟨_, rfl⟩
  have hsum : t1 = t + l.length := by rw [ht1, hstep, List.length_append, ht, hle]
  rw [← ht] at h3 hpi
  rw [← ht1] at aPA
  have hw : IntKind.i64.wrap ((i : Int) + 1) = ((i + 1 : Nat) : Int) := bZ _ (by omega) (by omega)
  have hw2 : IntKind.i64.wrap ((t : Int) + l.length) = (t1 : Int) := bZ _ (by omega) (by omega)
  have hng : ¬ (t1 : Int) < 0 := by omega
  simp [c131b9, c131r3, c131r4, c131r5, c131r6, c131r8, h9, h10, h11, h3, lists, hlt, gQ, ← hle, spans, hw, hw2, hng]
  exact ⟨ls.length - (i + 1), by omega, i + 1, rfl, by omega, by simp [hh], by simp [h0, lists], by simp [h9, lists], by simp [h10], by simp, by simp [ht1]⟩
 ·have hi' : i = ls.length := by omega
  subst hi'
  have gQ : ¬ (ls.length : Int) < ls.length := by omega
  rw [List.take_length] at h3
  obtain ⟨t, ht⟩ : ∃ t : Nat, t = ls.flatten.length := ⟨_, rfl⟩
  rw [← ht] at h3 hl
  have ho0 : ∀ n, aN iA n := fun n => ⟨fun _ _ => rfl, fun id o h => by cases h⟩
  have after : ∀ (d : D) (g : Hp) (tm : Nat → D) (nx : Nat), tm 0 = .one (.t (lists ls)) → tm 6 = d → aSD d g nx [] t →
    aT Tryz.prog 36 (aC [.tmp 2] (.one (.t (spans ls.flatten)))) (.seq (.seq (.region 10 false 3 c131r10) (.block 2 (.loop c131b16))) (.seq (.region 15 false 2 c131r15) .ret)) [] ⟨tm, g, nx⟩ := by
   intro d g tm nx u0 u6 uo
   simp [c131r10, u0, lists]
   refine W.fJ (fun k st => CC2 ls k st) ls.length ⟨0, by simp, by simp, by simp [lists], by simp, by simp, ?_⟩ ?_
   ·rw [← ht]
    rcases uo with ⟨a, b, c⟩ | ⟨a, id, ver, b, c, e⟩
    ·exact .inl ⟨a, by simp, by simp [u6, c]⟩
    ·exact .inr ⟨a, id, ver, by simp; omega, by simp [u6, c], by simpa using e⟩
   rintro k st2 ⟨i, hk, hi, h25, h26, h27, h6⟩
   have hpi := rC ls i
   rcases Nat.lt_or_ge i ls.length with hlt | hge
   ·have gQ : (i : Int) < ls.length := by omega
    have aPA := rC ls (i + 1)
    have hstep := zF hlt
    obtain ⟨l, hle⟩ : ∃ l, l = ls[i] := ⟨_, rfl⟩
    rw [← hle] at hstep
    obtain ⟨acc, hacc⟩ : ∃ acc, acc = (ls.take i).flatten := ⟨_, rfl⟩
    rw [← hacc] at h6 hstep hpi
    rw [hstep, List.length_append] at aPA
    have hw : IntKind.i64.wrap ((i : Int) + 1) = ((i + 1 : Nat) : Int) := bZ _ (by omega) (by omega)
    rcases h6 with ⟨a, b, c⟩ | ⟨a, id, ver, b, c, e⟩
    ·have hlz : l = [] := List.eq_nil_of_length_eq_zero (by omega)
     rw [hlz] at hle hstep
     simp [c131b16, c131r11, c131r12, c131r13, c131r14, h25, h26, h27, c, lists, hlt, gQ, ← hle, spans, hw]
     exact ⟨ls.length - (i + 1), by omega, i + 1, rfl, by omega, by simp [h25, lists], by simp [h26], by simp, .inl ⟨a, by rw [hstep]; simp [b], by simp⟩⟩
    ·have hln : (st2.heap.rows id).length = acc.length := by rw [e.rows]; simp
     simp [c131b16, c131r11, c131r12, c131r13, c131r14, h25, h26, h27, c, lists, hlt, gQ, ← hle, spans, hw, e.alive, e.sz, hln]
     refine ⟨by omega, ls.length - (i + 1), by omega, i + 1, rfl, by omega, by simp [h25, lists], by simp [h26], by simp, .inr ⟨a, id, ver + 1, by simp; omega, by rw [hstep]; simp, ⟨by simp, ?_, by simp, by simp [e.open_]⟩⟩⟩
     rw [dF, if_pos rfl, e.rows, hstep]
     simp [cell, spr]
   ·have hi' : i = ls.length := by omega
    subst hi'
    have gQ : ¬ (ls.length : Int) < ls.length := by omega
    rw [List.take_length] at h6
    simp [c131b16, c131r11, h26, h27, c131r15, aC]
    rcases h6 with ⟨a, b, c⟩ | ⟨a, id, ver, b, c, e⟩
    ·rw [c, b]; simp [spans]
    ·have e1 : (ls.flatten.map spr).length = ls.flatten.length := List.length_map _
     rw [c, ← e1]
     have q2' : st2.heap.rows id = (ls.flatten.map spr).map (·.map .t) := by rw [e.rows, List.map_map]; rfl
     refine ⟨jD e.alive e.sz q2', ?_⟩
     simp only [lO q2', spans]
  by_cases ht0 : t = 0
  ·subst ht0
   have h3' : st.tmps 3 = .one (.t (I 0)) := by rw [h3]; rfl
   simp [c131b9, c131r3, h10, h11, c131r9, h3', hh]
   refine aD.imp (aP9 iA _ (ho0 _)) ?_
   simp only [zT]
   exact after (.one (.tt 2 [])) _ _ _ h0 rfl (.inl ⟨rfl, rfl, rfl⟩)
  ·simp [c131b9, c131r3, h10, h11, c131r9, h3, hh]
   refine aD.imp (aSC t (by omega) (by omega) iA _ (ho0 _)) ?_
   simp only [zT]
   exact after (.one (.ref _ 1 0 0 2 false)) _ _ _ h0 rfl (.inr ⟨by omega, _, 1, by omega, rfl, nT⟩)
theorem aPB (a b : List Sp) (hs : a.length + b.length ≤ 12) (hoa : ∀ x ∈ a, bad x = false) (hob : ∀ x ∈ b, bad x = false) : PSp Tryz.prog 86 [.one (.t (I 0)), .one (.t (spans a)), .one (.t (spans b))] (.one (.t (spans (cC (a ++ b))))) := by
 refine k86.aG (by simp) rfl rfl ?_
 simp [c86, c86r0, c86r1, c86r2, c86r3, spans]
 have hc := aN4 [a, b] (by simp; omega) (by simp)
 simp [spans] at hc
 refine aD.pure hc (by simp) (by simp [lists, spans]) ?_
 have hn := aB6 (a ++ b) (by simp; omega) (fun x hx => by rcases List.mem_append.1 hx with h | h; exact hoa x h; exact hob x h)
 simp [spans] at hn
 simp
 refine aD.pure hn (by simp) (by simp) ?_
 simp [aC]
end Go.Proofs.YtdpbobkcbakpfaaGreatDoor

namespace Go.Proofs.YtdpbobkcbakpfaaGreatDoor
open Go Go.Ab
set_option maxRecDepth 100000
set_option maxHeartbeats 4000000
attribute [local simp] bL aM aS aK aY aO bI tyC fdC vlC ndC aP D.dQ D.pt
theorem sC {bg : List Nat} {i : Nat} {x : Nd} (N : yI bg i x.args) {k : Nat} (h : k < x.args.length) : x.args[k]? = some ((aV x k : Nat) : Int) := by
 obtain ⟨c, c1, _, _⟩ := N.arg _ (List.getElem_mem h)
 simp only [aV, List.getD_eq_getElem?_getD, List.getElem?_eq_getElem h, Option.getD_some, c1]
 simp
structure aFW (l : List Nd) (bg : List Nat) (W : Nat → Prop) (f : Nat → Nat → List Sp) : Prop where
 tree : iG l bg
 few : l.length ≤ 20
 ok : ∀ x ∈ l, x.ok = true
 set : ∀ n i, i < n → i < l.length → W i → Gap (f n i) ∧ (∀ y ∈ f n i, bad y = false) ∧ (f n i).length ≤ 10
 two : ∀ n i x, l[i]? = some x → i < n + 1 → W i → 2 ≤ x.args.length → (f n (aV x 0)).length + (f n (aV x 1)).length ≤ 10
attribute [local simp] c90b12 c90 in
theorem P90 {l : List Nd} {bg : List Nat} {W : Nat → Prop} (H : aFW l bg W (spL l)) (h1 : ∀ p x, l[p]? = some x → W p → x.k ≠ 1) (hsub : ∀ p x, l[p]? = some x → W p → ∀ c : Nat, (c : Int) ∈ x.args → W c) : ∀ n i, i < n → i < l.length → W i → PSp Tryz.prog 90 [.one (.t (aK l)), .one (.t (I i))] (.one (.t (spans (spL l n i)))) := by
 intro n
 induction n with
 | zero => intro i hi; omega
 | succ n ih =>
  intro i hin hil hW
  have hx : l[i]? = some (l[i]'hil) := List.getElem?_eq_getElem _
  generalize l[i]'hil = x at hx
  have N := H.tree.node i x hx
  have hiI : (i : Int) < (l.length : Int) := by omega
  have hk1 := h1 i x hx hW
  have hr := H.ok x (List.mem_of_getElem? hx)
  simp only [Nd.ok, Bool.and_eq_true] at hr
  have hr := hr.1.1
  have sub : ∀ k, k < x.args.length → aV x k < n ∧ aV x k < l.length ∧ W (aV x k) := fun k hk => by
   obtain ⟨m1, m2, m3⟩ := eA N hk
   exact ⟨by omega, by omega, hsub i x hx hW _ m1⟩
  obtain ⟨R0, hR0⟩ : ∃ R, spL l (n + 1) i = R := ⟨_, rfl⟩
  rw [hR0]
  have q1 : (x.k == 1) = false := by simpa using hk1
  refine k90.aG (by simp) rfl rfl ?_
  rcases eqCases x.k 0 with k0 | k0
  ·have e1 : R0 = [(x.lo, x.hi)] := by rw [← hR0]; simp [spL, hx, k0]
   subst e1
   simp -implicitDefEqProofs [-aA, -gval, hil, hiI, aE hx, Nd.row, k0, aC, spans, spr, -List.getElem_map]
  ·have pos : 0 < x.args.length := by
    unfold Nd.right at hr
    simp only [k0, hk1, or_self, if_false] at hr
    split at hr
    ·have := of_decide_eq_true hr; omega
    ·split at hr
     ·have := of_decide_eq_true hr; omega
     ·split at hr
      ·have := of_decide_eq_true hr; omega
      ·cases hr
   have a0 := sC N pos
   obtain ⟨s1, s2, s3⟩ := sub 0 pos
   have c0 := ih (aV x 0) s1 s2 s3
   have l0 : (0 : Int) < (x.args.length : Int) := by omega
   rcases eqCases x.k 2 with k2 | k2
   ·have e1 : R0 = spL l n (aV x 0) := by rw [← hR0]; simp [spL, hx, k2]
    subst e1
    simp -implicitDefEqProofs [-aA, -gval, hil, hiI, aE hx, Nd.row, k2, pos, aE a0, -List.getElem_map]
    refine aD.tree c0 rfl ?_
    simp -implicitDefEqProofs [-aA, -gval, aC]
   ·by_cases one : x.args.length = 1
    ·have e1 : R0 = spL l n (aV x 0) := by rw [← hR0]; simp [spL, hx, k0, hk1, k2, one]
     subst e1
     have l2 : (x.args.length : Int) < 2 := by omega
     have l3 : ¬ (2 : Int) ≤ (x.args.length : Int) := by omega
     simp -implicitDefEqProofs [-aA, -gval, hil, hiI, aE hx, Nd.row, k0, q1, k2, pos, aE a0, -List.getElem_map]
     refine aD.tree c0 rfl ?_
     simp -implicitDefEqProofs [-aA, -gval, l2, l3, aC]
    ·have one' : 1 < x.args.length := by omega
     have a1 := sC N one'
     obtain ⟨t1, t2, t3⟩ := sub 1 one'
     have c1 := ih (aV x 1) t1 t2 t3
     have l2 : ¬ (x.args.length : Int) < 2 := by omega
     have l3 : (2 : Int) ≤ (x.args.length : Int) := by omega
     have l1 : (1 : Int) < (x.args.length : Int) := by omega
     obtain ⟨gA, okA, nA⟩ := H.set n _ s1 s2 s3
     obtain ⟨gB, okB, nB⟩ := H.set n _ t1 t2 t3
     have nAB := H.two n i x hx hin hW (by omega)
     have va := gA.valid
     have vb := gB.valid
     have eR : R0 = if x.k == 5 then cC (cN (spL l n (aV x 0)) (spL l n (aV x 1))) else if x.k == 6 then cC (aZ (spL l n (aV x 0)) (spL l n (aV x 1))) else cC (spL l n (aV x 0) ++ spL l n (aV x 1)) := by
      rw [← hR0]
      have q : ¬ x.args.length < 2 := by omega
      simp [spL, hx, k0, hk1, k2, q]
     clear hR0
     generalize spL l n (aV x 0) = A at *
     generalize spL l n (aV x 1) = B at *
     simp -implicitDefEqProofs [-aA, -gval, hil, hiI, aE hx, Nd.row, k0, q1, k2, pos, aE a0, -List.getElem_map]
     refine aD.tree c0 rfl ?_
     simp -implicitDefEqProofs [-aA, -gval, l2, l3, one', l1, aE a1, -List.getElem_map]
     refine aD.tree c1 rfl ?_
     rcases eqCases x.k 5 with k5 | k5
     ·have : R0 = cC (cN A B) := by rw [eR]; simp [k5]
      subst this
      simp -implicitDefEqProofs [-aA, -gval, k5]
      refine aD.tree (aSA A B (by have := sB A B gA gB; omega) (by omega) (by omega) okA okB) rfl ?_
      simp -implicitDefEqProofs [-aA, -gval, aC]
     ·rcases eqCases x.k 6 with k6 | k6
      ·have : R0 = cC (aZ A B) := by rw [eR]; simp [k6]
       subst this
       simp -implicitDefEqProofs [-aA, -gval, k6]
       refine aD.tree (aKW A B (by have := (hZ (b := B) (a := A) gA.asc vb).2.1; omega) (by omega) (by omega) gA.asc okA okB) rfl ?_
       simp -implicitDefEqProofs [-aA, -gval, aC]
      ·have : R0 = cC (A ++ B) := by rw [eR]; simp [k5, k6]
       subst this
       simp -implicitDefEqProofs [-aA, -gval, k5, k6]
       refine aD.tree (aPB A B (by omega) okA okB) rfl ?_
       simp -implicitDefEqProofs [-aA, -gval, aC]
attribute [local simp] c83b12 c83 in
theorem P83 {l : List Nd} {bg : List Nat} {W : Nat → Prop} (H : aFW l bg W (nuR l)) (h1 : ∀ p x, l[p]? = some x → W p → x.k ≠ 1) (hsub : ∀ p x, l[p]? = some x → W p → ∀ c : Nat, (c : Int) ∈ x.args → W c) : ∀ n i, i < n → i < l.length → W i → PSp Tryz.prog 83 [.one (.t (aK l)), .one (.t (I i))] (.one (.t (spans (nuR l n i)))) := by
 intro n
 induction n with
 | zero => intro i hi; omega
 | succ n ih =>
  intro i hin hil hW
  have hx : l[i]? = some (l[i]'hil) := List.getElem?_eq_getElem _
  generalize l[i]'hil = x at hx
  have N := H.tree.node i x hx
  have hiI : (i : Int) < (l.length : Int) := by omega
  have hk1 := h1 i x hx hW
  have hr := H.ok x (List.mem_of_getElem? hx)
  simp only [Nd.ok, Bool.and_eq_true] at hr
  have hr := hr.1.1
  have sub : ∀ k, k < x.args.length → aV x k < n ∧ aV x k < l.length ∧ W (aV x k) := fun k hk => by
   obtain ⟨m1, m2, m3⟩ := eA N hk
   exact ⟨by omega, by omega, hsub i x hx hW _ m1⟩
  obtain ⟨R0, hR0⟩ : ∃ R, nuR l (n + 1) i = R := ⟨_, rfl⟩
  rw [hR0]
  have q1 : (x.k == 1) = false := by simpa using hk1
  refine k83.aG (by simp) rfl rfl ?_
  rcases eqCases x.k 0 with k0 | k0
  ·have e1 : R0 = [(x.lo, x.hi)] := by rw [← hR0]; simp [nuR, hx, k0]
   subst e1
   simp -implicitDefEqProofs [-aA, -gval, hil, hiI, aE hx, Nd.row, k0, aC, spans, spr, -List.getElem_map]
  ·have pos : 0 < x.args.length := by
    unfold Nd.right at hr
    simp only [k0, hk1, or_self, if_false] at hr
    split at hr
    ·have := of_decide_eq_true hr; omega
    ·split at hr
     ·have := of_decide_eq_true hr; omega
     ·split at hr
      ·have := of_decide_eq_true hr; omega
      ·cases hr
   have a0 := sC N pos
   obtain ⟨s1, s2, s3⟩ := sub 0 pos
   have c0 := ih (aV x 0) s1 s2 s3
   have l0 : (0 : Int) < (x.args.length : Int) := by omega
   by_cases one : x.args.length = 1
   ·have e1 : R0 = nuR l n (aV x 0) := by rw [← hR0]; simp [nuR, hx, k0, hk1, one]
    subst e1
    have l2 : ((x.args.length : Int) == 1) = true := by simp [one]
    simp -implicitDefEqProofs [-aA, -gval, hil, hiI, aE hx, Nd.row, k0, q1, one, aE a0, -List.getElem_map]
    refine aD.tree c0 rfl ?_
    simp -implicitDefEqProofs [-aA, -gval, aC]
   ·have one' : 1 < x.args.length := by omega
    have a1 := sC N one'
    obtain ⟨t1, t2, t3⟩ := sub 1 one'
    have c1 := ih (aV x 1) t1 t2 t3
    have l2 : ((x.args.length : Int) == 1) = false := by simp; omega
    have l1 : (1 : Int) < (x.args.length : Int) := by omega
    obtain ⟨gA, okA, nA⟩ := H.set n _ s1 s2 s3
    obtain ⟨gB, okB, nB⟩ := H.set n _ t1 t2 t3
    have eR : R0 = gJ (opN x.k) (nuR l n (aV x 0)) (nuR l n (aV x 1)) [] (cB (nuR l n (aV x 0) ++ nuR l n (aV x 1))) := by
     rw [← hR0]; simp [nuR, hx, k0, hk1, one]
    clear hR0
    generalize nuR l n (aV x 0) = A at *
    generalize nuR l n (aV x 1) = B at *
    have aPC : ∀ y ∈ A ++ B, bad y = false := fun y hy => by
     rcases List.mem_append.1 hy with q | q
     ·exact okA y q
     ·exact okB y q
    subst eR
    have cc := fun op => aDK op A B (by omega) (by omega) aPC
    rcases eqCases x.k 5 with k5 | k5
    ·have eo : opN x.k = 1 := by simp [opN, k5]
     rw [eo]
     simp -implicitDefEqProofs [-aA, -gval, hil, hiI, aE hx, Nd.row, k5, l2, pos, aE a0, -List.getElem_map]
     refine aD.bO c0 rfl ?_
     simp -implicitDefEqProofs [-aA, -gval, one', l1, aE a1, -List.getElem_map]
     refine aD.bO c1 rfl ?_
     simp -implicitDefEqProofs [-aA, -gval]
     refine aD.bO (cc 1) rfl ?_
     simp -implicitDefEqProofs [-aA, -gval, aC]
    ·rcases eqCases x.k 6 with k6 | k6
     ·have eo : opN x.k = 2 := by simp [opN, k6]
      rw [eo]
      simp -implicitDefEqProofs [-aA, -gval, hil, hiI, aE hx, Nd.row, k6, l2, pos, aE a0, -List.getElem_map]
      refine aD.bO c0 rfl ?_
      simp -implicitDefEqProofs [-aA, -gval, one', l1, aE a1, -List.getElem_map]
      refine aD.bO c1 rfl ?_
      simp -implicitDefEqProofs [-aA, -gval]
      refine aD.bO (cc 2) rfl ?_
      simp -implicitDefEqProofs [-aA, -gval, aC]
     ·have eo : opN x.k = 0 := by simp [opN, k5, k6]
      rw [eo]
      simp -implicitDefEqProofs [-aA, -gval, hil, hiI, aE hx, Nd.row, k0, q1, k5, k6, l2, pos, aE a0, -List.getElem_map]
      refine aD.bO c0 rfl ?_
      simp -implicitDefEqProofs [-aA, -gval, one', l1, aE a1, -List.getElem_map]
      refine aD.bO c1 rfl ?_
      simp -implicitDefEqProofs [-aA, -gval]
      refine aD.bO (cc 0) rfl ?_
      simp -implicitDefEqProofs [-aA, -gval, aC]
attribute [local simp] c84 in
theorem P84 {l : List Nd} {bg : List Nat} {W : Nat → Prop} (H : aFW l bg W (szR l)) {P : Nat → Prop} (c83 : ∀ n i, i < n → i < l.length → P i → PSp Tryz.prog 83 [.one (.t (aK l)), .one (.t (I i))] (.one (.t (spans (nuR l n i))))) (h1 : ∀ p x, l[p]? = some x → W p → x.k ≠ 0 ∧ x.k ≠ 1 ∧ x.k ≠ 3) (hsub : ∀ p x, l[p]? = some x → W p → ∀ c : Nat, (c : Int) ∈ x.args → if x.k = 2 then P c else W c) : ∀ n i, i < n → i < l.length → W i → PSp Tryz.prog 84 [.one (.t (aK l)), .one (.t (I i))] (.one (.t (spans (szR l n i)))) := by
 intro n
 induction n with
 | zero => intro i hi; omega
 | succ n ih =>
  intro i hin hil hW
  have hx : l[i]? = some (l[i]'hil) := List.getElem?_eq_getElem _
  generalize l[i]'hil = x at hx
  have N := H.tree.node i x hx
  have hiI : (i : Int) < (l.length : Int) := by omega
  obtain ⟨k0, k1, k3⟩ := h1 i x hx hW
  have hr := H.ok x (List.mem_of_getElem? hx)
  simp only [Nd.ok, Bool.and_eq_true] at hr
  have hr := hr.1.1
  have pos : 0 < x.args.length := by
   unfold Nd.right at hr
   simp only [k0, k1, or_self, if_false] at hr
   split at hr
   ·have := of_decide_eq_true hr; omega
   ·split at hr
    ·have := of_decide_eq_true hr; omega
    ·split at hr
     ·have := of_decide_eq_true hr; omega
     ·cases hr
  have l0 : (0 : Int) < (x.args.length : Int) := by omega
  have a0 := sC N pos
  obtain ⟨R0, hR0⟩ : ∃ R, szR l (n + 1) i = R := ⟨_, rfl⟩
  rw [hR0]
  refine k84.aG (by simp) rfl rfl ?_
  rcases eqCases x.k 2 with k2 | k2
  ·have e1 : R0 = nuR l n (aV x 0) := by rw [← hR0]; simp [szR, hx, k2]
   subst e1
   obtain ⟨m1, m2, m3⟩ := eA N pos
   have hP := hsub i x hx hW _ m1
   rw [if_pos k2] at hP
   simp -implicitDefEqProofs [-aA, -gval, hil, hiI, aE hx, Nd.row, k2, pos, aE a0, -List.getElem_map]
   refine aD.tree (c83 n _ (by omega) (by omega) hP) rfl ?_
   simp -implicitDefEqProofs [-aA, -gval, aC]
  ·have sub : ∀ k, k < x.args.length → aV x k < n ∧ aV x k < l.length ∧ W (aV x k) := fun k hk => by
    obtain ⟨m1, m2, m3⟩ := eA N hk
    have := hsub i x hx hW _ m1
    rw [if_neg k2.2.1] at this
    exact ⟨by omega, by omega, this⟩
   obtain ⟨s1, s2, s3⟩ := sub 0 pos
   have c0 := ih (aV x 0) s1 s2 s3
   by_cases one : x.args.length = 1
   ·have e1 : R0 = szR l n (aV x 0) := by rw [← hR0]; simp [szR, hx, k2, one]
    subst e1
    have l2 : ((x.args.length : Int) == 1) = true := by simp [one]
    simp -implicitDefEqProofs [-aA, -gval, hil, hiI, aE hx, Nd.row, k2, one, aE a0, -List.getElem_map]
    refine aD.tree c0 rfl ?_
    simp -implicitDefEqProofs [-aA, -gval, aC]
   ·have one' : 1 < x.args.length := by omega
    have a1 := sC N one'
    obtain ⟨t1, t2, t3⟩ := sub 1 one'
    have c1 := ih (aV x 1) t1 t2 t3
    have l2 : ((x.args.length : Int) == 1) = false := by simp; omega
    have l1 : (1 : Int) < (x.args.length : Int) := by omega
    obtain ⟨gA, okA, nA⟩ := H.set n _ s1 s2 s3
    obtain ⟨gB, okB, nB⟩ := H.set n _ t1 t2 t3
    have eR : R0 = gJ (opN x.k) (szR l n (aV x 0)) (szR l n (aV x 1)) [] (cB (szR l n (aV x 0) ++ szR l n (aV x 1))) := by
     rw [← hR0]; simp [szR, hx, k2, one]
    clear hR0
    generalize szR l n (aV x 0) = A at *
    generalize szR l n (aV x 1) = B at *
    have aPC : ∀ y ∈ A ++ B, bad y = false := fun y hy => by
     rcases List.mem_append.1 hy with q | q
     ·exact okA y q
     ·exact okB y q
    subst eR
    have cc := fun op => aDK op A B (by omega) (by omega) aPC
    rcases eqCases x.k 5 with k5 | k5
    ·have eo : opN x.k = 1 := by simp [opN, k5]
     rw [eo]
     simp -implicitDefEqProofs [-aA, -gval, hil, hiI, aE hx, Nd.row, k5, l2, pos, aE a0, -List.getElem_map]
     refine aD.bO c0 rfl ?_
     simp -implicitDefEqProofs [-aA, -gval, one', l1, aE a1, -List.getElem_map]
     refine aD.bO c1 rfl ?_
     simp -implicitDefEqProofs [-aA, -gval]
     refine aD.bO (cc 1) rfl ?_
     simp -implicitDefEqProofs [-aA, -gval, aC]
    ·rcases eqCases x.k 6 with k6 | k6
     ·have eo : opN x.k = 2 := by simp [opN, k6]
      rw [eo]
      simp -implicitDefEqProofs [-aA, -gval, hil, hiI, aE hx, Nd.row, k6, l2, pos, aE a0, -List.getElem_map]
      refine aD.bO c0 rfl ?_
      simp -implicitDefEqProofs [-aA, -gval, one', l1, aE a1, -List.getElem_map]
      refine aD.bO c1 rfl ?_
      simp -implicitDefEqProofs [-aA, -gval]
      refine aD.bO (cc 2) rfl ?_
      simp -implicitDefEqProofs [-aA, -gval, aC]
     ·have eo : opN x.k = 0 := by simp [opN, k5, k6]
      rw [eo]
      simp -implicitDefEqProofs [-aA, -gval, hil, hiI, aE hx, Nd.row, k2, k5, k6, l2, pos, aE a0, -List.getElem_map]
      refine aD.bO c0 rfl ?_
      simp -implicitDefEqProofs [-aA, -gval, one', l1, aE a1, -List.getElem_map]
      refine aD.bO c1 rfl ?_
      simp -implicitDefEqProofs [-aA, -gval]
      refine aD.bO (cc 0) rfl ?_
      simp -implicitDefEqProofs [-aA, -gval, aC]
theorem aDV {l : List Nd} {bg : List Nat} (T : iG l bg) (hl : l.length ≤ 20) (hok : ∀ x ∈ l, x.ok = true) (W : Nat → Prop) (f g : Nat → Nat → List Sp) (hb : ∀ n i, i < n → i < l.length → W i → Both bg i (f n i) (g n i)) (hsub : ∀ p x, l[p]? = some x → W p → 2 ≤ x.args.length → ∀ c : Nat, (c : Int) ∈ x.args → W c) : aFW l bg W f ∧ aFW l bg W g := by
 have key : aFW l bg W f := by
  refine ⟨T, hl, hok, fun n i h1 h2 h3 => ?_, fun n i x hx hi hW h2 => ?_⟩
  ·obtain ⟨_, b2, b3, b4⟩ := hb n i h1 h2 h3
   exact ⟨b2, b3, by omega⟩
  ·have N := T.node i x hx
   have hil := (List.getElem?_eq_some_iff.1 hx).1
   have hr := hok x (List.mem_of_getElem? hx)
   simp only [Nd.ok, Bool.and_eq_true] at hr
   have two : x.args.length = 2 := by
    have hr := hr.1.1
    unfold Nd.right at hr
    split at hr
    ·have := of_decide_eq_true hr; omega
    ·split at hr
     ·have := of_decide_eq_true hr; omega
     ·split at hr
      ·exact of_decide_eq_true hr
      ·split at hr
       ·have := of_decide_eq_true hr; omega
       ·cases hr
   obtain ⟨m1, m2, m3⟩ := eA N (k := 0) (by omega)
   obtain ⟨p1, p2, p3⟩ := eA N (k := 1) (by omega)
   have ap := vW N two
   have le0 := (T.node (aV x 0) _ (List.getElem?_eq_getElem (show aV x 0 < l.length by omega))).le
   have le1 := (T.node (aV x 1) _ (List.getElem?_eq_getElem (show aV x 1 < l.length by omega))).le
   have a := (hb n _ (by omega) (by omega) (hsub i x hx hW h2 _ m1)).few
   have b := (hb n _ (by omega) (by omega) (hsub i x hx hW h2 _ p1)).few
   omega
 refine ⟨key, ⟨T, hl, hok, fun n i h1 h2 h3 => ?_, fun n i x hx hi hW h2 => ?_⟩⟩
 ·have e := (hb n i h1 h2 h3).eq
  rw [← e]; exact key.set n i h1 h2 h3
 ·have N := T.node i x hx
  have hil := (List.getElem?_eq_some_iff.1 hx).1
  obtain ⟨m1, m2, m3⟩ := eA N (k := 0) (by omega)
  obtain ⟨p1, p2, p3⟩ := eA N (k := 1) (by omega)
  have a := (hb n _ (by omega) (by omega) (hsub i x hx hW h2 _ m1)).eq
  have b := (hb n _ (by omega) (by omega) (hsub i x hx hW h2 _ p1)).eq
  rw [← a, ← b]
  exact key.two n i x hx hi hW h2
end Go.Proofs.YtdpbobkcbakpfaaGreatDoor

namespace Go.Proofs.YtdpbobkcbakpfaaGreatDoor
open Go Go.Ab
set_option maxRecDepth 100000
set_option maxHeartbeats 4000000
attribute [local simp] bL aM aS aK aY aO bI tyC fdC vlC ndC aP D.dQ D.pt
attribute [local simp] c80 in
theorem P80 (t : Ty) (hn : t.narrow = true) : PSp Tryz.prog 80 [.agg (tyC t)] (.one (.t (I (kX t).2))) := by
 refine k80.aG (by simp) (by simp [D.closed, A.closed]) rfl ?_
 have p := P14 t hn
 generalize kX t = R at *
 simp -implicitDefEqProofs [-aA, -gval]
 refine aD.tree p rfl ?_
 simp -implicitDefEqProofs [-aA, -gval, aC]
attribute [local simp] c29 in
theorem P29 (t : Ty) (hn : t.narrow = true) : PSp Tryz.prog 29 [.agg (tyC t)] (.one (.t (I (vM t).2))) := by
 refine k29.aG (by simp) (by simp [D.closed, A.closed]) rfl ?_
 have p := P16 t hn
 generalize vM t = R at *
 simp -implicitDefEqProofs [-aA, -gval]
 refine aD.tree p rfl ?_
 simp -implicitDefEqProofs [-aA, -gval, aC]
def mM : List Sp := [(-1152921504606846976, 1152921504606846976)]
def jE (t : Ty) : List Sp := if t.limits.length == 0 then (if t.kind == 2 then mM else [(0, 40)]) else spL t.limits t.limits.length (t.limits.length - 1)
def eD (t : Ty) : List Sp := if t.limits.length == 0 then (if t.kind == 2 then mM else [(0, 40)]) else if t.kind == 2 then nuR t.limits t.limits.length (t.limits.length - 1) else szR t.limits t.limits.length (t.limits.length - 1)
attribute [local simp] c82 in
theorem P82 (t : Ty) (hl : t.limits.length ≤ 40) (h90 : t.limits.length ≠ 0 → PSp Tryz.prog 90 [.one (.t (aK t.limits)), .one (.t (I ((t.limits.length - 1 : Nat) : Int)))] (.one (.t (spans (spL t.limits t.limits.length (t.limits.length - 1)))))) :
  PSp Tryz.prog 82 [.agg (tyC t)] (.one (.t (spans (jE t)))) := by
 refine k82.aG (by simp) (by simp [D.closed, A.closed]) rfl ?_
 by_cases z : t.limits.length = 0
 ·have zI : ¬ 0 < t.limits.length := by omega
  rcases eqCases t.kind 2 with k2 | k2
  ·have e : jE t = mM := by simp [jE, z, k2]
   rw [e]
   simp -implicitDefEqProofs [-aA, -gval, z, k2, aC, spans, spr, mM]
  ·have e : jE t = [(0, 40)] := by simp [jE, z, k2]
   rw [e]
   simp -implicitDefEqProofs [-aA, -gval, z, k2, aC, spans, spr]
 ·have zI : 0 < t.limits.length := by omega
  have hw : IntKind.i64.wrap ((t.limits.length : Int) - 1) = ((t.limits.length - 1 : Nat) : Int) := by rw [wrap_i64 (by omega) (by omega)]; omega
  have e : jE t = spL t.limits t.limits.length (t.limits.length - 1) := by simp [jE, z]
  rw [e]
  have c := h90 z
  generalize spL t.limits t.limits.length (t.limits.length - 1) = R at *
  simp -implicitDefEqProofs [-aA, -gval, zI, hw]
  refine aD.tree c rfl ?_
  simp -implicitDefEqProofs [-aA, -gval, aC]
attribute [local simp] c31 in
theorem P31 (t : Ty) (hl : t.limits.length ≤ 40) (h83 : t.limits.length ≠ 0 → t.kind = 2 → PSp Tryz.prog 83 [.one (.t (aK t.limits)), .one (.t (I ((t.limits.length - 1 : Nat) : Int)))] (.one (.t (spans (nuR t.limits t.limits.length (t.limits.length - 1))))))
  (h84 : t.limits.length ≠ 0 → t.kind ≠ 2 → PSp Tryz.prog 84 [.one (.t (aK t.limits)), .one (.t (I ((t.limits.length - 1 : Nat) : Int)))] (.one (.t (spans (szR t.limits t.limits.length (t.limits.length - 1)))))) :
  PSp Tryz.prog 31 [.agg (tyC t)] (.one (.t (spans (eD t)))) := by
 refine k31.aG (by simp) (by simp [D.closed, A.closed]) rfl ?_
 by_cases z : t.limits.length = 0
 ·have hw : IntKind.i64.wrap ((t.limits.length : Int) - 1) = -1 := by rw [z]; decide
  have hw0 : IntKind.i64.wrap ((0 : Int) - 1) = -1 := by decide
  have hw1 : IntKind.i64.wrap (-1 : Int) = -1 := by decide
  have zl : t.limits = [] := List.length_eq_zero_iff.1 z
  rcases eqCases t.kind 2 with k2 | k2
  ·have e : eD t = mM := by simp [eD, z, k2]
   rw [e]
   simp -implicitDefEqProofs [-aA, -gval, zl, hw1, k2, aC, spans, spr, mM]
  ·have e : eD t = [(0, 40)] := by simp [eD, z, k2]
   rw [e]
   simp -implicitDefEqProofs [-aA, -gval, zl, hw1, k2, aC, spans, spr]
 ·have hw : IntKind.i64.wrap ((t.limits.length : Int) - 1) = ((t.limits.length - 1 : Nat) : Int) := by rw [wrap_i64 (by omega) (by omega)]; omega
  obtain ⟨m, hm⟩ : ∃ m : Nat, t.limits.length - 1 = m := ⟨_, rfl⟩
  have hneg : ¬ ((m : Int) < 0) := by omega
  rw [hm] at hw h83 h84
  rcases eqCases t.kind 2 with k2 | k2
  ·have e : eD t = nuR t.limits t.limits.length m := by simp [eD, z, k2, hm]
   rw [e]
   have c := h83 z k2
   generalize nuR t.limits t.limits.length m = R at *
   simp -implicitDefEqProofs [-aA, -gval, hw, hneg, k2]
   refine aD.tree c rfl ?_
   simp -implicitDefEqProofs [-aA, -gval, aC]
  ·have e : eD t = szR t.limits t.limits.length m := by simp [eD, z, k2, hm]
   rw [e]
   have c := h84 z k2.2.1
   generalize szR t.limits t.limits.length m = R at *
   simp -implicitDefEqProofs [-aA, -gval, hw, hneg, k2]
   refine aD.tree c rfl ?_
   simp -implicitDefEqProofs [-aA, -gval, aC]
theorem perms (t : Ty) (h : (kX t).2 = 0) (hk : t.kind = 2 ∨ t.kind = 11 ∨ t.kind = 12) : jE t = eD t ∧ (eD t).length ≤ 10 ∧ PSp Tryz.prog 82 [.agg (tyC t)] (.one (.t (spans (jE t)))) ∧ PSp Tryz.prog 31 [.agg (tyC t)] (.one (.t (spans (eD t)))) := by
 by_cases z : t.limits.length = 0
 ·have e : jE t = eD t := by simp [jE, eD, z]
  refine ⟨e, ?_, P82 t (by omega) fun q => absurd z q, P31 t (by omega) (fun q => absurd z q) fun q => absurd z q⟩
  simp only [eD, z, beq_self_eq_true, if_true]
  split <;> simp [mM]
 ·obtain ⟨bg, P, Q, T, hl, hok, hn, he, hq, hf, hP, hQ⟩ := aFU h z hk
  have bP := aDR T hok P hn he
  have bQ := aIA T hok P Q hn he hq hf
  have aVS : ∀ (x : Nd), x ∈ t.limits → x.k = 2 → ¬ 2 ≤ x.args.length := fun x hx k2 => by
   have hr := hok x hx
   simp only [Nd.ok, Bool.and_eq_true] at hr
   have hr := hr.1.1
   unfold Nd.right at hr
   simp only [k2] at hr
   have := of_decide_eq_true hr
   omega
  obtain ⟨f1, f2⟩ := aDV T hl hok P (spL t.limits) (nuR t.limits) bP fun p x hx hp _ => he p x hx hp
  obtain ⟨g1, g2⟩ := aDV T hl hok Q (spL t.limits) (szR t.limits) bQ fun p x hx hp h2 c hc => by
   have := hf p x hx hp c hc
   rw [if_neg (fun k2 => aVS x (List.mem_of_getElem? hx) k2 h2)] at this
   exact this
  have c83 := P83 f2 (fun p x hx hp => (hn p x hx hp).1) he
  have c84 := P84 g2 c83 hq hf
  have f9 : aFW t.limits bg (fun p => P p ∨ Q p) (spL t.limits) := by
   refine ⟨T, hl, hok, fun n i h1 h2 h3 => ?_, fun n i x hx hi hW h2 => ?_⟩
   ·rcases h3 with q | q
    ·exact f1.set n i h1 h2 q
    ·exact g1.set n i h1 h2 q
   ·rcases hW with q | q
    ·exact f1.two n i x hx hi q h2
    ·exact g1.two n i x hx hi q h2
  have c90 := P90 f9 (fun p x hx hp => by
   rcases hp with q | q
   ·exact (hn p x hx q).1
   ·exact (hq p x hx q).2.1) fun p x hx hp c hc => by
   rcases hp with q | q
   ·exact .inl (he p x hx q c hc)
   ·have := hf p x hx q c hc
    split at this
    ·exact .inl this
    ·exact .inr this
  have last : t.limits.length - 1 < t.limits.length := by omega
  by_cases k2 : t.kind = 2
  ·have b := bP t.limits.length _ last last (hP k2)
   have e1 : jE t = spL t.limits t.limits.length (t.limits.length - 1) := by simp [jE, z]
   have e2 : eD t = nuR t.limits t.limits.length (t.limits.length - 1) := by simp [eD, z, k2]
   refine ⟨by rw [e1, e2]; exact b.eq, by rw [e2, ← b.eq]; have := b.few; omega, P82 t (by omega) fun _ => c90 _ _ last last (.inl (hP k2)), P31 t (by omega) (fun _ _ => c83 _ _ last last (hP k2)) fun _ q => absurd k2 q⟩
  ·have b := bQ t.limits.length _ last last (hQ k2)
   have e1 : jE t = spL t.limits t.limits.length (t.limits.length - 1) := by simp [jE, z]
   have e2 : eD t = szR t.limits t.limits.length (t.limits.length - 1) := by simp [eD, z, k2]
   refine ⟨by rw [e1, e2]; exact b.eq, by rw [e2, ← b.eq]; have := b.few; omega, P82 t (by omega) fun _ => c90 _ _ last last (.inr (hQ k2)), P31 t (by omega) (fun _ q => absurd q k2) fun _ _ => c84 _ _ last last (hQ k2)⟩
def gR (k : Int) : Bool := k == 2 || (k == 11 || k == 12)
def kZ (t : Ty) : Int := bW [(kX t).2, if gR t.kind then 0 else 4]
attribute [local simp] c28 in
theorem P28 (t : Ty) (hn : t.narrow = true) (R : List Sp) (hR : (kX t).2 = 0 → gR t.kind = true → PSp Tryz.prog 82 [.agg (tyC t)] (.one (.t (spans R)))) :
  PSp Tryz.prog 28 [.agg (tyC t)] (.tup [.one (.t (spans (if kZ t != 0 then [] else R))), .one (.t (I (kZ t)))]) := by
 have p80 := P80 t hn
 have p61 := P61 t.kind
 have eS : kZ t = bW [(kX t).2, if gR t.kind then 0 else 4] := rfl
 generalize (kX t).2 = e0 at *
 obtain ⟨hs, ehs⟩ : ∃ b, gR t.kind = b := ⟨_, rfl⟩
 rw [ehs] at eS hR
 have p79 := P79 [e0, if hs then 0 else 4] (by simp [short])
 rw [← eS] at p79
 have hz : kZ t = 0 → e0 = 0 ∧ hs = true := fun h => by
  rw [eS] at h
  simp only [bV, eQ] at h
  by_cases q : e0 = 0
  ·refine ⟨q, ?_⟩
   cases hs
   ·simp [q] at h
   ·rfl
  ·simp [q] at h
 generalize kZ t = E at *
 refine k28.aG (by simp) (by simp [D.closed, A.closed]) rfl ?_
 have fin : ∀ st : St, st.tmps 4 = .one (.t (I E)) → st.tmps 1 = .one (.ptr ⟨0, 0, 8, 0, 0⟩) → st.heap 0 = some (.arr 0 false 8 [tyC t]) → True := fun _ _ _ _ => trivial
 simp -implicitDefEqProofs [-aA, -gval]
 refine aD.bO p80 rfl ?_
 rcases eqCases t.kind 2 with k2 | k2
 ·have eh : hs = true := by rw [← ehs]; simp [gR, k2]
  subst eh
  simp -implicitDefEqProofs [-aA, -gval, k2]
  refine aD.bO (P81 true 4) rfl ?_
  simp -implicitDefEqProofs [-aA, -gval]
  refine aD.draw p79 (by simp) (by simp) (.inl rfl) ?_
  rcases eqCases E 0 with z | z
  ·obtain ⟨z1, _⟩ := hz z
   have c := hR z1 rfl
   simp only [tyC, bL, aM, aS, aK, k2] at c
   simp -implicitDefEqProofs [-aA, -gval, z]
   refine aD.tree c rfl ?_
   simp -implicitDefEqProofs [-aA, -gval, aC]
  ·simp -implicitDefEqProofs [-aA, -gval, z, aC, spans]
 ·have eh : hs = (t.kind == 11 || t.kind == 12) := by rw [← ehs]; simp [gR, k2]
  rw [← eh] at p61
  simp -implicitDefEqProofs [-aA, -gval, k2]
  refine aD.bO p61 rfl ?_
  simp -implicitDefEqProofs [-aA, -gval]
  refine aD.bO (P81 hs 4) rfl ?_
  simp -implicitDefEqProofs [-aA, -gval]
  refine aD.draw p79 (by simp) (by simp) (.inl rfl) ?_
  rcases eqCases E 0 with z | z
  ·obtain ⟨z1, z2⟩ := hz z
   simp -implicitDefEqProofs [-aA, -gval, z]
   refine aD.tree (hR z1 z2) rfl ?_
   simp -implicitDefEqProofs [-aA, -gval, aC]
  ·simp -implicitDefEqProofs [-aA, -gval, z, aC, spans]
end Go.Proofs.YtdpbobkcbakpfaaGreatDoor

namespace Go.Proofs.YtdpbobkcbakpfaaGreatDoor
open Go Go.Ab
set_option maxRecDepth 100000
set_option maxHeartbeats 4000000
attribute [local simp] bL aM aS aK aY aO bI tyC fdC vlC ndC aP D.dQ D.pt
attribute [local simp] c5t3 c5t6 c5t11 c5t14 c5t16 c5t17 c5t18 c5t19 c5t20 c5t21 c5 in
theorem P5 (hA : PSp Tryz.prog 12 [] (.one (.t (.bool true)))) (t : Ty) (ht : t.fine) : PSp Tryz.prog 5 [.agg (tyC t)] (.one (.t (.bool true))) := by
 refine k5.aG (by simp) (by simp [D.closed, A.closed]) rfl ?_
 simp -implicitDefEqProofs [-aA, -gval]
 refine aD.tree hA rfl ?_
 simp -implicitDefEqProofs [-aA, -gval]
 refine aD.tree (P13 t ht) rfl ?_
 obtain ⟨b, eb⟩ : ∃ b, t.tiny = b := ⟨_, rfl⟩
 rw [eb]
 cases b
 ·simp -implicitDefEqProofs [-aA, -gval, aC]
 ·have hn : t.narrow = true := by
   rw [Ty.tiny, Bool.and_eq_true] at eb
   exact eb.2
  have hkk : gR t.kind = true → t.kind = 2 ∨ t.kind = 11 ∨ t.kind = 12 := fun h => by
   simpa [gR] using h
  have p28 := P28 t hn (jE t) fun h hk => (perms t h (hkk hk)).2.2.1
  have p29 := P29 t hn
  rw [← aDC] at p29
  have p30 := P30 t.kind
  have eS : kZ t = bW [(kX t).2, if gR t.kind then 0 else 4] := rfl
  have good : (kX t).2 = 0 → gR t.kind = true → jE t = eD t ∧ (eD t).length ≤ 10 ∧ PSp Tryz.prog 31 [.agg (tyC t)] (.one (.t (spans (eD t)))) := fun h hk => by
   obtain ⟨q1, q2, _, q4⟩ := perms t h (hkk hk)
   exact ⟨q1, q2, q4⟩
  generalize (kX t).2 = e0 at *
  simp -implicitDefEqProofs [-aA, -gval]
  refine aD.tree (P15 t hn) rfl ?_
  simp -implicitDefEqProofs [-aA, -gval]
  refine aD.tree p28 rfl ?_
  simp -implicitDefEqProofs [-aA, -gval]
  refine aD.tree p29 rfl ?_
  rcases eqCases e0 0 with z | z
  ·rcases eqCases t.kind 2 with k2 | k2
   ·have eh : gR t.kind = true := by simp [gR, k2]
    have eE : kZ t = 0 := by rw [eS, eh, z]; rfl
    obtain ⟨g1, g2, g3⟩ := good z eh
    rw [eE, g1]
    have p20 := P20 (eD t) (eD t) (by omega)
    simp only [decide_true] at p20
    generalize eD t = R at *
    simp only [tyC, bL, aM, aS, aK, k2] at g3
    simp -implicitDefEqProofs [-aA, -gval, z, k2]
    refine aD.tree g3 rfl ?_
    simp -implicitDefEqProofs [-aA, -gval]
    refine aD.tree p20 rfl ?_
    simp -implicitDefEqProofs [-aA, -gval, aC]
   ·have eh : gR t.kind = (t.kind == 11 || t.kind == 12) := by simp [gR, k2]
    rw [← eh] at p30
    cases hh : gR t.kind
    ·have eE : kZ t = 4 := by rw [eS, hh, z]; rfl
     rw [hh] at p30
     rw [eE]
     simp -implicitDefEqProofs [-aA, -gval, z, k2]
     refine aD.tree p30 rfl ?_
     simp -implicitDefEqProofs [-aA, -gval, spans, aC]
    ·have eE : kZ t = 0 := by rw [eS, hh, z]; rfl
     obtain ⟨g1, g2, g3⟩ := good z hh
     rw [hh] at p30
     rw [eE, g1]
     have p20 := P20 (eD t) (eD t) (by omega)
     simp only [decide_true] at p20
     generalize eD t = R at *
     simp -implicitDefEqProofs [-aA, -gval, z, k2]
     refine aD.tree p30 rfl ?_
     simp -implicitDefEqProofs [-aA, -gval]
     refine aD.tree g3 rfl ?_
     simp -implicitDefEqProofs [-aA, -gval]
     refine aD.tree p20 rfl ?_
     simp -implicitDefEqProofs [-aA, -gval, aC]
  ·have eE : kZ t = e0 := by rw [eS, bV]; simp [z]
   have eb : (e0 != 0) = true := by simpa using z.2.1
   rw [eE]
   simp -implicitDefEqProofs [-aA, -gval, z, spans, aC]
end Go.Proofs.YtdpbobkcbakpfaaGreatDoor
