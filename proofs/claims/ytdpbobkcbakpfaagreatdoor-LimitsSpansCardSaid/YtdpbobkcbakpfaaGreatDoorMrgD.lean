/- Texts of this proof, laid one behind the other (Srt0, Srt1, Srt2, Srt3, Srt4, Srt5, Srt6, Srt7, Srt8, Srt9, Srt10, CU, Srt11, Srt12, Srt13, Srt14, Srt15, Srt16, Srt17, Srt18, Srt19, Srt20, Srt21, Srt22, Ab186, Ab187, Sp1, Sp2, Sp3, Sp4, Sp5, Sp6, Pl1). -/
import Derived.Sort.AssemblyPlain
import Derived.Test.YtdpbobkcbakpfaaGreatDoorProg
import Derived.Sort.LotD5
import Derived.Test.YtdpbobkcbakpfaaGreatDoorMrgC
namespace Go.Ab
open Go
/-- Objects below a number, that name objects below it alone. -/
structure HeapOk (h : Hp) (n : Nat) : Prop where
  above : ∀ id, n ≤ id → h id = none
  below : ∀ id o, h id = some o → o.below n = true

theorem impEnd_same {rs : List RV} {h' : Hp} {n0 : Nat} {e : Exit} {st : St} (he : e = .normal ∨ e = .ret) (hr : rs = []) (hh : st.heap = h') (ho : HeapOk h' n0) : impEnd rs (.tup []) h' n0 e st := by
  subst hr
  refine ⟨he, ⟨by simp, by simp⟩, by simp [resD, D.frzOk], by simp [resD, D.frz], by simp [resD, D.ids], fun id _ => by rw [hh], ho.above, ho.below⟩

theorem Compiled.ispK {P : Program} {f : FuncId} {n : Nat} {rs : List RV} {ac : ACode} (hc : Compiled P f n rs ac) {xs : List D} {r : D} {h h' : Hp} {n0 : Nat} (hn : xs.length ≤ n) (hW : awpK P n (impEnd rs r h' n0) ac [] ⟨initTm xs, h, n0⟩) : ISp P f h n0 xs r h' :=
  hc.isp hn (W.of_awp _ _ _ hW)

/-- A call of a function that writes objects. -/
theorem callK.imp {P : Program} {f : FuncId} {xs : List D} {h h' : Hp} {new : Nat} {K : D → Hp → Prop} {r : D} (hs : ISp P f h new xs r h') (hK : K r h') : callK P false f xs h new K := ⟨r, h', .inr hs, hK⟩
end Go.Ab
namespace Go.Proofs.YtdpbobkcbakpfaaGreatDoor
open Go Go.Ab
set_option maxRecDepth 100000

def cell (x : Sp) : List A := [.t (I x.1), .t (I x.2)]
def ltS (x y : Sp) : Bool := decide (x.1 < y.1)
def small (x : Sp) : Prop := -2305843009213693952 ≤ x.1 ∧ x.1 ≤ 2305843009213693952

theorem cmpP (x y : Sp) (hx : small x) (hy : small y) : PSp Tryz.prog 161 [.agg (cell x), .agg (cell y)] (.one (.t (I (x.1 - y.1)))) := by
  refine k161.pureK (by simp) rfl rfl ?_
  have hw : IntKind.i64.wrap (x.1 - y.1) = x.1 - y.1 := wrap_i64 (by have := hx.1; have := hy.2; omega) (by have := hx.2; have := hy.1; omega)
  simp [c161, c161r0, c161r1, cell, pureEnd, hw]

/-- The object that is sorted. -/
structure Data (h : Hp) (id ver : Nat) (d : Array Sp) : Prop where
  alive : alive h id ver
  rows : h.rows id = d.toList.map cell
  sz : h.sz id = 2
  open_ : h.shut id = false

def putD' (h : Hp) (id ver : Nat) (d : Array Sp) : Hp := h.set id (.arr ver false 2 (d.toList.map cell))

theorem data_put {h : Hp} {id ver : Nat} {d : Array Sp} : Data (putD' h id ver d) id ver d := ⟨by simp [putD'], by simp [putD'], by simp [putD'], by simp [putD']⟩

theorem put_put {h : Hp} {id ver : Nat} {d e : Array Sp} : putD' (putD' h id ver d) id ver e = putD' h id ver e := funext fun j => by
  simp only [putD', Hp.set]; split <;> rfl

theorem HeapOk.put {h : Hp} {n id ver : Nat} {d : Array Sp} (ho : HeapOk h n) (hid : id < n) : HeapOk (putD' h id ver d) n := by
  refine ⟨fun j hj => ?_, fun j o hj => ?_⟩
  · simp only [putD', Hp.set]; rw [if_neg (by omega)]; exact ho.above j hj
  · simp only [putD', Hp.set] at hj
    split at hj
    · simp only [Option.some.injEq] at hj; subst hj
      simp [O.below, cell, A.below]
    · exact ho.below j o hj
end Go.Proofs.YtdpbobkcbakpfaaGreatDoor

namespace Go.Proofs.YtdpbobkcbakpfaaGreatDoor
open Go Go.Ab
set_option maxRecDepth 100000

theorem Data.self {h : Hp} {id ver : Nat} {d : Array Sp} (hd : Data h id ver d) : putD' h id ver d = h := funext fun j => by
  simp only [putD', Hp.set]
  split
  · rename_i e; subst e
    have h1 := hd.alive; have h2 := hd.rows; have h3 := hd.sz; have h4 := hd.open_
    unfold Ab.alive at h1; unfold Hp.rows at h2; unfold Hp.sz at h3; unfold Hp.shut at h4
    cases hh : h j with
    | none => rw [hh] at h1; exact h1.elim
    | some o => cases o with
      | arr v s sz rs => rw [hh] at h1 h2 h3 h4; simp only at h1 h2 h3 h4; subst h1; subst h2; subst h3; subst h4; rfl
  · rfl

theorem callable161 : callable Tryz.prog 161 = true := by kernel_rfl

theorem cellAt {h : Hp} {id ver : Nat} {d : Array Sp} {j : Nat} (hd : Data h id ver d) (hj : j < d.size) : (h.rows id)[j]? = some (cell d[j]!) := by
  rw [hd.rows]; simp [hj]

theorem take_cell (x : Sp) : List.take 2 (cell x) = cell x := rfl
theorem cell_len (x : Sp) : (cell x).length = 2 := rfl

theorem insInnerWalk {n : Nat} {A : Exit → St → Prop} {ks : List KF} (h : Hp) (id ver a i : Nat) (tight : Bool) (d0 : Array Sp) (hi : i < d0.size) (hsz : d0.size ≤ 100000) (hsm : ∀ x ∈ d0, small x)
    (st : St) (hh : st.heap = putD' h id ver d0) (h0 : st.tmps 0 = .one (.ref id ver 0 d0.size 2 tight)) (h1 : st.tmps 1 = .one (.t (I a))) (h3 : st.tmps 3 = .one (.fn 161 [])) (h9 : st.tmps 9 = .one (.t (I i)))
    (K : ∀ st' : St, st'.heap = putD' h id ver (Sort.insInner ltS a i d0) → st'.tmps 0 = st.tmps 0 → st'.tmps 1 = st.tmps 1 → st'.tmps 2 = st.tmps 2 → st'.tmps 3 = st.tmps 3 → st'.tmps 8 = st.tmps 8 → retK Tryz.prog n A ks .normal st') :
    W Tryz.prog n (.loop c244b6) (kont Tryz.prog n A (.blk 2 :: ks)) st := by
  refine W.loopK (fun k st1 => ∃ (j : Nat) (d : Array Sp), k = j ∧ j ≤ i ∧ d.size = d0.size ∧ (∀ x ∈ d, small x) ∧ st1.heap = putD' h id ver d ∧ Sort.insInner ltS a j d = Sort.insInner ltS a i d0 ∧ st1.tmps 9 = .one (.t (I j)) ∧ st1.tmps 0 = st.tmps 0 ∧ st1.tmps 1 = st.tmps 1 ∧ st1.tmps 2 = st.tmps 2 ∧ st1.tmps 3 = st.tmps 3 ∧ st1.tmps 8 = st.tmps 8) i ⟨i, d0, rfl, Nat.le_refl _, rfl, hsm, hh, rfl, h9, rfl, rfl, rfl, rfl, rfl⟩ ?_
  rintro k st1 ⟨j, d, hk, hj, hd, hsm', hh1, hins, e9, e0, e1, e2, e3, e8⟩
  have hdat : Data st1.heap id ver d := by rw [hh1]; exact data_put
  rcases Nat.lt_or_ge a j with haj | haj
  · have hj1 : j < d.size := by omega
    have hj2 : j - 1 < d.size := by omega
    have c1 : (st1.heap.rows id)[j]? = some (cell d[j]) := by rw [cellAt hdat hj1, getElem!_pos d j hj1]
    have c2 : (st1.heap.rows id)[j - 1]? = some (cell d[j - 1]) := by rw [cellAt hdat hj2, getElem!_pos d (j - 1) hj2]
    have hw : IntKind.i64.wrap ((j : Int) - 1) = ((j - 1 : Nat) : Int) := by rw [wrap_i64 (by omega) (by omega)]; omega
    have g1 : ∀ hh, (st1.heap.rows id)[j]'hh = cell d[j] := fun hh => by rw [List.getElem?_eq_getElem hh] at c1; simpa using c1
    have s1 : small d[j] := hsm' _ (Array.getElem_mem _)
    have s2 : small d[j - 1] := hsm' _ (Array.getElem_mem _)
    have hln : (st1.heap.rows id).length = d.size := by rw [hdat.rows]; simp
    have hstep : Sort.insInner ltS a j d = if ltS d[j] d[j - 1] then Sort.insInner ltS a (j - 1) ((d.setIfInBounds j d[j - 1]).setIfInBounds (j - 1) d[j]) else d := by
      rw [← getElem!_pos d j hj1, ← getElem!_pos d (j - 1) hj2]
      obtain ⟨m, rfl⟩ : ∃ m, j = m + 1 := ⟨j - 1, by omega⟩
      rw [Sort.insInner]
      have : m + 1 > a := haj
      simp [this, Sort.swp]
    simp [c244b6, c244r4, e9, e0, e1, e3, h0, h1, h3, haj, hdat.alive, hdat.sz, hln, hw, hj1, g1, c2, take_cell]
    refine ⟨by omega, by omega, by omega, 161, [], ⟨rfl, rfl⟩, callable161, ?_⟩
    refine callK.draw (cmpP d[j] d[j - 1] s1 s2) (by simp [cell]) (by simp [cell]) (by simp) ?_
    by_cases hlt : ltS d[j] d[j - 1] = true
    · have hlt' : d[j].1 - d[j - 1].1 < 0 := by simp [ltS] at hlt; omega
      simp [hlt']
      have hst := data_put (h := h) (id := id) (ver := ver) (d := d)
      simp [c244r6, c244r5, e9, e0, e1, e2, e3, h0, h1, h3, hdat.alive, hdat.sz, hdat.open_, hln, hw, hj1, g1, c2, take_cell, cell_len]
      have good : ∀ y : Sp, ∀ x ∈ cell y, (match x with | Ab.A.undef => false | x => true) = true := fun y x hx => by simp [cell] at hx; rcases hx with rfl | rfl <;> rfl
      refine ⟨by omega, hj2, by omega, good _, by omega, ⟨hj2, good _⟩, j - 1, by omega, by omega, (d.setIfInBounds j d[j - 1]).setIfInBounds (j - 1) d[j], by simp [hd], fun x y hxy => ?_, ?_, by rw [← hins, hstep, if_pos hlt], rfl, e8⟩
      · rcases Array.mem_or_eq_of_mem_setIfInBounds hxy with h1 | h1
        · rcases Array.mem_or_eq_of_mem_setIfInBounds h1 with h2 | h2
          · exact hsm' _ h2
          · rw [h2]; exact s2
        · rw [h1]; exact s1
      · have hne : ¬ j = j - 1 := by omega
        have e1' : (((st1.heap.rows id).set j (cell d[j - 1] ++ List.drop 2 (cell d[j]))).set (j - 1) (cell d[j] ++ List.drop 2 (((st1.heap.rows id).set j (cell d[j - 1] ++ List.drop 2 (cell d[j])))[j - 1]?.getD []))) = ((d.setIfInBounds j d[j - 1]).setIfInBounds (j - 1) d[j]).toList.map cell := by
          rw [List.getElem?_set_ne hne, c2, hdat.rows]
          simp [List.map_set, show ∀ x, List.drop 2 (cell x) = [] from fun _ => rfl]
        rw [e1', hh1]
        funext q
        simp only [putD', Hp.set]
        split <;> rfl
    · have hlt' : ¬ d[j].1 - d[j - 1].1 < 0 := by simp [ltS] at hlt; omega
      simp [hlt']
      exact K _ (by simp [hh1, ← hins, hstep, hlt]) (by simp [e0]) (by simp [e1]) (by simp [e2]) (by simp [e3]) (by simp [e8])
  · have hja : ¬ (a : Int) < j := by omega
    have hend : Sort.insInner ltS a j d = d := by
      cases j with
      | zero => rfl
      | succ j => rw [Sort.insInner]; simp; omega
    simp [c244b6, c244r4, e9, e0, e1, e3, h0, h1, h3, hja]
    exact K _ (by simp [hh1, ← hins, hend]) (by simp [e0]) (by simp [e1]) (by simp [e2]) (by simp [e3]) (by simp [e8])
end Go.Proofs.YtdpbobkcbakpfaaGreatDoor

namespace Go.Proofs.YtdpbobkcbakpfaaGreatDoor
open Go Go.Ab
set_option maxRecDepth 100000

theorem insInner_keep (a : Nat) : ∀ (j : Nat) (d : Array Sp), (∀ x ∈ d, small x) → j < d.size → (Sort.insInner ltS a j d).size = d.size ∧ ∀ x ∈ Sort.insInner ltS a j d, small x
  | 0, d, h, _ => ⟨rfl, h⟩
  | j + 1, d, h, hj => by
    rw [Sort.insInner]
    split
    · have hs : (Sort.swp d (j + 1) j).size = d.size := by simp [Sort.swp]
      have hm : ∀ x ∈ Sort.swp d (j + 1) j, small x := by
        intro x hx
        have m1 : d[j]! ∈ d := by rw [getElem!_pos d j (by omega)]; exact Array.getElem_mem _
        have m2 : d[j + 1]! ∈ d := by rw [getElem!_pos d (j + 1) hj]; exact Array.getElem_mem _
        rcases Array.mem_or_eq_of_mem_setIfInBounds hx with h1 | h1
        · rcases Array.mem_or_eq_of_mem_setIfInBounds h1 with h2 | h2
          · exact h _ h2
          · rw [h2]; exact h _ m1
        · rw [h1]; exact h _ m2
      obtain ⟨q1, q2⟩ := insInner_keep a j (Sort.swp d (j + 1) j) hm (by rw [hs]; omega)
      exact ⟨by rw [q1, hs], q2⟩
    · exact ⟨rfl, h⟩

theorem insertionP (h : Hp) (n0 id ver a b : Nat) (tight : Bool) (d : Array Sp) (hd : Data h id ver d) (ho : HeapOk h n0) (hid : id < n0) (hb : b ≤ d.size) (hsz : d.size ≤ 100000) (ha : a ≤ 100000) (hsm : ∀ x ∈ d, small x) :
    ISp Tryz.prog 244 h n0 [.one (.ref id ver 0 d.size 2 tight), .one (.t (I a)), .one (.t (I b)), .one (.fn 161 [])] (.tup []) (putD' h id ver (Sort.insertionSort ltS d a b)) := by
  refine k244.ispK (by simp) ?_
  have hw : IntKind.i64.wrap ((a : Int) + 1) = ((a + 1 : Nat) : Int) := by rw [wrap_i64 (by omega) (by omega)]; omega
  simp [c244, c244r0, hw]
  refine W.loopK (fun k st => ∃ (i : Nat) (e : Array Sp), k = b - i ∧ e.size = d.size ∧ (∀ x ∈ e, small x) ∧ st.heap = putD' h id ver e ∧ Sort.insOuter ltS a b i e = Sort.insertionSort ltS d a b ∧ i ≤ 100001 ∧
    st.tmps 0 = .one (.ref id ver 0 d.size 2 tight) ∧ st.tmps 1 = .one (.t (I a)) ∧ st.tmps 2 = .one (.t (I b)) ∧ st.tmps 3 = .one (.fn 161 []) ∧ st.tmps 8 = .one (.t (I i))) (b - (a + 1)) ⟨a + 1, d, rfl, rfl, hsm, hd.self.symm, rfl, by omega, by simp, by simp, by simp, by simp, by simp⟩ ?_
  rintro k st ⟨i, e, hk, he, hse, hh, hout, hi, h0, h1, h2, h3, h8⟩
  rcases Nat.lt_or_ge i b with hlt | hge
  · have hstep : Sort.insOuter ltS a b i e = Sort.insOuter ltS a b (i + 1) (Sort.insInner ltS a i e) := by rw [Sort.insOuter, if_pos hlt]
    obtain ⟨q1, q2⟩ := insInner_keep a i e hse (by omega)
    have hw2 : IntKind.i64.wrap ((i : Int) + 1) = ((i + 1 : Nat) : Int) := by rw [wrap_i64 (by omega) (by omega)]; omega
    simp [c244b8, c244r1, c244r3, h2, h8, hlt]
    refine insInnerWalk h id ver a i tight e (by omega) (by omega) hse _ hh (by simp [h0, he]) (by simp [h1]) (by simp [h3]) (by simp) fun st' r1 r2 r3 r4 r5 r6 => ?_
    simp [h0, h1, h2, h3, h8] at r2 r3 r4 r5 r6
    simp [c244r2, r1, r2, r3, r4, r5, r6, hw2]
    exact ⟨b - (i + 1), by omega, i + 1, rfl, Sort.insInner ltS a i e, by omega, by intro x y hxy; exact q2 _ hxy, rfl, by rw [← hout, hstep], by omega, rfl⟩
  · have hge' : ¬ i < b := by omega
    have hend : Sort.insOuter ltS a b i e = e := by rw [Sort.insOuter, if_neg hge']
    simp [c244b8, c244r1, h2, h8, hge']
    exact impEnd_same (.inl rfl) rfl (by rw [hh, ← hout, hend]) (HeapOk.put ho hid)
end Go.Proofs.YtdpbobkcbakpfaaGreatDoor

namespace Go.Proofs.YtdpbobkcbakpfaaGreatDoor
open Go Go.Ab
set_option maxRecDepth 100000

/-- A variable of the call's own that holds a number. -/
structure Box (h : Hp) (id ver : Nat) (s : Int) : Prop where
  alive : alive h id ver
  rows : h.rows id = [[.t (I s)]]
  sz : h.sz id = 1
  open_ : h.shut id = false

def putB (h : Hp) (id ver : Nat) (s : Int) : Hp := h.set id (.arr ver false 1 [[.t (I s)]])

theorem HeapOk.putB {h : Hp} {n id ver : Nat} {s : Int} (ho : HeapOk h n) (hid : id < n) : HeapOk (putB h id ver s) n := by
  refine ⟨fun j hj => ?_, fun j o hj => ?_⟩
  · simp only [YtdpbobkcbakpfaaGreatDoor.putB, Hp.set]; rw [if_neg (by omega)]; exact ho.above j hj
  · simp only [YtdpbobkcbakpfaaGreatDoor.putB, Hp.set] at hj
    split at hj
    · simp only [Option.some.injEq] at hj; subst hj
      simp [O.below, A.below]
    · exact ho.below j o hj

theorem order2P (h : Hp) (n0 id ver sw vs a b s : Nat) (tight : Bool) (d : Array Sp) (hd : Data h id ver d) (hb : Box h sw vs s) (ho : HeapOk h n0) (hsw : sw < n0) (ha' : a < d.size) (hb' : b < d.size) (hs : s ≤ 100) (hsm : ∀ x ∈ d, small x) :
    ISp Tryz.prog 291 h n0 [.one (.ref id ver 0 d.size 2 tight), .one (.t (I a)), .one (.t (I b)), .one (.ptr ⟨sw, vs, 1, 0, 0⟩), .one (.fn 161 [])]
      (.tup [.one (.t (I (Sort.order2 ltS d a b s).1)), .one (.t (I (Sort.order2 ltS d a b s).2.1))]) (if ltS d[b] d[a] then putB h sw vs ((s : Int) + 1) else h) := by
  refine k291.ispK (by simp) ?_
  have c1 : (h.rows id)[a]? = some (cell d[a]) := by rw [cellAt hd ha', getElem!_pos d a ha']
  have c2 : (h.rows id)[b]? = some (cell d[b]) := by rw [cellAt hd hb', getElem!_pos d b hb']
  have g1 : ∀ hh, (h.rows id)[a]'hh = cell d[a] := fun hh => by rw [List.getElem?_eq_getElem hh] at c1; simpa using c1
  have g2 : ∀ hh, (h.rows id)[b]'hh = cell d[b] := fun hh => by rw [List.getElem?_eq_getElem hh] at c2; simpa using c2
  have hln : (h.rows id).length = d.size := by rw [hd.rows]; simp
  have hw : IntKind.i64.wrap ((s : Int) + 1) = (s : Int) + 1 := wrap_i64 (by omega) (by omega)
  have s1 : small d[a] := hsm _ (Array.getElem_mem _)
  have s2 : small d[b] := hsm _ (Array.getElem_mem _)
  have ho2 : Sort.order2 ltS d a b s = if ltS d[b] d[a] then (b, a, s + 1) else (a, b, s) := by
    rw [Sort.order2, getElem!_pos d a ha', getElem!_pos d b hb']
  simp [c291, c291r0, c291r1, hd.alive, hd.sz, hln, g1, g2, ha', hb', take_cell]
  refine ⟨161, [], ⟨rfl, rfl⟩, callable161, ?_⟩
  refine callK.draw (cmpP d[b] d[a] s2 s1) (by simp [cell]) (by simp [cell]) (by simp) ?_
  by_cases hlt : ltS d[b] d[a] = true
  · have hlt' : d[b].1 - d[a].1 < 0 := by simp [ltS] at hlt; omega
    simp [hlt', c291r2, c291r3, hb.alive, hb.rows, hb.sz, hb.open_, hw, ho2, hlt]
    refine ⟨.inr rfl, ⟨by simp, by simp⟩, by simp, by simp, by simp, fun j hj => by simp [putB], (HeapOk.putB ho hsw).above, (HeapOk.putB ho hsw).below⟩
  · have hlt' : ¬ d[b].1 - d[a].1 < 0 := by simp [ltS] at hlt; omega
    simp [hlt', c291r4, ho2, hlt]
    exact ⟨.inr rfl, ⟨by simp, by simp⟩, by simp, by simp, by simp, fun j hj => rfl, ho.above, ho.below⟩
end Go.Proofs.YtdpbobkcbakpfaaGreatDoor

namespace Go.Proofs.YtdpbobkcbakpfaaGreatDoor
open Go Go.Ab
set_option maxRecDepth 100000

theorem box_put {h : Hp} {id ver : Nat} {s : Int} : Box (putB h id ver s) id ver s := ⟨by simp [putB], by simp [putB], by simp [putB], by simp [putB]⟩
theorem putB_putB {h : Hp} {id ver : Nat} {s t : Int} : putB (putB h id ver s) id ver t = putB h id ver t := funext fun j => by
  simp only [putB, Hp.set]; split <;> rfl
theorem Data.putB {h : Hp} {id ver sw vs : Nat} {d : Array Sp} {s : Int} (hd : Data h id ver d) (hne : id ≠ sw) : Data (putB h sw vs s) id ver d :=
  ⟨by simp [YtdpbobkcbakpfaaGreatDoor.putB, hne, hd.alive], by simp [YtdpbobkcbakpfaaGreatDoor.putB, hne, hd.rows], by simp [YtdpbobkcbakpfaaGreatDoor.putB, hne, hd.sz], by simp [YtdpbobkcbakpfaaGreatDoor.putB, hne, hd.open_]⟩

theorem order2_lt {d : Array Sp} {a b s : Nat} : (Sort.order2 ltS d a b s).1 = a ∧ (Sort.order2 ltS d a b s).2.1 = b ∨ (Sort.order2 ltS d a b s).1 = b ∧ (Sort.order2 ltS d a b s).2.1 = a := by
  rw [Sort.order2]; split <;> simp
theorem order2_s {d : Array Sp} {a b s : Nat} : (Sort.order2 ltS d a b s).2.2 ≤ s + 1 := by
  rw [Sort.order2]; split <;> simp

theorem order2Q (h : Hp) (n0 id ver sw vs a b s : Nat) (tight : Bool) (d : Array Sp) (hd : Data h id ver d) (hne : id ≠ sw) (ho : HeapOk h n0) (hsw : sw < n0) (ha' : a < d.size) (hb' : b < d.size) (hs : s ≤ 100) (hsm : ∀ x ∈ d, small x) :
    ISp Tryz.prog 291 (putB h sw vs s) n0 [.one (.ref id ver 0 d.size 2 tight), .one (.t (I a)), .one (.t (I b)), .one (.ptr ⟨sw, vs, 1, 0, 0⟩), .one (.fn 161 [])]
      (.tup [.one (.t (I (Sort.order2 ltS d a b s).1)), .one (.t (I (Sort.order2 ltS d a b s).2.1))]) (putB h sw vs (Sort.order2 ltS d a b s).2.2) := by
  have := order2P (putB h sw vs s) n0 id ver sw vs a b s tight d (hd.putB hne) box_put (HeapOk.putB ho hsw) hsw ha' hb' hs hsm
  have e : (if ltS d[b] d[a] then putB (putB h sw vs s) sw vs ((s : Int) + 1) else putB h sw vs s) = putB h sw vs (Sort.order2 ltS d a b s).2.2 := by
    rw [Sort.order2, getElem!_pos d a ha', getElem!_pos d b hb', putB_putB]
    split <;> simp
  rw [e] at this
  exact this

theorem HeapOk.more {h : Hp} {n m : Nat} (ho : HeapOk h n) (hm : n ≤ m) : HeapOk h m := by
  refine ⟨fun j hj => ho.above j (by omega), fun j o hj => ?_⟩
  have := ho.below j o hj
  cases o with
  | arr v s sz rs =>
    simp only [O.below, List.all_eq_true] at this ⊢
    intro r hr x hx
    have := this r hr x hx
    cases x <;> simp [A.below] at this ⊢ <;> first | omega | (intro p hp; have := this p hp; omega)

theorem medianP (h : Hp) (n0 id ver sw vs a b c s : Nat) (tight : Bool) (d : Array Sp) (hd : Data h id ver d) (hne : id ≠ sw) (ho : HeapOk h n0) (hsw : sw < n0) (ha' : a < d.size) (hb' : b < d.size) (hc' : c < d.size) (hs : s ≤ 50) (hsm : ∀ x ∈ d, small x) :
    ISp Tryz.prog 279 (putB h sw vs s) n0 [.one (.ref id ver 0 d.size 2 tight), .one (.t (I a)), .one (.t (I b)), .one (.t (I c)), .one (.ptr ⟨sw, vs, 1, 0, 0⟩), .one (.fn 161 [])]
      (.one (.t (I (Sort.median ltS d a b c s).1))) (putB h sw vs (Sort.median ltS d a b c s).2) := by
  refine k279.ispK (by simp) ?_
  simp [c279, c279r0, c279r1]
  refine callK.imp (order2Q h _ id ver sw vs a b s tight d hd hne (HeapOk.more ho (by omega)) (by omega) ha' hb' (by omega) hsm) ?_
  have p1 := order2_lt (d := d) (a := a) (b := b) (s := s)
  have q1 := order2_s (d := d) (a := a) (b := b) (s := s)
  simp [Sort.median]
  generalize Sort.order2 ltS d a b s = r1 at *
  obtain ⟨x1, y1, s1⟩ := r1
  simp at p1 q1
  simp [c279r2]
  refine callK.imp (order2Q h _ id ver sw vs y1 c s1 tight d hd hne (HeapOk.more ho (by omega)) (by omega) (by omega) hc' (by omega) hsm) ?_
  have p2 := order2_lt (d := d) (a := y1) (b := c) (s := s1)
  have q2 := order2_s (d := d) (a := y1) (b := c) (s := s1)
  generalize Sort.order2 ltS d y1 c s1 = r2 at *
  obtain ⟨x2, y2, s2⟩ := r2
  simp at p2 q2
  simp [c279r3]
  refine callK.imp (order2Q h _ id ver sw vs x1 x2 s2 tight d hd hne (HeapOk.more ho (by omega)) (by omega) (by omega) (by omega) (by omega) hsm) ?_
  simp [c279r4]
  exact ⟨.inr rfl, ⟨by simp, by simp⟩, by simp, by simp, by simp, fun j hj => rfl, (HeapOk.putB ho hsw).above, (HeapOk.putB ho hsw).below⟩
end Go.Proofs.YtdpbobkcbakpfaaGreatDoor

namespace Go.Proofs.YtdpbobkcbakpfaaGreatDoor
open Go Go.Ab
set_option maxRecDepth 100000

theorem medianAdjacentP (h : Hp) (n0 id ver sw vs a s : Nat) (tight : Bool) (d : Array Sp) (hd : Data h id ver d) (hne : id ≠ sw) (ho : HeapOk h n0) (hsw : sw < n0) (ha : 0 < a) (ha' : a + 1 < d.size) (hsz : d.size ≤ 100000) (hs : s ≤ 50) (hsm : ∀ x ∈ d, small x) :
    ISp Tryz.prog 278 (putB h sw vs s) n0 [.one (.ref id ver 0 d.size 2 tight), .one (.t (I a)), .one (.ptr ⟨sw, vs, 1, 0, 0⟩), .one (.fn 161 [])]
      (.one (.t (I (Sort.medianAdjacent ltS d a s).1))) (putB h sw vs (Sort.medianAdjacent ltS d a s).2) := by
  refine k278.ispK (by simp) ?_
  have hw1 : IntKind.i64.wrap ((a : Int) - 1) = ((a - 1 : Nat) : Int) := by rw [wrap_i64 (by omega) (by omega)]; omega
  have hw2 : IntKind.i64.wrap ((a : Int) + 1) = ((a + 1 : Nat) : Int) := by rw [wrap_i64 (by omega) (by omega)]; omega
  simp [c278, c278r0, c278r1, hw1, hw2]
  refine callK.imp (medianP h _ id ver sw vs (a - 1) a (a + 1) s tight d hd hne (HeapOk.more ho (by omega)) (by omega) (by omega) (by omega) ha' hs hsm) ?_
  simp [Sort.medianAdjacent]
  exact ⟨.inr rfl, ⟨by simp, by simp⟩, by simp, by simp, by simp, fun j hj => rfl, (HeapOk.putB ho hsw).above, (HeapOk.putB ho hsw).below⟩
end Go.Proofs.YtdpbobkcbakpfaaGreatDoor

namespace Go.Proofs.YtdpbobkcbakpfaaGreatDoor
open Go Go.Ab
set_option maxRecDepth 100000

theorem drop_cell (x : Sp) : List.drop 2 (cell x) = [] := rfl

theorem good_cell (y : Sp) : ∀ x ∈ cell y, (match x with | Ab.A.undef => false | x => true) = true := fun x hx => by simp [cell] at hx; rcases hx with rfl | rfl <;> rfl

theorem swp_size {d : Array Sp} {i j : Nat} : (Sort.swp d i j).size = d.size := by simp [Sort.swp]

theorem swp_small {d : Array Sp} {i j : Nat} (hi : i < d.size) (hj : j < d.size) (h : ∀ x ∈ d, small x) : ∀ x ∈ Sort.swp d i j, small x := by
  intro x hx
  have m1 : d[j]! ∈ d := by rw [getElem!_pos d j hj]; exact Array.getElem_mem _
  have m2 : d[i]! ∈ d := by rw [getElem!_pos d i hi]; exact Array.getElem_mem _
  rcases Array.mem_or_eq_of_mem_setIfInBounds hx with h1 | h1
  · rcases Array.mem_or_eq_of_mem_setIfInBounds h1 with h2 | h2
    · exact h _ h2
    · rw [h2]; exact h _ m1
  · rw [h1]; exact h _ m2

/-- Two rows exchanged by two stores. -/
theorem swap_heap {h g : Hp} {id ver i j : Nat} {d : Array Sp} (hg : g = putD' h id ver d) (hi : i < d.size) (hj : j < d.size) (hne : i ≠ j) :
    ((g.set id (.arr ver false 2 ((g.rows id).set i (cell d[j] ++ List.drop 2 (cell d[i]))))).set id
      (.arr ver false 2 (((g.rows id).set i (cell d[j] ++ List.drop 2 (cell d[i]))).set j (cell d[i] ++ List.drop 2 (((g.rows id).set i (cell d[j] ++ List.drop 2 (cell d[i])))[j]?.getD []))))) = putD' h id ver (Sort.swp d i j) := by
  have hd : Data g id ver d := by rw [hg]; exact data_put
  have c : (g.rows id)[j]? = some (cell d[j]) := by rw [cellAt hd hj, getElem!_pos d j hj]
  have e : (((g.rows id).set i (cell d[j] ++ List.drop 2 (cell d[i]))).set j (cell d[i] ++ List.drop 2 (((g.rows id).set i (cell d[j] ++ List.drop 2 (cell d[i])))[j]?.getD []))) = (Sort.swp d i j).toList.map cell := by
    rw [List.getElem?_set_ne hne, c, hd.rows, Sort.swp, getElem!_pos d i hi, getElem!_pos d j hj]
    simp [List.map_set, drop_cell]
  rw [e, hg]
  funext q
  simp only [putD', Hp.set]
  split <;> rfl

theorem reverseP (h : Hp) (n0 id ver a b : Nat) (tight : Bool) (d : Array Sp) (hd : Data h id ver d) (ho : HeapOk h n0) (hid : id < n0) (hab : a < b) (hb : b ≤ d.size) (hsz : d.size ≤ 100000) (c : D) (hc : c.closed = true) :
    ISp Tryz.prog 248 h n0 [.one (.ref id ver 0 d.size 2 tight), .one (.t (I a)), .one (.t (I b)), c] (.tup []) (putD' h id ver (Sort.reverseRange d a b)) := by
  refine k248.ispK (by simp) ?_
  have hw : IntKind.i64.wrap ((b : Int) - 1) = ((b - 1 : Nat) : Int) := by rw [wrap_i64 (by omega) (by omega)]; omega
  simp [c248, c248r0, c248r1, hw]
  refine W.loopK (fun k st => ∃ (i j : Nat) (e : Array Sp), k = j - i ∧ e.size = d.size ∧ st.heap = putD' h id ver e ∧ Sort.reverseLoop i j e = Sort.reverseRange d a b ∧ i ≤ 100001 ∧ j < d.size ∧
    st.tmps 0 = .one (.ref id ver 0 d.size 2 tight) ∧ st.tmps 8 = .one (.t (I i)) ∧ st.tmps 9 = .one (.t (I j))) (b - 1 - a) ⟨a, b - 1, d, rfl, rfl, hd.self.symm, rfl, by omega, by omega, by simp, by simp, by simp⟩ ?_
  rintro k st ⟨i, j, e, hk, he, hh, hout, hi, hj, h0, h8, h9⟩
  have hdat : Data st.heap id ver e := by rw [hh]; exact data_put
  rcases Nat.lt_or_ge i j with hlt | hge
  · have hie : i < e.size := by omega
    have hje : j < e.size := by omega
    have hid' : i < d.size := by omega
    have c1 : (st.heap.rows id)[i]? = some (cell e[i]) := by rw [cellAt hdat hie, getElem!_pos e i hie]
    have c2 : (st.heap.rows id)[j]? = some (cell e[j]) := by rw [cellAt hdat hje, getElem!_pos e j hje]
    have g1 : ∀ hh, (st.heap.rows id)[i]'hh = cell e[i] := fun hh => by rw [List.getElem?_eq_getElem hh] at c1; simpa using c1
    have g2 : ∀ hh, (st.heap.rows id)[j]'hh = cell e[j] := fun hh => by rw [List.getElem?_eq_getElem hh] at c2; simpa using c2
    have hln : (st.heap.rows id).length = e.size := by rw [hdat.rows]; simp
    have hw1 : IntKind.i64.wrap ((i : Int) + 1) = ((i + 1 : Nat) : Int) := by rw [wrap_i64 (by omega) (by omega)]; omega
    have hw2 : IntKind.i64.wrap ((j : Int) - 1) = ((j - 1 : Nat) : Int) := by rw [wrap_i64 (by omega) (by omega)]; omega
    have hstep : Sort.reverseLoop i j e = Sort.reverseLoop (i + 1) (j - 1) (Sort.swp e i j) := by rw [Sort.reverseLoop, if_pos hlt]
    simp [c248b6, c248r2, c248r3, c248r4, c248r5, h0, h8, h9, hlt, hdat.alive, hdat.sz, hdat.open_, hln, g1, g2, hie, hje, hid', hj, take_cell, cell_len, hw1, hw2]
    refine ⟨good_cell _, good_cell _, j - 1 - (i + 1), by omega, i + 1, j - 1, rfl, Sort.swp e i j, by rw [swp_size]; exact he, ?_, by rw [← hout, hstep], by omega, by omega, rfl, rfl⟩
    have sh := swap_heap hh hie hje (by omega)
    simp [hln, hje] at sh
    exact sh
  · have hge' : ¬ i < j := by omega
    have hend : Sort.reverseLoop i j e = e := by rw [Sort.reverseLoop, if_neg hge']
    simp [c248b6, c248r2, h8, h9, hge']
    exact impEnd_same (.inl rfl) rfl (by rw [hh, ← hout, hend]) (HeapOk.put ho hid)
end Go.Proofs.YtdpbobkcbakpfaaGreatDoor

namespace Go.Proofs.YtdpbobkcbakpfaaGreatDoor
open Go Go.Ab
set_option maxRecDepth 100000

theorem nat_wrap {x : Int} (n : Nat) (h : x = n) (hn : n ≤ 9223372036854775807) : IntKind.i64.wrap x = (n : Int) := by rw [h, wrap_i64 (by omega) (by omega)]

theorem rowAt {g : Hp} {id ver p : Nat} {e : Array Sp} (hd : Data g id ver e) (hp : p < e.size) : ∀ hh, (g.rows id)[p]'hh = cell e[p] := fun hh => by
  have c := cellAt hd hp
  rw [getElem!_pos e p hp, List.getElem?_eq_getElem hh] at c
  simpa using c

/-- siftDown: the chosen child compared, and exchanged. -/
theorem sink {n : Nat} {A : Exit → St → Prop} {J : St → Prop} {nx1 nx2 : Nat} {tm : Nat → D} {h g : Hp} (id ver first r c p0 p : Nat) (tight : Bool) (e : Array Sp) (hg : g = putD' h id ver e) (hp0 : p0 = first + r) (hp : p = first + c) (q0 : p0 < e.size) (q : p < e.size) (hne : r ≠ c) (hsz : e.size ≤ 100000) (hse : ∀ x ∈ e, small x)
    (h0 : tm 0 = .one (.ref id ver 0 e.size 2 tight)) (h3 : tm 3 = .one (.t (I first))) (h4 : tm 4 = .one (.fn 161 [])) (h10 : tm 10 = .one (.t (I r))) (h11 : tm 11 = .one (.t (I c)))
    (stop : ltS e[p0] e[p] = false → ∀ st' : St, st'.heap = g → A .ret st')
    (go : ltS e[p0] e[p] = true → ∀ st' : St, st'.heap = putD' h id ver (Sort.swp e p0 p) → st'.tmps 0 = tm 0 → st'.tmps 2 = tm 2 → st'.tmps 3 = tm 3 → st'.tmps 4 = tm 4 → st'.tmps 10 = .one (.t (I c)) → J st') :
    segWP Tryz.prog true nx1 c275r5 (regK (kont Tryz.prog n A [.thn (.cond (X.tmp 58) .ret .skip), .thn (.seq (.region 6 true 24 c275r6) (.region 7 false 2 c275r7)), .blk 1, .post J, .blk 0]) nx2) 0 tm g := by
  have hdat : Data g id ver e := by rw [hg]; exact data_put
  have w4 : IntKind.i64.wrap ((first : Int) + c) = (p : Int) := nat_wrap _ (by omega) (by omega)
  have w6 : IntKind.i64.wrap ((first : Int) + r) = (p0 : Int) := nat_wrap _ (by omega) (by omega)
  have hln : (g.rows id).length = e.size := by rw [hdat.rows]; simp
  have g0 := rowAt hdat q0
  have g1 := rowAt hdat q
  have s1 : small e[p0] := hse _ (Array.getElem_mem _)
  have s2 : small e[p] := hse _ (Array.getElem_mem _)
  simp [c275r5, h0, h3, h4, h10, h11, w4, w6, hdat.alive, hdat.sz, hln, g0, g1, q0, q, take_cell]
  refine ⟨161, [], ⟨rfl, rfl⟩, callable161, ?_⟩
  refine callK.draw (cmpP e[p0] e[p] s1 s2) (by simp [cell]) (by simp [cell]) (by simp) ?_
  by_cases hlt : ltS e[p0] e[p] = true
  · have hlt' : e[p0].1 - e[p].1 < 0 := by simp [ltS] at hlt; omega
    simp [hlt']
    simp [c275r6, c275r7, h0, h3, h10, h11, w4, w6, hdat.alive, hdat.sz, hdat.open_, hln, g0, g1, q0, q, take_cell, cell_len]
    refine ⟨good_cell _, good_cell _, go hlt _ ?_ (by simp [h0]) (by simp) (by simp [h3]) (by simp [h4]) (by simp)⟩
    have sh := swap_heap hg q0 q (by omega)
    simp [hln, q] at sh
    exact sh
  · have hlt' : ¬ e[p0].1 - e[p].1 < 0 := by simp [ltS] at hlt; omega
    simp [hlt']
    exact stop (by simpa using hlt) _ rfl
end Go.Proofs.YtdpbobkcbakpfaaGreatDoor

namespace Go.Proofs.YtdpbobkcbakpfaaGreatDoor
open Go Go.Ab
set_option maxRecDepth 100000

theorem siftDownP (h : Hp) (n0 id ver lo hi first : Nat) (tight : Bool) (d : Array Sp) (hd : Data h id ver d) (ho : HeapOk h n0) (hid : id < n0) (hb : first + hi ≤ d.size) (hlo : lo ≤ 100000) (hsz : d.size ≤ 100000) (hsm : ∀ x ∈ d, small x) :
    ISp Tryz.prog 275 h n0 [.one (.ref id ver 0 d.size 2 tight), .one (.t (I lo)), .one (.t (I hi)), .one (.t (I first)), .one (.fn 161 [])] (.tup []) (putD' h id ver (Sort.siftDown ltS hi first lo d)) := by
  refine k275.ispK (by simp) ?_
  simp [c275, c275r0]
  refine W.loopK (fun k st => ∃ (r : Nat) (e : Array Sp), k = 200001 - r ∧ r ≤ 100000 ∧ e.size = d.size ∧ (∀ x ∈ e, small x) ∧ st.heap = putD' h id ver e ∧ Sort.siftDown ltS hi first r e = Sort.siftDown ltS hi first lo d ∧
    st.tmps 0 = .one (.ref id ver 0 d.size 2 tight) ∧ st.tmps 2 = .one (.t (I hi)) ∧ st.tmps 3 = .one (.t (I first)) ∧ st.tmps 4 = .one (.fn 161 []) ∧ st.tmps 10 = .one (.t (I r))) (200001 - lo) ⟨lo, d, rfl, by omega, rfl, hsm, hd.self.symm, rfl, by simp, by simp, by simp, by simp, by simp⟩ ?_
  rintro k st ⟨r, e, hk, hr, he, hse, hh, hout, h0, h2, h3, h4, h10⟩
  have hdat : Data st.heap id ver e := by rw [hh]; exact data_put
  obtain ⟨c, hc0⟩ : ∃ c : Nat, c = 2 * r + 1 := ⟨_, rfl⟩
  have w1 : IntKind.i64.wrap (2 * (r : Int)) = 2 * (r : Int) := wrap_i64 (by omega) (by omega)
  have w2 : IntKind.i64.wrap (2 * (r : Int) + 1) = (c : Int) := nat_wrap _ (by omega) (by omega)
  simp [c275b8, c275r1, h10, w1, w2]
  have hu : Sort.siftDown ltS hi first r e = if c ≥ hi then e else if c + 1 < hi ∧ ltS e[first + c]! e[first + c + 1]! = true then (if ltS e[first + r]! e[first + c + 1]! = true then Sort.siftDown ltS hi first (c + 1) (Sort.swp e (first + r) (first + c + 1)) else e)
      else (if ltS e[first + r]! e[first + c]! = true then Sort.siftDown ltS hi first c (Sort.swp e (first + r) (first + c)) else e) := by
    rw [Sort.siftDown]
    subst hc0
    by_cases h1 : 2 * r + 1 ≥ hi
    · simp [h1]
    · have e2 : first + (2 * r + 2) = first + (2 * r + 1) + 1 := by omega
      by_cases h2 : 2 * r + 1 + 1 < hi
      · have h2' : 2 * r + 2 < hi := by omega
        simp [h1, h2, e2]
        split <;> split <;> simp_all
      · simp [h1, h2]
        split <;> simp_all
  rw [hu] at hout
  by_cases hge : c ≥ hi
  · rw [if_pos hge] at hout
    simp [c275r2, h2, hge]
    exact impEnd_same (.inl rfl) rfl (by rw [hh, hout]) (HeapOk.put ho hid)
  rw [if_neg hge] at hout
  simp [c275r2, h2, hge]
  obtain ⟨p0, hp0⟩ : ∃ p : Nat, p = first + r := ⟨_, rfl⟩
  obtain ⟨p1, hp1⟩ : ∃ p : Nat, p = first + c := ⟨_, rfl⟩
  have q0 : p0 < e.size := by omega
  have q1 : p1 < e.size := by omega
  have q1' : p1 < d.size := by omega
  have w3 : IntKind.i64.wrap ((c : Int) + 1) = ((c + 1 : Nat) : Int) := nat_wrap _ (by omega) (by omega)
  have w4 : IntKind.i64.wrap ((first : Int) + c) = (p1 : Int) := nat_wrap _ (by omega) (by omega)
  have hln : (st.heap.rows id).length = e.size := by rw [hdat.rows]; simp
  have g1 := rowAt hdat q1
  rw [← hp0, ← hp1] at hout
  have fin : ∀ st' : St, Sort.siftDown ltS hi first lo d = e → st'.heap = st.heap → impEnd [] (.tup []) (putD' h id ver (Sort.siftDown ltS hi first lo d)) n0 .ret st' := fun st' h1 h2 => impEnd_same (.inr rfl) rfl (by rw [h2, hh, h1]) (HeapOk.put ho hid)
  by_cases hc : c + 1 < hi
  · obtain ⟨p2, hp2⟩ : ∃ p : Nat, p = p1 + 1 := ⟨_, rfl⟩
    have q2 : p2 < e.size := by omega
    have q2' : p2 < d.size := by omega
    have g2 := rowAt hdat q2
    have hcI : (c : Int) + 1 < hi := by omega
    have w5 : IntKind.i64.wrap ((p1 : Int) + 1) = (p2 : Int) := nat_wrap _ (by omega) (by omega)
    have s1 : small e[p1] := hse _ (Array.getElem_mem _)
    have s2 : small e[p2] := hse _ (Array.getElem_mem _)
    rw [← hp2, getElem!_pos e p0 q0, getElem!_pos e p1 q1, getElem!_pos e p2 q2] at hout
    simp [c275r3, h0, h2, h3, h4, hcI, w3, w4, w5, hdat.alive, hdat.sz, hln, g1, g2, q1, q2, q1', q2', take_cell]
    refine ⟨161, [], ⟨rfl, rfl⟩, callable161, ?_⟩
    refine callK.draw (cmpP e[p1] e[p2] s1 s2) (by simp [cell]) (by simp [cell]) (by simp) ?_
    by_cases hl : ltS e[p1] e[p2] = true
    · have hl' : e[p1].1 - e[p2].1 < 0 := by simp [ltS] at hl; omega
      rw [if_pos ⟨hc, hl⟩] at hout
      simp [hl', c275r4, w3]
      refine sink id ver first r (c + 1) p0 p2 tight e hh hp0 (by omega) q0 q2 (by omega) (by omega) hse (by simp [h0, he]) (by simp [h3]) (by simp [h4]) (by simp [h10]) (by simp) (fun hf st' e1 => ?_) (fun ht st' e1 e2 e3 e4 e5 e6 => ?_)
      · rw [if_neg (by simp [hf])] at hout
        exact fin st' hout.symm e1
      · rw [if_pos ht] at hout
        simp [h0, h2, h3, h4] at e2 e3 e4 e5
        exact ⟨200001 - (c + 1), by omega, c + 1, rfl, by omega, Sort.swp e p0 p2, by rw [swp_size]; exact he, fun x y hxy => swp_small q0 q2 hse _ hxy, e1, hout, e2, e3, e4, e5, e6⟩
    · have hl' : ¬ e[p1].1 - e[p2].1 < 0 := by simp [ltS] at hl; omega
      rw [if_neg (by simp [hl])] at hout
      simp [hl']
      refine sink id ver first r c p0 p1 tight e hh hp0 hp1 q0 q1 (by omega) (by omega) hse (by simp [h0, he]) (by simp [h3]) (by simp [h4]) (by simp [h10]) (by simp) (fun hf st' e1 => ?_) (fun ht st' e1 e2 e3 e4 e5 e6 => ?_)
      · rw [if_neg (by simp [hf])] at hout
        exact fin st' hout.symm e1
      · rw [if_pos ht] at hout
        simp [h0, h2, h3, h4] at e2 e3 e4 e5
        exact ⟨200001 - c, by omega, c, rfl, by omega, Sort.swp e p0 p1, by rw [swp_size]; exact he, fun x y hxy => swp_small q0 q1 hse _ hxy, e1, hout, e2, e3, e4, e5, e6⟩
  · have hcI : ¬ (c : Int) + 1 < hi := by omega
    rw [if_neg (by simp [hc]), getElem!_pos e p0 q0, getElem!_pos e p1 q1] at hout
    simp [c275r3, h0, h2, h3, h4, hcI, w3]
    refine sink id ver first r c p0 p1 tight e hh hp0 hp1 q0 q1 (by omega) (by omega) hse (by simp [h0, he]) (by simp [h3]) (by simp [h4]) (by simp [h10]) (by simp) (fun hf st' e1 => ?_) (fun ht st' e1 e2 e3 e4 e5 e6 => ?_)
    · rw [if_neg (by simp [hf])] at hout
      exact fin st' hout.symm e1
    · rw [if_pos ht] at hout
      simp [h0, h2, h3, h4] at e2 e3 e4 e5
      exact ⟨200001 - c, by omega, c, rfl, by omega, Sort.swp e p0 p1, by rw [swp_size]; exact he, fun x y hxy => swp_small q0 q1 hse _ hxy, e1, hout, e2, e3, e4, e5, e6⟩
end Go.Proofs.YtdpbobkcbakpfaaGreatDoor

namespace Go.Proofs.YtdpbobkcbakpfaaGreatDoor
open Go Go.Ab
set_option maxRecDepth 100000

/-- As many, and all still small. -/
def Keeps (d e : Array Sp) : Prop := e.size = d.size ∧ ((∀ x ∈ d, small x) → ∀ x ∈ e, small x)
theorem Keeps.refl (d : Array Sp) : Keeps d d := ⟨rfl, fun h => h⟩
theorem Keeps.trans {d e f : Array Sp} (h : Keeps d e) (k : Keeps e f) : Keeps d f := ⟨k.1.trans h.1, fun q => k.2 (h.2 q)⟩
theorem Keeps.swp {d : Array Sp} {i j : Nat} (hi : i < d.size) (hj : j < d.size) : Keeps d (Sort.swp d i j) := ⟨swp_size, swp_small hi hj⟩

theorem siftDown_keeps (hi first root : Nat) (d : Array Sp) : first + hi ≤ d.size → Keeps d (Sort.siftDown ltS hi first root d) := by
  fun_induction Sort.siftDown ltS hi first root d with
  | case1 => exact fun _ => .refl _
  | case2 => exact fun _ => .refl _
  | case3 root d h1 h2 h3 h4 ih => exact fun h => (Keeps.swp (by omega) (by omega)).trans (ih (by rw [swp_size]; exact h))
  | case4 => exact fun _ => .refl _
  | case5 => exact fun _ => .refl _
  | case6 root d h1 h2 h3 ih => exact fun h => (Keeps.swp (by omega) (by omega)).trans (ih (by rw [swp_size]; exact h))

theorem swap_heap' {h g : Hp} {id ver i j : Nat} {d : Array Sp} (hg : g = putD' h id ver d) (hi : i < d.size) (hj : j < d.size) :
    ((g.set id (.arr ver false 2 ((g.rows id).set i (cell d[j] ++ List.drop 2 (cell d[i]))))).set id
      (.arr ver false 2 (((g.rows id).set i (cell d[j] ++ List.drop 2 (cell d[i]))).set j (cell d[i] ++ List.drop 2 (((g.rows id).set i (cell d[j] ++ List.drop 2 (cell d[i])))[j]?.getD []))))) = putD' h id ver (Sort.swp d i j) := by
  by_cases hne : i = j
  · subst hne
    have hd : Data g id ver d := by rw [hg]; exact data_put
    have hl : i < (g.rows id).length := by rw [hd.rows]; simpa using hi
    have e : (((g.rows id).set i (cell d[i] ++ List.drop 2 (cell d[i]))).set i (cell d[i] ++ List.drop 2 (((g.rows id).set i (cell d[i] ++ List.drop 2 (cell d[i])))[i]?.getD []))) = (Sort.swp d i i).toList.map cell := by
      rw [List.getElem?_set_self hl, hd.rows, Sort.swp, getElem!_pos d i hi]
      simp [List.map_set, drop_cell]
    rw [e, hg]
    funext q
    simp only [putD', Hp.set]
    split <;> rfl
  · exact swap_heap hg hi hj hne

theorem heapSortP (h : Hp) (n0 id ver a b : Nat) (tight : Bool) (d : Array Sp) (hd : Data h id ver d) (ho : HeapOk h n0) (hid : id < n0) (hab : a < b) (hb : b ≤ d.size) (hsz : d.size ≤ 100000) (hsm : ∀ x ∈ d, small x) :
    ISp Tryz.prog 245 h n0 [.one (.ref id ver 0 d.size 2 tight), .one (.t (I a)), .one (.t (I b)), .one (.fn 161 [])] (.tup []) (putD' h id ver (Sort.heapSort ltS d a b)) := by
  refine k245.ispK (by simp) ?_
  obtain ⟨hi, hhi⟩ : ∃ hi : Nat, hi = b - a := ⟨_, rfl⟩
  obtain ⟨m, hm⟩ : ∃ m : Nat, m = (hi - 1) / 2 := ⟨_, rfl⟩
  have w1 : IntKind.i64.wrap ((b : Int) - a) = (hi : Int) := nat_wrap _ (by omega) (by omega)
  have w2 : IntKind.i64.wrap ((hi : Int) - 1) = ((hi - 1 : Nat) : Int) := nat_wrap _ (by omega) (by omega)
  have w3 : IntKind.i64.wrap (((hi - 1 : Nat) : Int) / 2) = (m : Int) := nat_wrap _ (by omega) (by omega)
  have hsort : Sort.heapSort ltS d a b = Sort.heapPop ltS a hi (Sort.heapBuild ltS hi a (m + 1) d) := by rw [Sort.heapSort, ← hhi, ← hm]
  simp [c245, c245r0, c245r1, c245r2, c245r3, w1, w2, w3]
  refine W.loopK (fun k st => ∃ e : Array Sp, k ≤ m + 1 ∧ Keeps d e ∧ st.heap = putD' h id ver e ∧ Sort.heapBuild ltS hi a k e = Sort.heapBuild ltS hi a (m + 1) d ∧ n0 ≤ st.nx ∧
    st.tmps 0 = .one (.ref id ver 0 d.size 2 tight) ∧ st.tmps 3 = .one (.fn 161 []) ∧ st.tmps 8 = .one (.t (I a)) ∧ st.tmps 9 = .one (.t (I 0)) ∧ st.tmps 10 = .one (.t (I hi)) ∧ st.tmps 11 = .one (.t (I ((k : Int) - 1)))) (m + 1)
    ⟨d, by omega, .refl _, hd.self.symm, rfl, by simp; omega, by simp, by simp, by simp, by simp, by simp, by simp⟩ ?_
  rintro k st ⟨e, hk, he, hh, hout, hnx, h0, h3, h8, h9, h10, h11⟩
  have hdat : Data st.heap id ver e := by rw [hh]; exact data_put
  have hok : HeapOk st.heap n0 := by rw [hh]; exact HeapOk.put ho hid
  cases k with
  | succ k =>
    have wk : IntKind.i64.wrap ((k : Int) - 1) = (k : Int) - 1 := wrap_i64 (by omega) (by omega)
    simp [c245b7, c245r4, c245r5, c245r6, h0, h3, h8, h10, h11]
    have hs := siftDownP st.heap (st.nx + 2 + 5) id ver k hi a tight e hdat (HeapOk.more hok (by omega)) (by omega) (by rw [he.1]; omega) (by omega) (by rw [he.1]; exact hsz) (he.2 hsm)
    rw [he.1] at hs
    refine callK.imp hs ?_
    simp [h0, h3, h8, h9, h10, h11, wk]
    refine ⟨k, by omega, by omega, Sort.siftDown ltS hi a k e, he.trans (siftDown_keeps hi a k e (by rw [he.1]; omega)), by rw [hh, put_put], hout, by omega, rfl⟩
  | zero =>
    have hd2 : Sort.heapBuild ltS hi a 0 e = e := rfl
    rw [hd2] at hout
    rw [← hout] at hsort
    simp [c245b7, c245r4, h10, h11, c245r7, w2]
    have wm : (((hi - 1 : Nat) : Int)) = (hi : Int) - 1 := by omega
    refine W.loopK (fun k st => ∃ e' : Array Sp, k ≤ hi ∧ Keeps d e' ∧ st.heap = putD' h id ver e' ∧ Sort.heapPop ltS a k e' = Sort.heapPop ltS a hi e ∧ n0 ≤ st.nx ∧
      st.tmps 0 = .one (.ref id ver 0 d.size 2 tight) ∧ st.tmps 3 = .one (.fn 161 []) ∧ st.tmps 8 = .one (.t (I a)) ∧ st.tmps 9 = .one (.t (I 0)) ∧ st.tmps 12 = .one (.t (I ((k : Int) - 1)))) hi
      ⟨e, by omega, he, by simp [hh], rfl, by simp; omega, by simp [h0], by simp [h3], by simp [h8], by simp [h9], by simp [wm]⟩ ?_
    rintro k st1 ⟨e1, hk1, he1, hh1, hout1, hnx1, h0, h3, h8, h9, h12⟩
    have hdat : Data st1.heap id ver e1 := by rw [hh1]; exact data_put
    have hok : HeapOk st1.heap n0 := by rw [hh1]; exact HeapOk.put ho hid
    cases k with
    | succ k =>
      obtain ⟨p, hp⟩ : ∃ p : Nat, p = a + k := ⟨_, rfl⟩
      have wk : IntKind.i64.wrap ((k : Int) - 1) = (k : Int) - 1 := wrap_i64 (by omega) (by omega)
      have wp : IntKind.i64.wrap ((a : Int) + k) = (p : Int) := nat_wrap _ (by omega) (by omega)
      have q : p < e1.size := by rw [he1.1]; omega
      have q' : p < d.size := by omega
      have q0 : a < e1.size := by rw [he1.1]; omega
      have q0' : a < d.size := by omega
      have hln : (st1.heap.rows id).length = e1.size := by rw [hdat.rows]; simp
      have g0 := rowAt hdat q0
      have g1 := rowAt hdat q
      have c1 : (st1.heap.rows id)[a]? = some (cell e1[a]) := by rw [cellAt hdat q0, getElem!_pos e1 a q0]
      have c2 : (st1.heap.rows id)[p]? = some (cell e1[p]) := by rw [cellAt hdat q, getElem!_pos e1 p q]
      simp [c245b13, c245r8, c245r9, c245r10, c245r11, h0, h3, h8, h9, h12, wp, hdat.alive, hdat.sz, hdat.open_, hln, g0, g1, q, q', q0, q0', take_cell, cell_len]
      refine ⟨good_cell _, good_cell _, ?_⟩
      have hsw : ∀ g : Hp, g = putD' h id ver (Sort.swp e1 a p) → ISp Tryz.prog 275 g (st1.nx + 2 + 20 + 5) [.one (.ref id ver 0 d.size 2 tight), .one (.t (I ((0 : Nat) : Int))), .one (.t (I k)), .one (.t (I a)), .one (.fn 161 [])] (.tup []) (putD' h id ver (Sort.siftDown ltS k a 0 (Sort.swp e1 a p))) := by
        intro g hg
        have hkp := he1.trans (Keeps.swp q0 q)
        have := siftDownP g (st1.nx + 2 + 20 + 5) id ver 0 k a tight (Sort.swp e1 a p) (by rw [hg]; exact data_put) (by rw [hg]; exact HeapOk.more (HeapOk.put ho hid) (by omega)) (by omega) (by rw [hkp.1]; omega) (by omega) (by rw [hkp.1]; exact hsz) (hkp.2 hsm)
        rw [hkp.1, hg, put_put] at this
        rw [hg]
        exact this
      have sh := swap_heap' hh1 q0 q
      simp [hln, q] at sh
      rw [sh]
      refine callK.imp (hsw _ rfl) ?_
      simp [h0, h3, h8, h9, h12, wk]
      refine ⟨k, by omega, by omega, Sort.siftDown ltS k a 0 (Sort.swp e1 a p), (he1.trans (Keeps.swp q0 q)).trans (siftDown_keeps k a 0 _ (by rw [swp_size, he1.1]; omega)), rfl, ?_, by omega, rfl⟩
      rw [← hout1, hp]; rfl
    | zero =>
      have hd3 : Sort.heapPop ltS a 0 e1 = e1 := rfl
      rw [hd3] at hout1
      simp [c245b13, c245r8, h12]
      exact impEnd_same (.inl rfl) rfl (by rw [hh1, hsort, hout1]) (HeapOk.put ho hid)
end Go.Proofs.YtdpbobkcbakpfaaGreatDoor

namespace Go.Proofs.YtdpbobkcbakpfaaGreatDoor
open Go Go.Ab
set_option maxRecDepth 100000

def hintI : Sort.Hint → Int
  | .unknown => 0
  | .increasing => 1
  | .decreasing => 2

theorem median_s {d : Array Sp} {a b c s : Nat} : (Sort.median ltS d a b c s).2 ≤ s + 3 := by
  simp only [Sort.median]
  have h1 := order2_s (d := d) (a := a) (b := b) (s := s)
  generalize Sort.order2 ltS d a b s = r1 at *
  have h2 := order2_s (d := d) (a := r1.2.1) (b := c) (s := r1.2.2)
  generalize Sort.order2 ltS d r1.2.1 c r1.2.2 = r2 at *
  have h3 := order2_s (d := d) (a := r1.1) (b := r2.1) (s := r2.2.2)
  generalize Sort.order2 ltS d r1.1 r2.1 r2.2.2 = r3 at *
  omega

theorem median_lt {d : Array Sp} {a b c s m : Nat} (ha : a < m) (hb : b < m) (hc : c < m) : (Sort.median ltS d a b c s).1 < m := by
  rcases Sort.median_mem ltS d a b c s with h | h | h <;> omega

/-- The last part: what the number of exchanges says. -/
theorem pivot_end {h : Hp} {n0 bx p s nx : Nat} {tm : Nat → D} {hint : Sort.Hint} (hbx : n0 ≤ bx) (ho : HeapOk h n0) (h11 : tm 11 = .one (.ptr ⟨bx, 0, 1, 0, 0⟩)) (h13 : tm 13 = .one (.t (I p)))
    (hh : hint = if s = 0 then .increasing else if s = 12 then .decreasing else .unknown) :
    awpK Tryz.prog 63 (impEnd [.tmp 8, .tmp 9] (.tup [.one (.t (I p)), .one (.t (I (hintI hint)))]) h n0) (.seq (.region 12 false 1 c247r12) (.block 0 (.seq (.region 14 false 2 c247r14) (.cond (X.tmp 57) (.seq (.region 15 false 3 c247r15) .ret) (.seq (.region 16 false 2 c247r16) (.cond (X.tmp 60) (.seq (.region 17 false 3 c247r17) .ret) (.seq (.region 13 false 3 c247r13) .ret))))))) [] ⟨tm, putB h bx 0 s, nx⟩ := by
  have fin : ∀ id, id < n0 → putB h bx 0 s id = h id := fun id hid => by simp only [putB, Hp.set]; rw [if_neg (by omega)]
  subst hh
  by_cases s0 : s = 0
  · subst s0
    simp [c247r12, c247r14, c247r15, h11, h13, putB, hintI]
    exact ⟨.inr rfl, ⟨by simp, by simp⟩, by simp, by simp, by simp, fin, ho.above, ho.below⟩
  · have s0' : ¬ (s : Int) = 0 := by omega
    by_cases s12 : s = 12
    · subst s12
      simp [c247r12, c247r14, c247r16, c247r17, h11, h13, putB, hintI]
      exact ⟨.inr rfl, ⟨by simp, by simp⟩, by simp, by simp, by simp, fin, ho.above, ho.below⟩
    · have s12' : ¬ (s : Int) = 12 := by omega
      simp [c247r12, c247r14, c247r16, c247r13, h11, h13, putB, hintI, s0, s12, s12']
      exact ⟨.inr rfl, ⟨by simp, by simp⟩, by simp, by simp, by simp, fin, ho.above, ho.below⟩

set_option maxHeartbeats 1000000 in
theorem choosePivotP (h : Hp) (n0 id ver a b : Nat) (tight : Bool) (d : Array Sp) (hd : Data h id ver d) (ho : HeapOk h n0) (hid : id < n0) (hab : a + 8 ≤ b) (hb : b ≤ d.size) (hsz : d.size ≤ 100000) (hsm : ∀ x ∈ d, small x) :
    ISp Tryz.prog 247 h n0 [.one (.ref id ver 0 d.size 2 tight), .one (.t (I a)), .one (.t (I b)), .one (.fn 161 [])] (.tup [.one (.t (I (Sort.choosePivot ltS d a b).1)), .one (.t (I (hintI (Sort.choosePivot ltS d a b).2)))]) h := by
  refine k247.ispK (by simp) ?_
  obtain ⟨l, hl⟩ : ∃ l : Nat, l = b - a := ⟨_, rfl⟩
  obtain ⟨q, hq⟩ : ∃ q : Nat, q = l / 4 := ⟨_, rfl⟩
  obtain ⟨i, hi⟩ : ∃ i : Nat, i = a + q := ⟨_, rfl⟩
  obtain ⟨j, hj⟩ : ∃ j : Nat, j = a + q * 2 := ⟨_, rfl⟩
  obtain ⟨k, hk⟩ : ∃ k : Nat, k = a + q * 3 := ⟨_, rfl⟩
  have w1 : IntKind.i64.wrap ((b : Int) - a) = (l : Int) := nat_wrap _ (by omega) (by omega)
  have w2 : IntKind.i64.wrap ((l : Int) / 4) = (q : Int) := nat_wrap _ (by omega) (by omega)
  have w3 : IntKind.i64.wrap (q : Int) = (q : Int) := nat_wrap _ rfl (by omega)
  have w4 : IntKind.i64.wrap ((q : Int) * 2) = ((q * 2 : Nat) : Int) := nat_wrap _ (by omega) (by omega)
  have w5 : IntKind.i64.wrap ((q : Int) * 3) = ((q * 3 : Nat) : Int) := nat_wrap _ (by omega) (by omega)
  have w6 : IntKind.i64.wrap ((a : Int) + q) = (i : Int) := nat_wrap _ (by omega) (by omega)
  have w7 : IntKind.i64.wrap ((a : Int) + q * 2) = (j : Int) := nat_wrap _ (by omega) (by omega)
  have w8 : IntKind.i64.wrap ((a : Int) + q * 3) = (k : Int) := nat_wrap _ (by omega) (by omega)
  have hl8 : 8 ≤ (l : Int) := by omega
  have hcp : Sort.choosePivot ltS d a b = (let r := if l ≥ 50 then (let ri := Sort.medianAdjacent ltS d i 0; let rj := Sort.medianAdjacent ltS d j ri.2; let rk := Sort.medianAdjacent ltS d k rj.2; Sort.median ltS d ri.1 rj.1 rk.1 rk.2) else Sort.median ltS d i j k 0;
      (r.1, if r.2 = 0 then .increasing else if r.2 = 12 then .decreasing else .unknown)) := by
    rw [Sort.choosePivot, ← hl, ← hq, hi, hj, hk, if_pos (by omega : l ≥ 8), Nat.mul_one]
  simp [c247, c247r0, c247r1, c247r2, c247r3, c247r4, c247r5, c247r6, c247r7, w1, w2, w3, w4, w5, w6, w7, w8, hl8]
  have hok : ∀ m, n0 ≤ m → HeapOk h m := fun m hm => HeapOk.more ho hm
  have mA : ∀ (m x s : Nat), n0 + 6 < m → 0 < x → x + 1 < b → s ≤ 9 → ∃ p t : Nat, Sort.medianAdjacent ltS d x s = (p, t) ∧ p < d.size ∧ t ≤ s + 3 ∧
      ISp Tryz.prog 278 (putB h (n0 + 6) 0 s) m [.one (.ref id ver 0 d.size 2 tight), .one (.t (I x)), .one (.ptr ⟨n0 + 6, 0, 1, 0, 0⟩), .one (.fn 161 [])] (.one (.t (I p))) (putB h (n0 + 6) 0 t) := by
    intro m x s hm hx hx' hs
    have c := medianAdjacentP h m id ver (n0 + 6) 0 x s tight d hd (by omega) (hok _ (by omega)) hm hx (by omega) hsz (by omega) hsm
    have s1 := median_s (d := d) (a := x - 1) (b := x) (c := x + 1) (s := s)
    have p1 := median_lt (d := d) (a := x - 1) (b := x) (c := x + 1) (s := s) (m := d.size) (by omega) (by omega) (by omega)
    exact ⟨_, _, rfl, p1, s1, c⟩
  have mM : ∀ (m x y z s : Nat), n0 + 6 < m → x < d.size → y < d.size → z < d.size → s ≤ 9 → ∃ p t : Nat, Sort.median ltS d x y z s = (p, t) ∧
      ISp Tryz.prog 279 (putB h (n0 + 6) 0 s) m [.one (.ref id ver 0 d.size 2 tight), .one (.t (I x)), .one (.t (I y)), .one (.t (I z)), .one (.ptr ⟨n0 + 6, 0, 1, 0, 0⟩), .one (.fn 161 [])] (.one (.t (I p))) (putB h (n0 + 6) 0 t) := by
    intro m x y z s hm hx hy hz hs
    exact ⟨_, _, rfl, medianP h m id ver (n0 + 6) 0 x y z s tight d hd (by omega) (hok _ (by omega)) hm hx hy hz (by omega) hsm⟩
  constructor
  · intro h50
    have h50' : l ≥ 50 := by omega
    rw [if_pos h50'] at hcp
    obtain ⟨p1, s1, e1, b1, t1, c1⟩ := mA (n0 + 2 + 4 + 1 + 6 + 6 + 6 + 2 + 2 + 3) i 0 (by omega) (by omega) (by omega) (by omega)
    obtain ⟨p2, s2, e2, b2, t2, c2⟩ := mA (n0 + 2 + 4 + 1 + 6 + 6 + 6 + 2 + 2 + 5 + 3) j s1 (by omega) (by omega) (by omega) (by omega)
    obtain ⟨p3, s3, e3, b3, t3, c3⟩ := mA (n0 + 2 + 4 + 1 + 6 + 6 + 6 + 2 + 2 + 5 + 5 + 3) k s2 (by omega) (by omega) (by omega) (by omega)
    obtain ⟨p4, s4, e4, c4⟩ := mM (n0 + 2 + 4 + 1 + 6 + 6 + 6 + 2 + 2 + 5 + 5 + 5 + 5) p1 p2 p3 s3 (by omega) b1 b2 b3 (by omega)
    simp only [e1, e2, e3, e4] at hcp
    simp [c247r8]
    refine callK.imp c1 ?_
    simp [c247r9]
    refine callK.imp c2 ?_
    simp [c247r10]
    refine callK.imp c3 ?_
    simp [c247r11]
    refine callK.imp c4 ?_
    rw [hcp]
    simp only [opsK]
    exact pivot_end (by omega) ho (by first | rfl | (simp; rfl)) (by first | rfl | (simp; rfl)) rfl
  · intro h50
    have h50' : ¬ l ≥ 50 := by omega
    rw [if_neg h50'] at hcp
    obtain ⟨p4, s4, e4, c4⟩ := mM (n0 + 2 + 4 + 1 + 6 + 6 + 6 + 2 + 2 + 5) i j k 0 (by omega) (by omega) (by omega) (by omega) (by omega)
    simp only [e4] at hcp
    simp [c247r11]
    refine callK.imp c4 ?_
    rw [hcp]
    simp only [opsK]
    exact pivot_end (by omega) ho (by first | rfl | (simp; rfl)) (by first | rfl | (simp; rfl)) rfl
end Go.Proofs.YtdpbobkcbakpfaaGreatDoor

/- Abstract code of functions of the program, printed by a tool of mine (wip/ab/XDump.lean); each is held against the program by the kernel. -/
namespace Go.Proofs.YtdpbobkcbakpfaaGreatDoor
open Go Go.Ab
set_option maxRecDepth 100000
def c276r0 : List Seg := [(Seg.one (AOper.mk (some 2) (AStep.op (AOp.mv (X.con (D.one (A.t (T.int .u64 0)))))) none))]
def c276r1 : List Seg := [(Seg.one (AOper.mk (some 3) (AStep.op (AOp.mv (X.tmp 0))) none)), (Seg.one (AOper.mk (some 4) (AStep.op (AOp.cvInt .u64 (X.tmp 3))) none)), (Seg.one (AOper.mk (some 5) (AStep.call 208 [(X.tmp 4)]) none)), (Seg.one (AOper.mk (some 6) (AStep.op (AOp.bin .shl false (X.con (D.one (A.t (T.int .u64 1)))) (X.tmp 5))) none)), (Seg.one (AOper.mk (some 2) (AStep.op (AOp.mv (X.tmp 6))) none))]
def c276 : ACode := (.seq (.region 0 false 1 c276r0) (.seq (.region 1 false 5 c276r1) .ret))
theorem k276 : Compiled Go.Proofs.Tryz.prog 276 7 [(RV.tmp 2)] c276 := .mk' [] Go.Proofs.Tryz.func276 rfl (by kernel_rfl) (by kernel_rfl)
def c277r0 : List Seg := [(Seg.one (AOper.mk (some 2) (AStep.op (AOp.mv (X.con (D.one (A.t (T.int .u64 0)))))) none))]
def c277r1 : List Seg := [(Seg.one (AOper.mk (some 3) (AStep.op (AOp.mv (X.tmp 0))) none)), (Seg.one (AOper.mk (some 4) (AStep.op (AOp.nilc (X.tmp 3))) none)), (Seg.one (AOper.mk (some 5) (AStep.op (AOp.load 1 false (X.tmp 4))) none)), (Seg.one (AOper.mk (some 6) (AStep.op (AOp.mv (X.tmp 0))) none)), (Seg.one (AOper.mk (some 7) (AStep.op (AOp.nilc (X.tmp 6))) none)), (Seg.one (AOper.mk (some 8) (AStep.op (AOp.load 1 false (X.tmp 7))) none)), (Seg.one (AOper.mk (some 9) (AStep.op (AOp.bin .shl false (X.tmp 8) (X.con (D.one (A.t (T.int .u64 13)))))) none)), (Seg.one (AOper.mk (some 10) (AStep.op (AOp.bin .xor false (X.tmp 5) (X.tmp 9))) none)), (Seg.one (AOper.mk (some 11) (AStep.op (AOp.nilc (X.tmp 3))) none)), (Seg.one (AOper.mk none (AStep.op (AOp.store 1 (X.tmp 11) (X.tmp 10))) none))]
def c277r2 : List Seg := [(Seg.one (AOper.mk (some 12) (AStep.op (AOp.mv (X.tmp 0))) none)), (Seg.one (AOper.mk (some 13) (AStep.op (AOp.nilc (X.tmp 12))) none)), (Seg.one (AOper.mk (some 14) (AStep.op (AOp.load 1 false (X.tmp 13))) none)), (Seg.one (AOper.mk (some 15) (AStep.op (AOp.mv (X.tmp 0))) none)), (Seg.one (AOper.mk (some 16) (AStep.op (AOp.nilc (X.tmp 15))) none)), (Seg.one (AOper.mk (some 17) (AStep.op (AOp.load 1 false (X.tmp 16))) none)), (Seg.one (AOper.mk (some 18) (AStep.op (AOp.bin .shr false (X.tmp 17) (X.con (D.one (A.t (T.int .u64 7)))))) none)), (Seg.one (AOper.mk (some 19) (AStep.op (AOp.bin .xor false (X.tmp 14) (X.tmp 18))) none)), (Seg.one (AOper.mk (some 20) (AStep.op (AOp.nilc (X.tmp 12))) none)), (Seg.one (AOper.mk none (AStep.op (AOp.store 1 (X.tmp 20) (X.tmp 19))) none))]
def c277r3 : List Seg := [(Seg.one (AOper.mk (some 21) (AStep.op (AOp.mv (X.tmp 0))) none)), (Seg.one (AOper.mk (some 22) (AStep.op (AOp.nilc (X.tmp 21))) none)), (Seg.one (AOper.mk (some 23) (AStep.op (AOp.load 1 false (X.tmp 22))) none)), (Seg.one (AOper.mk (some 24) (AStep.op (AOp.mv (X.tmp 0))) none)), (Seg.one (AOper.mk (some 25) (AStep.op (AOp.nilc (X.tmp 24))) none)), (Seg.one (AOper.mk (some 26) (AStep.op (AOp.load 1 false (X.tmp 25))) none)), (Seg.one (AOper.mk (some 27) (AStep.op (AOp.bin .shl false (X.tmp 26) (X.con (D.one (A.t (T.int .u64 17)))))) none)), (Seg.one (AOper.mk (some 28) (AStep.op (AOp.bin .xor false (X.tmp 23) (X.tmp 27))) none)), (Seg.one (AOper.mk (some 29) (AStep.op (AOp.nilc (X.tmp 21))) none)), (Seg.one (AOper.mk none (AStep.op (AOp.store 1 (X.tmp 29) (X.tmp 28))) none))]
def c277r4 : List Seg := [(Seg.one (AOper.mk (some 30) (AStep.op (AOp.mv (X.tmp 0))) none)), (Seg.one (AOper.mk (some 31) (AStep.op (AOp.nilc (X.tmp 30))) none)), (Seg.one (AOper.mk (some 32) (AStep.op (AOp.load 1 false (X.tmp 31))) none)), (Seg.one (AOper.mk (some 2) (AStep.op (AOp.mv (X.tmp 32))) none))]
def c277 : ACode := (.seq (.region 0 false 1 c277r0) (.seq (.region 1 true 10 c277r1) (.seq (.region 2 true 10 c277r2) (.seq (.region 3 true 10 c277r3) (.seq (.region 4 false 4 c277r4) .ret)))))
theorem k277 : Compiled Go.Proofs.Tryz.prog 277 33 [(RV.tmp 2)] c277 := .mk' [] Go.Proofs.Tryz.func277 rfl (by kernel_rfl) (by kernel_rfl)

end Go.Proofs.YtdpbobkcbakpfaaGreatDoor

namespace Go.Proofs.YtdpbobkcbakpfaaGreatDoor
open Go Go.Ab
set_option maxRecDepth 100000

theorem wrap_u64 {n : Int} : IntKind.u64.wrap n = n % 18446744073709551616 := by simp [IntKind.wrap, IntKind.signed, IntKind.bits]
theorem wrap_u64s {n : Int} (h : 0 ≤ n) (h2 : n < 18446744073709551616) : IntKind.u64.wrap n = n := by rw [wrap_u64]; omega
theorem wrap_u8 {n : Int} (h : 0 ≤ n) (h2 : n < 256) : IntKind.u8.wrap n = n := by simp [IntKind.wrap, IntKind.signed, IntKind.bits]; omega

def lenTab : List Nat := [0, 1, 2, 2, 3, 3, 3, 3, 4, 4, 4, 4, 4, 4, 4, 4] ++ List.replicate 16 5 ++ List.replicate 32 6 ++ List.replicate 64 7 ++ List.replicate 128 8

theorem bitsLen_div (n k : Nat) (h : 2 ^ k ≤ n) : Sort.bitsLen n = k + Sort.bitsLen (n / 2 ^ k) := by
  apply Nat.le_antisymm
  · rw [Sort.bitsLen_le_iff]
    have := Sort.lt_two_pow_bitsLen (n / 2 ^ k)
    rw [Nat.pow_add, Nat.mul_comm]
    exact (Nat.div_lt_iff_lt_mul (Nat.two_pow_pos k)).1 this
  · have h1 := Sort.lt_two_pow_bitsLen n
    have hk : k < Sort.bitsLen n := by
      rcases Nat.lt_or_ge k (Sort.bitsLen n) with q | q
      · exact q
      · have := Nat.pow_le_pow_right (show 0 < 2 by omega) q
        omega
    have : Sort.bitsLen (n / 2 ^ k) ≤ Sort.bitsLen n - k := by
      rw [Sort.bitsLen_le_iff, Nat.div_lt_iff_lt_mul (Nat.two_pow_pos k), ← Nat.pow_add]
      have : Sort.bitsLen n - k + k = Sort.bitsLen n := by omega
      rw [this]; exact h1
    omega

theorem lenTab_at : ∀ n, n < 256 → ((bs lenTab).data.toList.getD n 0).toNat = Sort.bitsLen n := by
  have h : (List.range 256).all (fun n => ((bs lenTab).data.toList.getD n 0).toNat == Sort.bitsLen n) = true := by decide +kernel
  intro n hn
  have := List.all_eq_true.1 h n (List.mem_range.2 hn)
  simpa using this

def tabS : ByteArray := bs lenTab
theorem tabS_at (n : Nat) (h : n < 256) : (tabS.data.toList.getD n 0).toNat = Sort.bitsLen n := lenTab_at n h
theorem tabS_sz : tabS.size = 256 := by decide +kernel

theorem c253r10_eq : c253r10 = [(Seg.one (AOper.mk (some 19) (AStep.op (AOp.mv (X.tmp 2))) none)), (Seg.one (AOper.mk (some 20) (AStep.op (AOp.mv (X.tmp 0))) none)), (Seg.one (AOper.mk (some 21) (AStep.op (AOp.cvInt .u8 (X.tmp 20))) none)), (Seg.one (AOper.mk (some 22) (AStep.op (AOp.ixs (X.con (D.one (A.t (T.str tabS)))) (X.tmp 21))) none)), (Seg.one (AOper.mk (some 23) (AStep.op (AOp.cvInt .i64 (X.tmp 22))) none)), (Seg.one (AOper.mk (some 24) (AStep.op (AOp.bin .add false (X.tmp 19) (X.tmp 23))) none)), (Seg.one (AOper.mk (some 2) (AStep.op (AOp.mv (X.tmp 24))) none))] := rfl

theorem len_end {n0 v s nx : Nat} {tm : Nat → D} (h0 : tm 0 = .one (.t (.int .u64 v))) (h2 : tm 2 = .one (.t (I s))) (hv : v < 256) (hs : s ≤ 100) (he : n0 = s + Sort.bitsLen v) :
    awpK Tryz.prog 25 (pureEnd [.tmp 2] (.one (.t (I n0)))) (.seq (.region 10 false 7 c253r10) .ret) [] ⟨tm, noHp, nx⟩ := by
  have e1 : IntKind.u8.wrap (v : Int) = v := wrap_u8 (by omega) (by omega)
  have hb : Sort.bitsLen v ≤ 8 := (Sort.bitsLen_le_iff v 8).2 (by omega)
  have e2 : IntKind.i64.wrap (Sort.bitsLen v : Int) = Sort.bitsLen v := wrap_i64 (by omega) (by omega)
  have e3 : IntKind.i64.wrap ((s : Int) + Sort.bitsLen v) = (n0 : Int) := nat_wrap _ (by omega) (by omega)
  have e4 := tabS_at v hv
  have hv' : (v : Int) < 256 := by omega
  simp [List.getD_eq_getElem?_getD] at e4
  have g4 : ∀ hh, (tabS.data[v]'hh).toNat = Sort.bitsLen v := fun hh => by rw [Array.getElem?_eq_getElem hh] at e4; simpa using e4
  simp [c253r10_eq, h0, h2, D.cvInt, D.ixs, D.ixsOk, e1, tabS_sz, e2, e3, g4, hv, hv', pureEnd]

theorem bitsLen64P (n : Nat) (hn : n ≤ 100000) : PSp Tryz.prog 253 [.one (.t (.int .u64 n))] (.one (.t (I (Sort.bitsLen n)))) := by
  refine k253.pureK (by simp) rfl rfl ?_
  have b0 : ¬ (4294967296 : Int) ≤ n := by omega
  by_cases h1 : 65536 ≤ n
  · have h1' : (65536 : Int) ≤ n := by omega
    obtain ⟨q, hq⟩ : ∃ q : Nat, q = n / 65536 := ⟨_, rfl⟩
    have e1 : (n : Int).fdiv (2 ^ min 16 IntKind.u64.bits) = (q : Int) := by
      show (n : Int).fdiv 65536 = q
      rw [Int.fdiv_eq_ediv_of_nonneg _ (by omega)]; omega
    have q1 : ¬ (256 : Int) ≤ q := by omega
    have := bitsLen_div n 16 (by omega)
    have w16 : IntKind.i64.wrap 16 = 16 := wrap_i64 (by omega) (by omega)
    simp [c253, c253r0, c253r1, c253r4, c253r5, c253r6, c253r7, b0, h1', e1, q1, w16]
    exact len_end (v := q) (s := 16) rfl rfl (by omega) (by omega) (by rw [this, hq])
  · have h1' : ¬ (65536 : Int) ≤ n := by omega
    by_cases h2 : 256 ≤ n
    · have h2' : (256 : Int) ≤ n := by omega
      obtain ⟨q, hq⟩ : ∃ q : Nat, q = n / 256 := ⟨_, rfl⟩
      have e1 : (n : Int).fdiv (2 ^ min 8 IntKind.u64.bits) = (q : Int) := by
        show (n : Int).fdiv 256 = q
        rw [Int.fdiv_eq_ediv_of_nonneg _ (by omega)]; omega
      have := bitsLen_div n 8 (by omega)
      have w8 : IntKind.i64.wrap 8 = 8 := wrap_i64 (by omega) (by omega)
      simp [c253, c253r0, c253r1, c253r4, c253r7, c253r8, c253r9, b0, h1', h2', e1, w8]
      exact len_end (v := q) (s := 8) rfl rfl (by omega) (by omega) (by rw [this, hq])
    · have h2' : ¬ (256 : Int) ≤ n := by omega
      simp [c253, c253r0, c253r1, c253r4, c253r7, b0, h1', h2']
      exact len_end (v := n) (s := 0) rfl rfl (by omega) (by omega) (by omega)

theorem bitsLenP (n : Nat) (hn : n ≤ 100000) : PSp Tryz.prog 208 [.one (.t (.int .u64 n))] (.one (.t (I (Sort.bitsLen n)))) := by
  refine k208.pureK (by simp) rfl rfl ?_
  simp [c208, c208r0, c208r2]
  refine callK.pure (bitsLen64P n hn) (by simp) (by simp) ?_
  simp [pureEnd]

theorem nextPowP (n : Nat) (hn : n ≤ 100000) : PSp Tryz.prog 276 [.one (.t (I n))] (.one (.t (.int .u64 (1 <<< Sort.bitsLen n : Nat)))) := by
  refine k276.pureK (by simp) rfl rfl ?_
  have e1 : IntKind.u64.wrap (n : Int) = n := wrap_u64s (by omega) (by omega)
  simp [c276, c276r0, c276r1, D.cvInt, D.isInt, e1]
  refine callK.pure (bitsLenP n hn) (by simp) (by simp) ?_
  have hb : Sort.bitsLen n ≤ 17 := (Sort.bitsLen_le_iff n 17).2 (by omega)
  have hm : min (Sort.bitsLen n) IntKind.u64.bits = Sort.bitsLen n := by show min _ 64 = _; omega
  have hp : (2 : Nat) ^ Sort.bitsLen n ≤ 2 ^ 17 := Nat.pow_le_pow_right (by omega) hb
  have e2 : IntKind.u64.wrap (2 ^ Sort.bitsLen n : Int) = ((1 <<< Sort.bitsLen n : Nat) : Int) := by
    have e : (2 ^ Sort.bitsLen n : Int) = ((2 ^ Sort.bitsLen n : Nat) : Int) := by simp
    rw [Nat.shiftLeft_eq, Nat.one_mul, e]
    generalize 2 ^ Sort.bitsLen n = m at hp
    exact wrap_u64s (by omega) (by omega)
  simp [pureEnd, hm, e2]
end Go.Proofs.YtdpbobkcbakpfaaGreatDoor

namespace Go.Proofs.YtdpbobkcbakpfaaGreatDoor
open Go Go.Ab
set_option maxRecDepth 100000

/-- A variable of the call's own that holds an unsigned number. -/
def putU (h : Hp) (id ver : Nat) (s : Nat) : Hp := h.set id (.arr ver false 1 [[.t (.int .u64 s)]])

theorem putU_putU {h : Hp} {id ver s t : Nat} : putU (putU h id ver s) id ver t = putU h id ver t := funext fun j => by
  simp only [putU, Hp.set]; split <;> rfl

theorem HeapOk.putU {h : Hp} {n id ver s : Nat} (ho : HeapOk h n) (hid : id < n) : HeapOk (putU h id ver s) n := by
  refine ⟨fun j hj => ?_, fun j o hj => ?_⟩
  · simp only [YtdpbobkcbakpfaaGreatDoor.putU, Hp.set]; rw [if_neg (by omega)]; exact ho.above j hj
  · simp only [YtdpbobkcbakpfaaGreatDoor.putU, Hp.set] at hj
    split at hj
    · simp only [Option.some.injEq] at hj; subst hj
      simp [O.below, A.below]
    · exact ho.below j o hj

theorem xorU {x y z : Nat} (hx : x < 18446744073709551616) (hy : y < 18446744073709551616) (hz : z = x ^^^ y) : IntKind.u64.wrap ((x % 2 ^ IntKind.u64.bits ^^^ y % 2 ^ IntKind.u64.bits : Nat) : Int) = (z : Int) := by
  have e : ∀ z : Nat, z < 18446744073709551616 → z % 2 ^ IntKind.u64.bits = z := fun z hz => Nat.mod_eq_of_lt (show z < 2 ^ 64 from hz)
  rw [e x hx, e y hy, hz]
  have : x ^^^ y < 2 ^ 64 := Nat.xor_lt_two_pow hx hy
  exact wrap_u64s (by omega) (by omega)

theorem nextP (h : Hp) (n0 bx ver s : Nat) (ho : HeapOk h n0) (hbx : bx < n0) (hs : s < 18446744073709551616) :
    ISp Tryz.prog 277 (putU h bx ver s) n0 [.one (.ptr ⟨bx, ver, 1, 0, 0⟩)] (.one (.t (.int .u64 (Sort.xorNextN s)))) (putU h bx ver (Sort.xorNextN s)) := by
  refine k277.ispK (by simp) ?_
  obtain ⟨m1, d1⟩ : ∃ m1 : Nat, m1 = s * 8192 % 18446744073709551616 := ⟨_, rfl⟩
  obtain ⟨x1, e1⟩ : ∃ x1 : Nat, x1 = s ^^^ m1 := ⟨_, rfl⟩
  have b1 : x1 < 18446744073709551616 := by rw [e1]; exact Nat.xor_lt_two_pow (n := 64) hs (by omega)
  obtain ⟨m2, d2⟩ : ∃ m2 : Nat, m2 = x1 / 128 := ⟨_, rfl⟩
  obtain ⟨x2, e2⟩ : ∃ x2 : Nat, x2 = x1 ^^^ m2 := ⟨_, rfl⟩
  have b2 : x2 < 18446744073709551616 := by rw [e2]; exact Nat.xor_lt_two_pow (n := 64) b1 (by omega)
  obtain ⟨m3, d3⟩ : ∃ m3 : Nat, m3 = x2 * 131072 % 18446744073709551616 := ⟨_, rfl⟩
  obtain ⟨x3, e3⟩ : ∃ x3 : Nat, x3 = x2 ^^^ m3 := ⟨_, rfl⟩
  have hx : Sort.xorNextN s = x3 := by rw [e3, d3, e2, d2, e1, d1]; rfl
  have s1 : IntKind.u64.wrap ((s : Int) * 2 ^ min 13 IntKind.u64.bits) = (m1 : Int) := by
    show IntKind.u64.wrap ((s : Int) * 8192) = _
    rw [wrap_u64]; omega
  have s2 : (x1 : Int).fdiv (2 ^ min 7 IntKind.u64.bits) = (m2 : Int) := by
    show (x1 : Int).fdiv 128 = _
    rw [Int.fdiv_eq_ediv_of_nonneg _ (by omega)]; omega
  have s3 : IntKind.u64.wrap ((x2 : Int) * 2 ^ min 17 IntKind.u64.bits) = (m3 : Int) := by
    show IntKind.u64.wrap ((x2 : Int) * 131072) = _
    rw [wrap_u64]; omega
  have y1 := xorU (x := s) (y := m1) hs (by omega) e1
  have y2 := xorU (x := x1) (y := m2) b1 (by omega) e2
  have y3 := xorU (x := x2) (y := m3) b2 (by omega) e3
  rw [hx]
  simp [c277, c277r0, c277r1, c277r2, c277r3, c277r4, s1, s2, s3, y1, y2, y3, putU]
  refine ⟨.inr rfl, ⟨by simp, by simp⟩, by simp, by simp, by simp, fun j hj => ?_, (HeapOk.putU ho hbx).above, (HeapOk.putU ho hbx).below⟩
  simp only [Hp.set]; split <;> rfl
end Go.Proofs.YtdpbobkcbakpfaaGreatDoor

namespace Go.Proofs.YtdpbobkcbakpfaaGreatDoor
open Go Go.Ab
set_option maxRecDepth 100000

theorem put_comm {h : Hp} {id ver bx v s : Nat} {e : Array Sp} (hne : id ≠ bx) : putD' (putU h bx v s) id ver e = putU (putD' h id ver e) bx v s := funext fun j => by
  simp only [putD', putU, Hp.set]; split <;> split <;> simp_all

def stp (l m i0 a : Nat) (d : Array Sp) : Nat → UInt64 × Array Sp
  | 0 => (UInt64.ofNat l, d)
  | t + 1 => Sort.breakStep a l m (stp l m i0 a d t) (i0 + t)

theorem andU {x y z : Nat} (hx : x < 18446744073709551616) (hy : y < 18446744073709551616) (hz : z = x &&& y) : IntKind.u64.wrap ((((x : Int) % 2 ^ IntKind.u64.bits).toNat &&& ((y : Int) % 2 ^ IntKind.u64.bits).toNat : Nat) : Int) = (z : Int) := by
  have e : ∀ z : Nat, z < 18446744073709551616 → ((z : Int) % 2 ^ IntKind.u64.bits).toNat = z := fun z hz => by
    show ((z : Int) % 2 ^ 64).toNat = z
    omega
  rw [e x hx, e y hy, hz]
  have : x &&& y ≤ y := Nat.and_le_right
  exact wrap_u64s (by omega) (by omega)

theorem breakPatternsP (h : Hp) (n0 id ver a b : Nat) (tight : Bool) (d : Array Sp) (hd : Data h id ver d) (ho : HeapOk h n0) (hid : id < n0) (hab : a + 8 ≤ b) (hb : b ≤ d.size) (hsz : d.size ≤ 100000) (c : D) (hc : c.closed = true) :
    ISp Tryz.prog 246 h n0 [.one (.ref id ver 0 d.size 2 tight), .one (.t (I a)), .one (.t (I b)), c] (.tup []) (putD' h id ver (Sort.breakPatterns d a b)) := by
  refine k246.ispK (by simp) ?_
  obtain ⟨l, hl⟩ : ∃ l : Nat, l = b - a := ⟨_, rfl⟩
  obtain ⟨q, hq⟩ : ∃ q : Nat, q = l / 4 := ⟨_, rfl⟩
  obtain ⟨i0, hi0⟩ : ∃ i : Nat, i = a + q * 2 - 1 := ⟨_, rfl⟩
  obtain ⟨mo, hmo⟩ : ∃ m : Nat, m = 1 <<< Sort.bitsLen l := ⟨_, rfl⟩
  have hm2 : 0 < mo ∧ mo ≤ 2 * l := by
    have := Sort.two_pow_bitsLen_le (n := l) (by omega)
    have h2 := Nat.two_pow_pos (Sort.bitsLen l)
    rw [hmo, Nat.shiftLeft_eq, Nat.one_mul]; omega
  have w1 : IntKind.i64.wrap ((b : Int) - a) = (l : Int) := nat_wrap _ (by omega) (by omega)
  have w2 : IntKind.i64.wrap ((l : Int) / 4) = (q : Int) := nat_wrap _ (by omega) (by omega)
  have w4 : IntKind.i64.wrap ((q : Int) * 2) = (q : Int) * 2 := wrap_i64 (by omega) (by omega)
  have w5 : IntKind.i64.wrap ((a : Int) + q * 2) = (a : Int) + q * 2 := wrap_i64 (by omega) (by omega)
  have w6 : IntKind.i64.wrap ((a : Int) + q * 2 - 1) = (i0 : Int) := nat_wrap _ (by omega) (by omega)
  have w7 : IntKind.i64.wrap ((a : Int) + q * 2 + 1) = ((i0 + 2 : Nat) : Int) := nat_wrap _ (by omega) (by omega)
  have w8 : IntKind.u64.wrap (l : Int) = (l : Int) := wrap_u64s (by omega) (by omega)
  have hl8 : 8 ≤ (l : Int) := by omega
  have hbp : Sort.breakPatterns d a b = (stp l mo i0 a d 3).2 := by
    rw [Sort.breakPatterns, if_pos (show b - a ≥ 8 by omega), ← hl, ← hq, ← hi0, ← hmo]
    rfl
  have hmo1 : IntKind.u64.wrap ((mo : Int) - 1) = ((mo - 1 : Nat) : Int) := by rw [wrap_u64s (by omega) (by omega)]; omega
  simp [c246, c246r0, c246r1, c246r2, c246r3, w1, hl8, D.cvInt, D.isInt, w8]
  refine callK.pure (nextPowP l (by omega)) (by simp) (by simp) ?_
  rw [← hmo]
  simp [c246r4, w2, w4, w5, w6]
  obtain ⟨bx, hbx⟩ : ∃ bx : Nat, bx = n0 + 4 + 2 + 2 := ⟨_, rfl⟩
  have hne : id ≠ bx := by omega
  have hsz' : ∀ t, t ≤ 3 → Keeps d (stp l mo i0 a d t).2 := by
    intro t
    induction t with
    | zero => exact fun _ => .refl _
    | succ t ih =>
      intro ht
      have k := ih (by omega)
      refine k.trans ?_
      show Keeps _ (Sort.swp _ _ _)
      refine Keeps.swp (by rw [k.1]; omega) ?_
      rw [k.1]
      have hand : (Sort.xorNext (stp l mo i0 a d t).1).toNat &&& (mo - 1) ≤ mo - 1 := Nat.and_le_right
      split <;> omega
  refine W.loopK (fun k st => ∃ t : Nat, k = 3 - t ∧ t ≤ 3 ∧ st.heap = putD' (putU h bx 0 (stp l mo i0 a d t).1.toNat) id ver (stp l mo i0 a d t).2 ∧ n0 + 20 ≤ st.nx ∧
    st.tmps 0 = .one (.ref id ver 0 d.size 2 tight) ∧ st.tmps 1 = .one (.t (I a)) ∧ st.tmps 8 = .one (.t (I l)) ∧ st.tmps 9 = .one (.ptr ⟨bx, 0, 1, 0, 0⟩) ∧ st.tmps 10 = .one (.t (.int .u64 mo)) ∧ st.tmps 11 = .one (.t (I ((i0 + t : Nat) : Int)))) 3
    ⟨0, rfl, by omega, ?_, by simp <;> omega, by simp, by simp, by simp, by simp [hbx], by simp, by simp⟩ ?_
  · have e0 : (stp l mo i0 a d 0).1.toNat = l := by show (UInt64.ofNat l).toNat = l; rw [UInt64.toNat_ofNat']; omega
    rw [put_comm hne, e0]
    show _ = putU (putD' h id ver d) bx 0 l
    rw [hd.self, ← hbx]
    funext j
    simp only [putU, Hp.set]; split <;> rfl
  rintro k st ⟨t, hk, ht, hh, hnx, h0, h1, h8, h9, h10, h11⟩
  by_cases h3 : t = 3
  · subst h3
    have hlt : ¬ ((i0 + 3 : Nat) : Int) ≤ ((i0 + 2 : Nat) : Int) := by omega
    simp only [Int.natCast_add] at hlt w7 h11
    simp at hlt w7 h11
    simp [c246b11, c246r5, h1, h8, h11, w2, w4, w5, w7]
    have e : ∀ j, j < n0 → st.heap j = putD' h id ver (Sort.breakPatterns d a b) j := fun j hj => by
      rw [hh, hbp, put_comm hne]
      simp only [putU, Hp.set]; rw [if_neg (by omega)]
    exact ⟨.inl rfl, ⟨by simp, by simp⟩, by simp [resD, D.frzOk], by simp [resD, D.frz], by simp [resD, D.ids], e, (HeapOk.put ho hid).above, (HeapOk.put ho hid).below⟩
  · have ke := hsz' t (by omega)
    have hstep : stp l mo i0 a d (t + 1) = Sort.breakStep a l mo (stp l mo i0 a d t) (i0 + t) := rfl
    generalize stp l mo i0 a d t = re at *
    obtain ⟨r, e⟩ := re
    simp only at hh ke
    obtain ⟨R, hR⟩ : ∃ R : Nat, R = Sort.xorNextN r.toNat := ⟨_, rfl⟩
    have hr64 : r.toNat < 18446744073709551616 := r.toNat_lt
    have hRb : R < 18446744073709551616 := by rw [hR]; exact Sort.xorNextN_lt _ hr64
    obtain ⟨o1, ho1⟩ : ∃ o1 : Nat, o1 = R &&& (mo - 1) := ⟨_, rfl⟩
    have ho1b : o1 ≤ mo - 1 := by rw [ho1]; exact Nat.and_le_right
    obtain ⟨o2, ho2⟩ : ∃ o2 : Nat, o2 = if o1 ≥ l then o1 - l else o1 := ⟨_, rfl⟩
    have ho2b : o2 < l := by rw [ho2]; split <;> omega
    obtain ⟨ix, hix⟩ : ∃ ix : Nat, ix = i0 + t := ⟨_, rfl⟩
    obtain ⟨p, hp⟩ : ∃ p : Nat, p = a + o2 := ⟨_, rfl⟩
    have hstep2 : stp l mo i0 a d (t + 1) = (Sort.xorNext r, Sort.swp e ix p) := by
      rw [hstep, Sort.breakStep, hp, ho2, ho1, hR, ← hix]
      simp only [Sort.xorNext_toNat]
    rw [← hix] at h11
    have hle : (ix : Int) ≤ ((i0 + 2 : Nat) : Int) := by omega
    have hle' : (ix : Int) ≤ (i0 : Int) + 2 := by omega
    obtain ⟨m1, hm1⟩ : ∃ m1 : Nat, m1 = mo - 1 := ⟨_, rfl⟩
    have a1 := andU (x := R) (y := m1) (z := o1) hRb (by omega) (by rw [hm1]; exact ho1)
    have wo : IntKind.i64.wrap (o1 : Int) = (o1 : Int) := wrap_i64 (by omega) (by omega)
    have hmm : IntKind.u64.wrap ((mo : Int) - 1) = (m1 : Int) := by rw [hm1]; exact hmo1
    have q1 : ix < e.size := by rw [ke.1]; omega
    have q2 : p < e.size := by rw [ke.1]; omega
    have q1' : ix < d.size := by omega
    have q2' : p < d.size := by omega
    have wi : IntKind.i64.wrap ((ix : Int) + 1) = ((ix + 1 : Nat) : Int) := nat_wrap _ (by omega) (by omega)
    have wp : IntKind.i64.wrap ((a : Int) + o2) = (p : Int) := nat_wrap _ (by omega) (by omega)
    simp [c246b11, c246r5, h1, h8, h11, w2, w4, w5, w7, hle']
    simp [c246r7, h9]
    have hx := nextP (putD' h id ver e) (st.nx + 8) bx 0 r.toNat (HeapOk.more (HeapOk.put ho hid) (by omega)) (by omega) hr64
    rw [hh, put_comm hne]
    refine callK.imp hx ?_
    rw [← hR, ← put_comm hne]
    have hg : putD' (putU h bx 0 R) id ver e = putD' (putU h bx 0 R) id ver e := rfl
    have hdat : Data (putD' (putU h bx 0 R) id ver e) id ver e := data_put
    have hln : ((putD' (putU h bx 0 R) id ver e).rows id).length = e.size := by rw [hdat.rows]; simp
    have g1 := rowAt hdat q1
    have g2 := rowAt hdat q2
    have c1 : ((putD' (putU h bx 0 R) id ver e).rows id)[ix]? = some (cell e[ix]) := by rw [cellAt hdat q1, getElem!_pos e ix q1]
    have c2 : ((putD' (putU h bx 0 R) id ver e).rows id)[p]? = some (cell e[p]) := by rw [cellAt hdat q2, getElem!_pos e p q2]
    have sh := swap_heap' hg q1 q2
    simp [hln, q2] at sh
    have hRn : (Sort.xorNext r).toNat = R := by rw [Sort.xorNext_toNat, hR]
    generalize putD' (putU h bx 0 R) id ver e = g at *
    simp [h8, h10, hmm, a1, wo, c246r8, D.cvInt]
    have last : ∀ (J : St → Prop) (tm : Nat → D) (nx : Nat), st.nx ≤ nx → tm 0 = st.tmps 0 → tm 1 = st.tmps 1 → tm 8 = st.tmps 8 → tm 9 = st.tmps 9 → tm 10 = st.tmps 10 → tm 11 = st.tmps 11 → tm 12 = .one (.t (I o2)) →
        (∀ st' : St, st'.heap = putD' (putU h bx 0 (stp l mo i0 a d (t + 1)).1.toNat) id ver (stp l mo i0 a d (t + 1)).2 → n0 + 20 ≤ st'.nx → st'.tmps 0 = .one (.ref id ver 0 d.size 2 tight) → st'.tmps 1 = .one (.t (I a)) → st'.tmps 8 = .one (.t (I l)) →
          st'.tmps 9 = .one (.ptr ⟨bx, 0, 1, 0, 0⟩) → st'.tmps 10 = .one (.t (.int .u64 mo)) → st'.tmps 11 = .one (.t (I ((ix + 1 : Nat) : Int))) → J st') →
        segWP Tryz.prog true nx c246r10 (regK (kont Tryz.prog 67 (impEnd [] (D.tup []) (putD' h id ver (Sort.breakPatterns d a b)) n0) [KF.blk 1, KF.thn (ACode.region 6 false 3 c246r6), KF.post J, KF.blk 0]) (nx + 20)) 0 tm g := by
      intro J tm nx hnx2 z0 z1 z8 z9 z10 z11 z12 hJ
      rw [h0] at z0; rw [h1] at z1; rw [h8] at z8; rw [h9] at z9; rw [h10] at z10; rw [h11] at z11
      simp [c246r10, c246r6, z0, z1, z11, z12, wi, wp, hdat.alive, hdat.sz, hdat.open_, hln, g1, g2, q1, q2, q1', q2', take_cell, cell_len]
      refine ⟨good_cell _, good_cell _, hJ _ ?_ (by simp; omega) (by simp [z0]) (by simp [z1]) (by simp [z8]) (by simp [z9]) (by simp [z10]) (by simp)⟩
      rw [sh, hstep2, ← hRn]
    have goOn : ∀ st' : St, st'.heap = putD' (putU h bx 0 (stp l mo i0 a d (t + 1)).1.toNat) id ver (stp l mo i0 a d (t + 1)).2 → n0 + 20 ≤ st'.nx → st'.tmps 0 = .one (.ref id ver 0 d.size 2 tight) → st'.tmps 1 = .one (.t (I a)) → st'.tmps 8 = .one (.t (I l)) →
          st'.tmps 9 = .one (.ptr ⟨bx, 0, 1, 0, 0⟩) → st'.tmps 10 = .one (.t (.int .u64 mo)) → st'.tmps 11 = .one (.t (I ((ix + 1 : Nat) : Int))) → ∃ k', k' < k ∧ ∃ t, k' = 3 - t ∧ t ≤ 3 ∧ st'.heap = putD' (putU h bx 0 (stp l mo i0 a d t).1.toNat) id ver (stp l mo i0 a d t).2 ∧ n0 + 20 ≤ st'.nx ∧
          st'.tmps 0 = .one (.ref id ver 0 d.size 2 tight) ∧ st'.tmps 1 = .one (.t (I a)) ∧ st'.tmps 8 = .one (.t (I l)) ∧ st'.tmps 9 = .one (.ptr ⟨bx, 0, 1, 0, 0⟩) ∧ st'.tmps 10 = .one (.t (.int .u64 mo)) ∧ st'.tmps 11 = .one (.t (I ((i0 + t : Nat) : Int))) := by
      intro st' y y1 y2 y3 y4 y5 y6 y7
      exact ⟨3 - (t + 1), by omega, t + 1, rfl, by omega, y, y1, y2, y3, y4, y5, y6, by rw [y7, hix]; rfl⟩
    by_cases hc : l ≤ o1
    · have hcI : (l : Int) ≤ o1 := by omega
      have ws : IntKind.i64.wrap ((o1 : Int) - l) = (o2 : Int) := nat_wrap _ (by rw [ho2, if_pos hc]; omega) (by omega)
      simp [hc, Nat.not_lt.2 hc, c246r9, h8, ws]
      exact last _ _ _ (by omega) (by simp) (by simp) (by simp) (by simp) (by simp) (by simp) (by simp) (fun st' y y1 y2 y3 y4 y5 y6 y7 => by simpa using goOn st' y y1 y2 y3 y4 y5 y6 y7)
    · have hcI : ¬ (l : Int) ≤ o1 := by omega
      have e2 : o2 = o1 := by rw [ho2, if_neg hc]
      simp [hc, Nat.not_le.1 hc]
      exact last _ _ _ (by omega) (by simp) (by simp) (by simp) (by simp) (by simp) (by simp) (by simp [e2]) (fun st' y y1 y2 y3 y4 y5 y6 y7 => by simpa using goOn st' y y1 y2 y3 y4 y5 y6 y7)
end Go.Proofs.YtdpbobkcbakpfaaGreatDoor

namespace Go.Proofs.YtdpbobkcbakpfaaGreatDoor
open Go Go.Ab
set_option maxRecDepth 100000

theorem up251a {n : Nat} {A : Exit → St → Prop} {ks : List KF} (id ver a i j : Nat) (tight : Bool) (h : Hp) (e : Array Sp) (hsz : e.size ≤ 100000) (hse : ∀ x ∈ e, small x) (st : St) (hh : st.heap = putD' h id ver e)
    (h0 : st.tmps 0 = .one (.ref id ver 0 e.size 2 tight)) (h1 : st.tmps 1 = .one (.t (I a))) (h4 : st.tmps 4 = .one (.fn 161 [])) (hti : st.tmps 12 = .one (.t (I i))) (htj : st.tmps 13 = .one (.t (I j))) (ha : a < e.size) (hai : a < i) (hj : j < e.size) (p : Sp → Bool) (hp : p = (fun x => ltS x e[a]!))
    (K : ∀ st' : St, st'.heap = st.heap → st.nx ≤ st'.nx → st'.tmps 0 = st.tmps 0 → st'.tmps 1 = st.tmps 1 → st'.tmps 2 = st.tmps 2 → st'.tmps 3 = st.tmps 3 → st'.tmps 4 = st.tmps 4 → st'.tmps 13 = st.tmps 13 → st'.tmps 12 = .one (.t (I (Sort.scanUp p e j i : Nat))) → retK Tryz.prog n A ks .normal st') :
    W Tryz.prog n (.loop c251b5) (kont Tryz.prog n A (.blk 0 :: ks)) st := by
  refine W.loopK (fun k st1 => ∃ x : Nat, k = j + 1 - x ∧ Sort.scanUp p e j x = Sort.scanUp p e j i ∧ st1.heap = st.heap ∧ st.nx ≤ st1.nx ∧ st1.tmps 0 = st.tmps 0 ∧ st1.tmps 1 = st.tmps 1 ∧ st1.tmps 2 = st.tmps 2 ∧ st1.tmps 3 = st.tmps 3 ∧ st1.tmps 4 = st.tmps 4 ∧ st1.tmps 13 = st.tmps 13 ∧ st1.tmps 12 = .one (.t (I x))) (j + 1 - i) ⟨i, rfl, rfl, rfl, Nat.le_refl _, rfl, rfl, rfl, rfl, rfl, rfl, hti⟩ ?_
  rintro k st1 ⟨x, hk, hs, hh1, hn1, e0, e1, e2, e3, e4, e13, em⟩
  have hdat : Data st1.heap id ver e := by rw [hh1, hh]; exact data_put
  rw [h0] at e0; rw [h1] at e1; rw [h4] at e4; rw [htj] at e13
  by_cases hle : x ≤ j
  · have hx : x < e.size := by omega
    have hleI : (x : Int) ≤ j := by omega
    have hln : (st1.heap.rows id).length = e.size := by rw [hdat.rows]; simp
    have g1 := rowAt hdat hx
    have g2 := rowAt hdat ha
    have sx : small e[x] := hse _ (Array.getElem_mem _)
    have sa : small e[a] := hse _ (Array.getElem_mem _)
    have hw : IntKind.i64.wrap ((x : Int) + 1) = ((x + 1 : Nat) : Int) := nat_wrap _ (by omega) (by omega)
    have hstep : Sort.scanUp p e j x = if ltS e[x] e[a] = true then Sort.scanUp p e j (x + 1) else x := by
      rw [Sort.scanUp, hp]; simp [hle, getElem!_pos e x hx, getElem!_pos e a ha]
    simp [c251b5, c251r3, e0, e1, e4, e13, em, hleI, hdat.alive, hdat.sz, hln, g1, g2, hx, ha, take_cell]
    refine ⟨161, [], ⟨rfl, rfl⟩, callable161, ?_⟩
    refine callK.draw (cmpP e[x] e[a] sx sa) (by simp [cell]) (by simp [cell]) (by simp) ?_
    by_cases hlt : ltS e[x] e[a] = true
    · have hlt' : e[x].1 - e[a].1 < 0 := by simp [ltS] at hlt; omega
      have hnx : Sort.scanUp p e j (x + 1) = Sort.scanUp p e j i := by rw [← hs, hstep]; simp [hlt]
      simp [hlt', c251r4, em, hw]
      exact ⟨_, by omega, x + 1, rfl, by rw [← hs, hstep]; simp [hlt], hh1, by omega, by simp [e0, h0], by simp [e1, h1], by simp [e2], by simp [e3], by simp [e4, h4], by simp [e13, htj], rfl⟩
    · have hlt' : ¬ e[x].1 - e[a].1 < 0 := by simp [ltS] at hlt; omega
      simp [hlt']
      exact K _ (by simp [hh1]) (by simp; omega) (by simp [e0, h0]) (by simp [e1, h1]) (by simp [e2]) (by simp [e3]) (by simp [e4, h4]) (by simp [e13, htj]) (by rw [← hs, hstep]; simp [em, hlt])
  · have hleI : ¬ (x : Int) ≤ j := by omega
    have hstop : Sort.scanUp p e j x = x := by
      rw [Sort.scanUp, if_neg]; simp [hle]
    simp [c251b5, c251r3, e0, e1, e4, e13, em, hleI]
    exact K _ (by simp [hh1]) (by simp; omega) (by simp [e0, h0]) (by simp [e1, h1]) (by simp [e2]) (by simp [e3]) (by simp [e4, h4]) (by simp [e13, htj]) (by rw [← hs, hstop]; simp [em])

theorem down251a {n : Nat} {A : Exit → St → Prop} {ks : List KF} (id ver a i j : Nat) (tight : Bool) (h : Hp) (e : Array Sp) (hsz : e.size ≤ 100000) (hse : ∀ x ∈ e, small x) (st : St) (hh : st.heap = putD' h id ver e)
    (h0 : st.tmps 0 = .one (.ref id ver 0 e.size 2 tight)) (h1 : st.tmps 1 = .one (.t (I a))) (h4 : st.tmps 4 = .one (.fn 161 [])) (hti : st.tmps 12 = .one (.t (I i))) (htj : st.tmps 13 = .one (.t (I j))) (ha : a < e.size) (hai : a < i) (hj : j < e.size) (p : Sp → Bool) (hp : p = (fun x => !ltS x e[a]!))
    (K : ∀ st' : St, st'.heap = st.heap → st.nx ≤ st'.nx → st'.tmps 0 = st.tmps 0 → st'.tmps 1 = st.tmps 1 → st'.tmps 2 = st.tmps 2 → st'.tmps 3 = st.tmps 3 → st'.tmps 4 = st.tmps 4 → st'.tmps 12 = st.tmps 12 → st'.tmps 13 = .one (.t (I (Sort.scanDown p e i j : Nat))) → retK Tryz.prog n A ks .normal st') :
    W Tryz.prog n (.loop c251b8) (kont Tryz.prog n A (.blk 2 :: ks)) st := by
  refine W.loopK (fun k st1 => ∃ x : Nat, k = x + 1 ∧ x ≤ j ∧ Sort.scanDown p e i x = Sort.scanDown p e i j ∧ st1.heap = st.heap ∧ st.nx ≤ st1.nx ∧ st1.tmps 0 = st.tmps 0 ∧ st1.tmps 1 = st.tmps 1 ∧ st1.tmps 2 = st.tmps 2 ∧ st1.tmps 3 = st.tmps 3 ∧ st1.tmps 4 = st.tmps 4 ∧ st1.tmps 12 = st.tmps 12 ∧ st1.tmps 13 = .one (.t (I x))) (j + 1) ⟨j, rfl, Nat.le_refl _, rfl, rfl, Nat.le_refl _, rfl, rfl, rfl, rfl, rfl, rfl, htj⟩ ?_
  rintro k st1 ⟨x, hk, hxj, hs, hh1, hn1, e0, e1, e2, e3, e4, e12, em⟩
  have hdat : Data st1.heap id ver e := by rw [hh1, hh]; exact data_put
  rw [h0] at e0; rw [h1] at e1; rw [h4] at e4; rw [hti] at e12
  by_cases hle : i ≤ x
  · have hx : x < e.size := by omega
    have hleI : (i : Int) ≤ x := by omega
    have hln : (st1.heap.rows id).length = e.size := by rw [hdat.rows]; simp
    have g1 := rowAt hdat hx
    have g2 := rowAt hdat ha
    have sx : small e[x] := hse _ (Array.getElem_mem _)
    have sa : small e[a] := hse _ (Array.getElem_mem _)
    have hw : IntKind.i64.wrap ((x : Int) - 1) = ((x - 1 : Nat) : Int) := nat_wrap _ (by omega) (by omega)
    have hstep : Sort.scanDown p e i x = if ¬ ltS e[x] e[a] = true then Sort.scanDown p e i (x - 1) else x := by
      obtain ⟨y, rfl⟩ : ∃ y, x = y + 1 := ⟨x - 1, by omega⟩
      rw [Sort.scanDown, hp]; simp [hle, getElem!_pos e (y + 1) hx, getElem!_pos e a ha]
    simp [c251b8, c251r5, e0, e1, e4, e12, em, hleI, hdat.alive, hdat.sz, hln, g1, g2, hx, ha, take_cell]
    refine ⟨161, [], ⟨rfl, rfl⟩, callable161, ?_⟩
    refine callK.draw (cmpP e[x] e[a] sx sa) (by simp [cell]) (by simp [cell]) (by simp) ?_
    by_cases hlt : ltS e[x] e[a] = true
    · have hlt' : e[x].1 - e[a].1 < 0 := by simp [ltS] at hlt; omega
      simp [hlt']
      exact K _ (by simp [hh1]) (by simp; omega) (by simp [e0, h0]) (by simp [e1, h1]) (by simp [e2]) (by simp [e3]) (by simp [e4, h4]) (by simp [e12, hti]) (by rw [← hs, hstep]; simp [em, hlt])
    · have hlt' : ¬ e[x].1 - e[a].1 < 0 := by simp [ltS] at hlt; omega
      have hnx : Sort.scanDown p e i (x - 1) = Sort.scanDown p e i j := by rw [← hs, hstep]; simp [hlt]
      simp [hlt', c251r6, em, hw]
      exact ⟨_, by omega, x - 1, rfl, by omega, by rw [← hs, hstep]; simp [hlt], hh1, by omega, by simp [e0, h0], by simp [e1, h1], by simp [e2], by simp [e3], by simp [e4, h4], by simp [e12, hti], rfl⟩
  · have hleI : ¬ (i : Int) ≤ x := by omega
    have hstop : Sort.scanDown p e i x = x := by
      cases x with
      | zero => rfl
      | succ y => rw [Sort.scanDown, if_neg]; simp [hle]
    simp [c251b8, c251r5, e0, e1, e4, e12, em, hleI]
    exact K _ (by simp [hh1]) (by simp; omega) (by simp [e0, h0]) (by simp [e1, h1]) (by simp [e2]) (by simp [e3]) (by simp [e4, h4]) (by simp [e12, hti]) (by rw [← hs, hstop]; simp [em])

theorem up251b {n : Nat} {A : Exit → St → Prop} {ks : List KF} (id ver a i j : Nat) (tight : Bool) (h : Hp) (e : Array Sp) (hsz : e.size ≤ 100000) (hse : ∀ x ∈ e, small x) (st : St) (hh : st.heap = putD' h id ver e)
    (h0 : st.tmps 0 = .one (.ref id ver 0 e.size 2 tight)) (h1 : st.tmps 1 = .one (.t (I a))) (h4 : st.tmps 4 = .one (.fn 161 [])) (hti : st.tmps 12 = .one (.t (I i))) (htj : st.tmps 13 = .one (.t (I j))) (ha : a < e.size) (hai : a < i) (hj : j < e.size) (p : Sp → Bool) (hp : p = (fun x => ltS x e[a]!))
    (K : ∀ st' : St, st'.heap = st.heap → st.nx ≤ st'.nx → st'.tmps 0 = st.tmps 0 → st'.tmps 1 = st.tmps 1 → st'.tmps 2 = st.tmps 2 → st'.tmps 3 = st.tmps 3 → st'.tmps 4 = st.tmps 4 → st'.tmps 13 = st.tmps 13 → st'.tmps 12 = .one (.t (I (Sort.scanUp p e j i : Nat))) → retK Tryz.prog n A ks .normal st') :
    W Tryz.prog n (.loop c251b17) (kont Tryz.prog n A (.blk 6 :: ks)) st := by
  refine W.loopK (fun k st1 => ∃ x : Nat, k = j + 1 - x ∧ Sort.scanUp p e j x = Sort.scanUp p e j i ∧ st1.heap = st.heap ∧ st.nx ≤ st1.nx ∧ st1.tmps 0 = st.tmps 0 ∧ st1.tmps 1 = st.tmps 1 ∧ st1.tmps 2 = st.tmps 2 ∧ st1.tmps 3 = st.tmps 3 ∧ st1.tmps 4 = st.tmps 4 ∧ st1.tmps 13 = st.tmps 13 ∧ st1.tmps 12 = .one (.t (I x))) (j + 1 - i) ⟨i, rfl, rfl, rfl, Nat.le_refl _, rfl, rfl, rfl, rfl, rfl, rfl, hti⟩ ?_
  rintro k st1 ⟨x, hk, hs, hh1, hn1, e0, e1, e2, e3, e4, e13, em⟩
  have hdat : Data st1.heap id ver e := by rw [hh1, hh]; exact data_put
  rw [h0] at e0; rw [h1] at e1; rw [h4] at e4; rw [htj] at e13
  by_cases hle : x ≤ j
  · have hx : x < e.size := by omega
    have hleI : (x : Int) ≤ j := by omega
    have hln : (st1.heap.rows id).length = e.size := by rw [hdat.rows]; simp
    have g1 := rowAt hdat hx
    have g2 := rowAt hdat ha
    have sx : small e[x] := hse _ (Array.getElem_mem _)
    have sa : small e[a] := hse _ (Array.getElem_mem _)
    have hw : IntKind.i64.wrap ((x : Int) + 1) = ((x + 1 : Nat) : Int) := nat_wrap _ (by omega) (by omega)
    have hstep : Sort.scanUp p e j x = if ltS e[x] e[a] = true then Sort.scanUp p e j (x + 1) else x := by
      rw [Sort.scanUp, hp]; simp [hle, getElem!_pos e x hx, getElem!_pos e a ha]
    simp [c251b17, c251r13, e0, e1, e4, e13, em, hleI, hdat.alive, hdat.sz, hln, g1, g2, hx, ha, take_cell]
    refine ⟨161, [], ⟨rfl, rfl⟩, callable161, ?_⟩
    refine callK.draw (cmpP e[x] e[a] sx sa) (by simp [cell]) (by simp [cell]) (by simp) ?_
    by_cases hlt : ltS e[x] e[a] = true
    · have hlt' : e[x].1 - e[a].1 < 0 := by simp [ltS] at hlt; omega
      have hnx : Sort.scanUp p e j (x + 1) = Sort.scanUp p e j i := by rw [← hs, hstep]; simp [hlt]
      simp [hlt', c251r14, em, hw]
      exact ⟨_, by omega, x + 1, rfl, by rw [← hs, hstep]; simp [hlt], hh1, by omega, by simp [e0, h0], by simp [e1, h1], by simp [e2], by simp [e3], by simp [e4, h4], by simp [e13, htj], rfl⟩
    · have hlt' : ¬ e[x].1 - e[a].1 < 0 := by simp [ltS] at hlt; omega
      simp [hlt']
      exact K _ (by simp [hh1]) (by simp; omega) (by simp [e0, h0]) (by simp [e1, h1]) (by simp [e2]) (by simp [e3]) (by simp [e4, h4]) (by simp [e13, htj]) (by rw [← hs, hstep]; simp [em, hlt])
  · have hleI : ¬ (x : Int) ≤ j := by omega
    have hstop : Sort.scanUp p e j x = x := by
      rw [Sort.scanUp, if_neg]; simp [hle]
    simp [c251b17, c251r13, e0, e1, e4, e13, em, hleI]
    exact K _ (by simp [hh1]) (by simp; omega) (by simp [e0, h0]) (by simp [e1, h1]) (by simp [e2]) (by simp [e3]) (by simp [e4, h4]) (by simp [e13, htj]) (by rw [← hs, hstop]; simp [em])

theorem down251b {n : Nat} {A : Exit → St → Prop} {ks : List KF} (id ver a i j : Nat) (tight : Bool) (h : Hp) (e : Array Sp) (hsz : e.size ≤ 100000) (hse : ∀ x ∈ e, small x) (st : St) (hh : st.heap = putD' h id ver e)
    (h0 : st.tmps 0 = .one (.ref id ver 0 e.size 2 tight)) (h1 : st.tmps 1 = .one (.t (I a))) (h4 : st.tmps 4 = .one (.fn 161 [])) (hti : st.tmps 12 = .one (.t (I i))) (htj : st.tmps 13 = .one (.t (I j))) (ha : a < e.size) (hai : a < i) (hj : j < e.size) (p : Sp → Bool) (hp : p = (fun x => !ltS x e[a]!))
    (K : ∀ st' : St, st'.heap = st.heap → st.nx ≤ st'.nx → st'.tmps 0 = st.tmps 0 → st'.tmps 1 = st.tmps 1 → st'.tmps 2 = st.tmps 2 → st'.tmps 3 = st.tmps 3 → st'.tmps 4 = st.tmps 4 → st'.tmps 12 = st.tmps 12 → st'.tmps 13 = .one (.t (I (Sort.scanDown p e i j : Nat))) → retK Tryz.prog n A ks .normal st') :
    W Tryz.prog n (.loop c251b20) (kont Tryz.prog n A (.blk 8 :: ks)) st := by
  refine W.loopK (fun k st1 => ∃ x : Nat, k = x + 1 ∧ x ≤ j ∧ Sort.scanDown p e i x = Sort.scanDown p e i j ∧ st1.heap = st.heap ∧ st.nx ≤ st1.nx ∧ st1.tmps 0 = st.tmps 0 ∧ st1.tmps 1 = st.tmps 1 ∧ st1.tmps 2 = st.tmps 2 ∧ st1.tmps 3 = st.tmps 3 ∧ st1.tmps 4 = st.tmps 4 ∧ st1.tmps 12 = st.tmps 12 ∧ st1.tmps 13 = .one (.t (I x))) (j + 1) ⟨j, rfl, Nat.le_refl _, rfl, rfl, Nat.le_refl _, rfl, rfl, rfl, rfl, rfl, rfl, htj⟩ ?_
  rintro k st1 ⟨x, hk, hxj, hs, hh1, hn1, e0, e1, e2, e3, e4, e12, em⟩
  have hdat : Data st1.heap id ver e := by rw [hh1, hh]; exact data_put
  rw [h0] at e0; rw [h1] at e1; rw [h4] at e4; rw [hti] at e12
  by_cases hle : i ≤ x
  · have hx : x < e.size := by omega
    have hleI : (i : Int) ≤ x := by omega
    have hln : (st1.heap.rows id).length = e.size := by rw [hdat.rows]; simp
    have g1 := rowAt hdat hx
    have g2 := rowAt hdat ha
    have sx : small e[x] := hse _ (Array.getElem_mem _)
    have sa : small e[a] := hse _ (Array.getElem_mem _)
    have hw : IntKind.i64.wrap ((x : Int) - 1) = ((x - 1 : Nat) : Int) := nat_wrap _ (by omega) (by omega)
    have hstep : Sort.scanDown p e i x = if ¬ ltS e[x] e[a] = true then Sort.scanDown p e i (x - 1) else x := by
      obtain ⟨y, rfl⟩ : ∃ y, x = y + 1 := ⟨x - 1, by omega⟩
      rw [Sort.scanDown, hp]; simp [hle, getElem!_pos e (y + 1) hx, getElem!_pos e a ha]
    simp [c251b20, c251r15, e0, e1, e4, e12, em, hleI, hdat.alive, hdat.sz, hln, g1, g2, hx, ha, take_cell]
    refine ⟨161, [], ⟨rfl, rfl⟩, callable161, ?_⟩
    refine callK.draw (cmpP e[x] e[a] sx sa) (by simp [cell]) (by simp [cell]) (by simp) ?_
    by_cases hlt : ltS e[x] e[a] = true
    · have hlt' : e[x].1 - e[a].1 < 0 := by simp [ltS] at hlt; omega
      simp [hlt']
      exact K _ (by simp [hh1]) (by simp; omega) (by simp [e0, h0]) (by simp [e1, h1]) (by simp [e2]) (by simp [e3]) (by simp [e4, h4]) (by simp [e12, hti]) (by rw [← hs, hstep]; simp [em, hlt])
    · have hlt' : ¬ e[x].1 - e[a].1 < 0 := by simp [ltS] at hlt; omega
      have hnx : Sort.scanDown p e i (x - 1) = Sort.scanDown p e i j := by rw [← hs, hstep]; simp [hlt]
      simp [hlt', c251r16, em, hw]
      exact ⟨_, by omega, x - 1, rfl, by omega, by rw [← hs, hstep]; simp [hlt], hh1, by omega, by simp [e0, h0], by simp [e1, h1], by simp [e2], by simp [e3], by simp [e4, h4], by simp [e12, hti], rfl⟩
  · have hleI : ¬ (i : Int) ≤ x := by omega
    have hstop : Sort.scanDown p e i x = x := by
      cases x with
      | zero => rfl
      | succ y => rw [Sort.scanDown, if_neg]; simp [hle]
    simp [c251b20, c251r15, e0, e1, e4, e12, em, hleI]
    exact K _ (by simp [hh1]) (by simp; omega) (by simp [e0, h0]) (by simp [e1, h1]) (by simp [e2]) (by simp [e3]) (by simp [e4, h4]) (by simp [e12, hti]) (by rw [← hs, hstop]; simp [em])

theorem up250 {n : Nat} {A : Exit → St → Prop} {ks : List KF} (id ver a i j : Nat) (tight : Bool) (h : Hp) (e : Array Sp) (hsz : e.size ≤ 100000) (hse : ∀ x ∈ e, small x) (st : St) (hh : st.heap = putD' h id ver e)
    (h0 : st.tmps 0 = .one (.ref id ver 0 e.size 2 tight)) (h1 : st.tmps 1 = .one (.t (I a))) (h4 : st.tmps 4 = .one (.fn 161 [])) (hti : st.tmps 11 = .one (.t (I i))) (htj : st.tmps 12 = .one (.t (I j))) (ha : a < e.size) (hai : a < i) (hj : j < e.size) (p : Sp → Bool) (hp : p = (fun x => !ltS e[a]! x))
    (K : ∀ st' : St, st'.heap = st.heap → st.nx ≤ st'.nx → st'.tmps 0 = st.tmps 0 → st'.tmps 1 = st.tmps 1 → st'.tmps 2 = st.tmps 2 → st'.tmps 3 = st.tmps 3 → st'.tmps 4 = st.tmps 4 → st'.tmps 12 = st.tmps 12 → st'.tmps 11 = .one (.t (I (Sort.scanUp p e j i : Nat))) → retK Tryz.prog n A ks .normal st') :
    W Tryz.prog n (.loop c250b5) (kont Tryz.prog n A (.blk 2 :: ks)) st := by
  refine W.loopK (fun k st1 => ∃ x : Nat, k = j + 1 - x ∧ Sort.scanUp p e j x = Sort.scanUp p e j i ∧ st1.heap = st.heap ∧ st.nx ≤ st1.nx ∧ st1.tmps 0 = st.tmps 0 ∧ st1.tmps 1 = st.tmps 1 ∧ st1.tmps 2 = st.tmps 2 ∧ st1.tmps 3 = st.tmps 3 ∧ st1.tmps 4 = st.tmps 4 ∧ st1.tmps 12 = st.tmps 12 ∧ st1.tmps 11 = .one (.t (I x))) (j + 1 - i) ⟨i, rfl, rfl, rfl, Nat.le_refl _, rfl, rfl, rfl, rfl, rfl, rfl, hti⟩ ?_
  rintro k st1 ⟨x, hk, hs, hh1, hn1, e0, e1, e2, e3, e4, e12, em⟩
  have hdat : Data st1.heap id ver e := by rw [hh1, hh]; exact data_put
  rw [h0] at e0; rw [h1] at e1; rw [h4] at e4; rw [htj] at e12
  by_cases hle : x ≤ j
  · have hx : x < e.size := by omega
    have hleI : (x : Int) ≤ j := by omega
    have hln : (st1.heap.rows id).length = e.size := by rw [hdat.rows]; simp
    have g1 := rowAt hdat hx
    have g2 := rowAt hdat ha
    have sx : small e[x] := hse _ (Array.getElem_mem _)
    have sa : small e[a] := hse _ (Array.getElem_mem _)
    have hw : IntKind.i64.wrap ((x : Int) + 1) = ((x + 1 : Nat) : Int) := nat_wrap _ (by omega) (by omega)
    have hstep : Sort.scanUp p e j x = if ¬ ltS e[a] e[x] = true then Sort.scanUp p e j (x + 1) else x := by
      rw [Sort.scanUp, hp]; simp [hle, getElem!_pos e x hx, getElem!_pos e a ha]
    simp [c250b5, c250r3, e0, e1, e4, e12, em, hleI, hdat.alive, hdat.sz, hln, g1, g2, hx, ha, take_cell]
    refine ⟨161, [], ⟨rfl, rfl⟩, callable161, ?_⟩
    refine callK.draw (cmpP e[a] e[x] sa sx) (by simp [cell]) (by simp [cell]) (by simp) ?_
    by_cases hlt : ltS e[a] e[x] = true
    · have hlt' : e[a].1 - e[x].1 < 0 := by simp [ltS] at hlt; omega
      simp [hlt']
      exact K _ (by simp [hh1]) (by simp; omega) (by simp [e0, h0]) (by simp [e1, h1]) (by simp [e2]) (by simp [e3]) (by simp [e4, h4]) (by simp [e12, htj]) (by rw [← hs, hstep]; simp [em, hlt])
    · have hlt' : ¬ e[a].1 - e[x].1 < 0 := by simp [ltS] at hlt; omega
      have hnx : Sort.scanUp p e j (x + 1) = Sort.scanUp p e j i := by rw [← hs, hstep]; simp [hlt]
      simp [hlt', c250r4, em, hw]
      exact ⟨_, by omega, x + 1, rfl, by rw [← hs, hstep]; simp [hlt], hh1, by omega, by simp [e0, h0], by simp [e1, h1], by simp [e2], by simp [e3], by simp [e4, h4], by simp [e12, htj], rfl⟩
  · have hleI : ¬ (x : Int) ≤ j := by omega
    have hstop : Sort.scanUp p e j x = x := by
      rw [Sort.scanUp, if_neg]; simp [hle]
    simp [c250b5, c250r3, e0, e1, e4, e12, em, hleI]
    exact K _ (by simp [hh1]) (by simp; omega) (by simp [e0, h0]) (by simp [e1, h1]) (by simp [e2]) (by simp [e3]) (by simp [e4, h4]) (by simp [e12, htj]) (by rw [← hs, hstop]; simp [em])

theorem down250 {n : Nat} {A : Exit → St → Prop} {ks : List KF} (id ver a i j : Nat) (tight : Bool) (h : Hp) (e : Array Sp) (hsz : e.size ≤ 100000) (hse : ∀ x ∈ e, small x) (st : St) (hh : st.heap = putD' h id ver e)
    (h0 : st.tmps 0 = .one (.ref id ver 0 e.size 2 tight)) (h1 : st.tmps 1 = .one (.t (I a))) (h4 : st.tmps 4 = .one (.fn 161 [])) (hti : st.tmps 11 = .one (.t (I i))) (htj : st.tmps 12 = .one (.t (I j))) (ha : a < e.size) (hai : a < i) (hj : j < e.size) (p : Sp → Bool) (hp : p = (fun x => ltS e[a]! x))
    (K : ∀ st' : St, st'.heap = st.heap → st.nx ≤ st'.nx → st'.tmps 0 = st.tmps 0 → st'.tmps 1 = st.tmps 1 → st'.tmps 2 = st.tmps 2 → st'.tmps 3 = st.tmps 3 → st'.tmps 4 = st.tmps 4 → st'.tmps 11 = st.tmps 11 → st'.tmps 12 = .one (.t (I (Sort.scanDown p e i j : Nat))) → retK Tryz.prog n A ks .normal st') :
    W Tryz.prog n (.loop c250b8) (kont Tryz.prog n A (.blk 4 :: ks)) st := by
  refine W.loopK (fun k st1 => ∃ x : Nat, k = x + 1 ∧ x ≤ j ∧ Sort.scanDown p e i x = Sort.scanDown p e i j ∧ st1.heap = st.heap ∧ st.nx ≤ st1.nx ∧ st1.tmps 0 = st.tmps 0 ∧ st1.tmps 1 = st.tmps 1 ∧ st1.tmps 2 = st.tmps 2 ∧ st1.tmps 3 = st.tmps 3 ∧ st1.tmps 4 = st.tmps 4 ∧ st1.tmps 11 = st.tmps 11 ∧ st1.tmps 12 = .one (.t (I x))) (j + 1) ⟨j, rfl, Nat.le_refl _, rfl, rfl, Nat.le_refl _, rfl, rfl, rfl, rfl, rfl, rfl, htj⟩ ?_
  rintro k st1 ⟨x, hk, hxj, hs, hh1, hn1, e0, e1, e2, e3, e4, e11, em⟩
  have hdat : Data st1.heap id ver e := by rw [hh1, hh]; exact data_put
  rw [h0] at e0; rw [h1] at e1; rw [h4] at e4; rw [hti] at e11
  by_cases hle : i ≤ x
  · have hx : x < e.size := by omega
    have hleI : (i : Int) ≤ x := by omega
    have hln : (st1.heap.rows id).length = e.size := by rw [hdat.rows]; simp
    have g1 := rowAt hdat hx
    have g2 := rowAt hdat ha
    have sx : small e[x] := hse _ (Array.getElem_mem _)
    have sa : small e[a] := hse _ (Array.getElem_mem _)
    have hw : IntKind.i64.wrap ((x : Int) - 1) = ((x - 1 : Nat) : Int) := nat_wrap _ (by omega) (by omega)
    have hstep : Sort.scanDown p e i x = if ltS e[a] e[x] = true then Sort.scanDown p e i (x - 1) else x := by
      obtain ⟨y, rfl⟩ : ∃ y, x = y + 1 := ⟨x - 1, by omega⟩
      rw [Sort.scanDown, hp]; simp [hle, getElem!_pos e (y + 1) hx, getElem!_pos e a ha]
    simp [c250b8, c250r5, e0, e1, e4, e11, em, hleI, hdat.alive, hdat.sz, hln, g1, g2, hx, ha, take_cell]
    refine ⟨161, [], ⟨rfl, rfl⟩, callable161, ?_⟩
    refine callK.draw (cmpP e[a] e[x] sa sx) (by simp [cell]) (by simp [cell]) (by simp) ?_
    by_cases hlt : ltS e[a] e[x] = true
    · have hlt' : e[a].1 - e[x].1 < 0 := by simp [ltS] at hlt; omega
      have hnx : Sort.scanDown p e i (x - 1) = Sort.scanDown p e i j := by rw [← hs, hstep]; simp [hlt]
      simp [hlt', c250r6, em, hw]
      exact ⟨_, by omega, x - 1, rfl, by omega, by rw [← hs, hstep]; simp [hlt], hh1, by omega, by simp [e0, h0], by simp [e1, h1], by simp [e2], by simp [e3], by simp [e4, h4], by simp [e11, hti], rfl⟩
    · have hlt' : ¬ e[a].1 - e[x].1 < 0 := by simp [ltS] at hlt; omega
      simp [hlt']
      exact K _ (by simp [hh1]) (by simp; omega) (by simp [e0, h0]) (by simp [e1, h1]) (by simp [e2]) (by simp [e3]) (by simp [e4, h4]) (by simp [e11, hti]) (by rw [← hs, hstep]; simp [em, hlt])
  · have hleI : ¬ (i : Int) ≤ x := by omega
    have hstop : Sort.scanDown p e i x = x := by
      cases x with
      | zero => rfl
      | succ y => rw [Sort.scanDown, if_neg]; simp [hle]
    simp [c250b8, c250r5, e0, e1, e4, e11, em, hleI]
    exact K _ (by simp [hh1]) (by simp; omega) (by simp [e0, h0]) (by simp [e1, h1]) (by simp [e2]) (by simp [e3]) (by simp [e4, h4]) (by simp [e11, hti]) (by rw [← hs, hstop]; simp [em])

end Go.Proofs.YtdpbobkcbakpfaaGreatDoor

namespace Go.Proofs.YtdpbobkcbakpfaaGreatDoor
open Go Go.Ab
set_option maxRecDepth 100000

/-- Where the two scans stop. -/
theorem scans {p q : Sp → Bool} (hq : ∀ x, q x = !p x) {e : Array Sp} {i j : Nat} (hij : i ≤ j + 1) (hi : 0 < i) :
    i ≤ Sort.scanUp p e j i ∧ Sort.scanUp p e j i ≤ j + 1 ∧ Sort.scanDown q e (Sort.scanUp p e j i) j ≤ j ∧ Sort.scanUp p e j i ≤ Sort.scanDown q e (Sort.scanUp p e j i) j + 1 ∧
      (¬ Sort.scanUp p e j i > Sort.scanDown q e (Sort.scanUp p e j i) j → Sort.scanUp p e j i < Sort.scanDown q e (Sort.scanUp p e j i) j) := by
  obtain ⟨a1, a2, a3, a4⟩ := Sort.scanUp_spec p e j _ i rfl
  obtain ⟨b1, b2, b3, b4⟩ := Sort.scanDown_spec q e (Sort.scanUp p e j i) j
  generalize Sort.scanUp p e j i = i2 at *
  generalize Sort.scanDown q e i2 j = j2 at *
  refine ⟨a1, a2 hij, b1, b2 (a2 hij), fun h => ?_⟩
  rcases Nat.lt_or_ge i2 j2 with hlt | hge
  · exact hlt
  · have he : i2 = j2 := by omega
    subst he
    have h1 := a4 (by omega)
    have h2 := b4 (Nat.le_refl _) (by omega)
    rw [hq, h1] at h2
    cases h2

theorem partEqP (h : Hp) (n0 id ver a b pv : Nat) (tight : Bool) (d : Array Sp) (hd : Data h id ver d) (ho : HeapOk h n0) (hid : id < n0) (hab : a < b) (hb : b ≤ d.size) (hpv : pv < d.size) (hsz : d.size ≤ 100000) (hsm : ∀ x ∈ d, small x) :
    ISp Tryz.prog 250 h n0 [.one (.ref id ver 0 d.size 2 tight), .one (.t (I a)), .one (.t (I b)), .one (.t (I pv)), .one (.fn 161 [])] (.one (.t (I (Sort.partitionEqual ltS d a b pv).1))) (putD' h id ver (Sort.partitionEqual ltS d a b pv).2) := by
  refine k250.ispK (by simp) ?_
  have qa : a < d.size := by omega
  have hln : (h.rows id).length = d.size := by rw [hd.rows]; simp
  have g1 := rowAt hd qa
  have g2 := rowAt hd hpv
  have w1 : IntKind.i64.wrap ((a : Int) + 1) = ((a + 1 : Nat) : Int) := nat_wrap _ (by omega) (by omega)
  have w2 : IntKind.i64.wrap ((b : Int) - 1) = ((b - 1 : Nat) : Int) := nat_wrap _ (by omega) (by omega)
  have sh := swap_heap' (h := h) (g := h) (d := d) hd.self.symm qa hpv
  simp [hln, hpv] at sh
  simp [c250, c250r0, c250r1, c250r2, hd.alive, hd.sz, hd.open_, hln, g1, g2, qa, hpv, w1, w2, take_cell, cell_len]
  refine ⟨good_cell _, good_cell _, ?_⟩
  rw [sh]
  have k0 : Keeps d (Sort.swp d a pv) := Keeps.swp qa hpv
  refine W.loopK (fun k st => ∃ (i j : Nat) (e : Array Sp), k = j + 1 - i ∧ a < i ∧ i ≤ j + 1 ∧ j < d.size ∧ Keeps d e ∧ st.heap = putD' h id ver e ∧ Sort.partEqLoop ltS a i j e = Sort.partitionEqual ltS d a b pv ∧
    st.tmps 0 = .one (.ref id ver 0 d.size 2 tight) ∧ st.tmps 1 = .one (.t (I a)) ∧ st.tmps 4 = .one (.fn 161 []) ∧ st.tmps 11 = .one (.t (I i)) ∧ st.tmps 12 = .one (.t (I j))) (b - 1 + 1 - (a + 1))
    ⟨a + 1, b - 1, _, rfl, by omega, by omega, by omega, k0, rfl, rfl, by simp, by simp, by simp, by simp, by simp⟩ ?_
  rintro k st ⟨i, j, e, hk, hai, hij, hjd, he, hh, hout, h0, h1, h4, h11, h12⟩
  rw [Sort.partEqLoop_eq] at hout
  obtain ⟨p, hp⟩ : ∃ p : Sp → Bool, p = fun x => !ltS e[a]! x := ⟨_, rfl⟩
  obtain ⟨q, hq⟩ : ∃ q : Sp → Bool, q = fun x => ltS e[a]! x := ⟨_, rfl⟩
  rw [← hp, ← hq] at hout
  obtain ⟨s1, s2, s3, s4, s5⟩ := scans (p := p) (q := q) (e := e) (i := i) (j := j) (fun x => by rw [hp, hq]; simp) hij (by omega)
  rw [← he.1] at h0
  simp [c250b13]
  refine up250 id ver a i j tight h e (by rw [he.1]; exact hsz) (he.2 hsm) _ hh h0 h1 h4 h11 h12 (by rw [he.1]; exact qa) hai (by rw [he.1]; exact hjd) p hp fun st1 z1 z2 z3 z4 z5 z6 z7 z8 z9 => ?_
  obtain ⟨i2, hi2⟩ : ∃ i2 : Nat, i2 = Sort.scanUp p e j i := ⟨_, rfl⟩
  rw [← hi2] at z9 hout s1 s2 s3 s4 s5
  simp
  refine down250 id ver a i2 j tight h e (by rw [he.1]; exact hsz) (he.2 hsm) _ (by rw [z1]; exact hh) (by rw [z3]; exact h0) (by rw [z4]; exact h1) (by rw [z7]; exact h4) z9 (by rw [z8]; exact h12) (by rw [he.1]; exact qa) (by omega) (by rw [he.1]; exact hjd) q hq fun st2 y1 y2 y3 y4 y5 y6 y7 y8 y9 => ?_
  obtain ⟨j2, hj2⟩ : ∃ j2 : Nat, j2 = Sort.scanDown q e i2 j := ⟨_, rfl⟩
  rw [← hj2] at y9 hout s3 s4 s5
  have t0 : st2.tmps 0 = .one (.ref id ver 0 d.size 2 tight) := by rw [y3, z3, h0, he.1]
  have t1 : st2.tmps 1 = .one (.t (I a)) := by rw [y4, z4, h1]
  have t4 : st2.tmps 4 = .one (.fn 161 []) := by rw [y7, z7, h4]
  have t11 : st2.tmps 11 = .one (.t (I i2)) := by rw [y8, z9]
  have hh2 : st2.heap = putD' h id ver e := by rw [y1, z1, hh]
  by_cases hgt : i2 > j2
  · rw [if_pos hgt] at hout
    simp [c250r7, t11, y9, hgt, c250r11]
    rw [← hout]
    exact ⟨.inr rfl, ⟨by simp, by simp⟩, by simp, by simp, by simp, fun k hk => by simp [hh2], (HeapOk.put ho hid).above, (HeapOk.put ho hid).below⟩
  · rw [if_neg hgt] at hout
    have hlt := s5 hgt
    have q1 : i2 < e.size := by rw [he.1]; omega
    have q2 : j2 < e.size := by rw [he.1]; omega
    have q1' : i2 < d.size := by omega
    have q2' : j2 < d.size := by omega
    have hdat : Data st2.heap id ver e := by rw [hh2]; exact data_put
    have hln2 : (st2.heap.rows id).length = e.size := by rw [hdat.rows]; simp
    have g1 := rowAt hdat q1
    have g2 := rowAt hdat q2
    have w3 : IntKind.i64.wrap ((i2 : Int) + 1) = ((i2 + 1 : Nat) : Int) := nat_wrap _ (by omega) (by omega)
    have w4 : IntKind.i64.wrap ((j2 : Int) - 1) = ((j2 - 1 : Nat) : Int) := nat_wrap _ (by omega) (by omega)
    have sh := swap_heap' hh2 q1 q2
    simp [hln2, q2] at sh
    simp [c250r7, c250r8, c250r9, c250r10, t0, t1, t4, t11, y9, hgt, w3, w4, hdat.alive, hdat.sz, hdat.open_, hln2, g1, g2, q1, q2, q1', q2', take_cell, cell_len]
    exact ⟨good_cell _, good_cell _, j2 - 1 + 1 - (i2 + 1), by omega, i2 + 1, j2 - 1, rfl, by omega, by omega, by omega, Sort.swp e i2 j2, he.trans (Keeps.swp q1 q2), sh, hout, rfl, rfl⟩
end Go.Proofs.YtdpbobkcbakpfaaGreatDoor

namespace Go.Proofs.YtdpbobkcbakpfaaGreatDoor
open Go Go.Ab
set_option maxRecDepth 100000

theorem partP (h : Hp) (n0 id ver a b pv : Nat) (tight : Bool) (d : Array Sp) (hd : Data h id ver d) (ho : HeapOk h n0) (hid : id < n0) (hab : a < b) (hb : b ≤ d.size) (hpv : pv < d.size) (hsz : d.size ≤ 100000) (hsm : ∀ x ∈ d, small x) :
    ISp Tryz.prog 251 h n0 [.one (.ref id ver 0 d.size 2 tight), .one (.t (I a)), .one (.t (I b)), .one (.t (I pv)), .one (.fn 161 [])]
      (.tup [.one (.t (I (Sort.partition ltS d a b pv).1)), .one (.t (.bool (Sort.partition ltS d a b pv).2.1))]) (putD' h id ver (Sort.partition ltS d a b pv).2.2) := by
  refine k251.ispK (by simp) ?_
  have qa : a < d.size := by omega
  have hln : (h.rows id).length = d.size := by rw [hd.rows]; simp
  have g1 := rowAt hd qa
  have g2 := rowAt hd hpv
  have w1 : IntKind.i64.wrap ((a : Int) + 1) = ((a + 1 : Nat) : Int) := nat_wrap _ (by omega) (by omega)
  have w2 : IntKind.i64.wrap ((b : Int) - 1) = ((b - 1 : Nat) : Int) := nat_wrap _ (by omega) (by omega)
  have sh := swap_heap' (h := h) (g := h) (d := d) hd.self.symm qa hpv
  simp [hln, hpv] at sh
  simp [c251, c251r0, c251r1, c251r2, hd.alive, hd.sz, hd.open_, hln, g1, g2, qa, hpv, w1, w2, take_cell, cell_len]
  refine ⟨good_cell _, good_cell _, ?_⟩
  rw [sh]
  have k0 : Keeps d (Sort.swp d a pv) := Keeps.swp qa hpv
  have hpart : Sort.partition ltS d a b pv = (if Sort.scanUp (fun x => ltS x (Sort.swp d a pv)[a]!) (Sort.swp d a pv) (b - 1) (a + 1) > Sort.scanDown (fun x => !ltS x (Sort.swp d a pv)[a]!) (Sort.swp d a pv) (Sort.scanUp (fun x => ltS x (Sort.swp d a pv)[a]!) (Sort.swp d a pv) (b - 1) (a + 1)) (b - 1)
      then (Sort.scanDown (fun x => !ltS x (Sort.swp d a pv)[a]!) (Sort.swp d a pv) (Sort.scanUp (fun x => ltS x (Sort.swp d a pv)[a]!) (Sort.swp d a pv) (b - 1) (a + 1)) (b - 1), true, Sort.swp (Sort.swp d a pv) (Sort.scanDown (fun x => !ltS x (Sort.swp d a pv)[a]!) (Sort.swp d a pv) (Sort.scanUp (fun x => ltS x (Sort.swp d a pv)[a]!) (Sort.swp d a pv) (b - 1) (a + 1)) (b - 1)) a)
      else let r := Sort.partLoop ltS a (Sort.scanUp (fun x => ltS x (Sort.swp d a pv)[a]!) (Sort.swp d a pv) (b - 1) (a + 1) + 1) (Sort.scanDown (fun x => !ltS x (Sort.swp d a pv)[a]!) (Sort.swp d a pv) (Sort.scanUp (fun x => ltS x (Sort.swp d a pv)[a]!) (Sort.swp d a pv) (b - 1) (a + 1)) (b - 1) - 1) (Sort.swp (Sort.swp d a pv) (Sort.scanUp (fun x => ltS x (Sort.swp d a pv)[a]!) (Sort.swp d a pv) (b - 1) (a + 1)) (Sort.scanDown (fun x => !ltS x (Sort.swp d a pv)[a]!) (Sort.swp d a pv) (Sort.scanUp (fun x => ltS x (Sort.swp d a pv)[a]!) (Sort.swp d a pv) (b - 1) (a + 1)) (b - 1)))
        (r.1, false, Sort.swp r.2 r.1 a)) := rfl
  generalize Sort.swp d a pv = e at *
  obtain ⟨p, hp⟩ : ∃ p : Sp → Bool, p = fun x => ltS x e[a]! := ⟨_, rfl⟩
  obtain ⟨q, hq⟩ : ∃ q : Sp → Bool, q = fun x => !ltS x e[a]! := ⟨_, rfl⟩
  rw [← hp, ← hq] at hpart
  obtain ⟨s1, s2, s3, s4, s5⟩ := scans (p := p) (q := q) (e := e) (i := a + 1) (j := b - 1) (fun x => by rw [hp, hq]) (by omega) (by omega)
  have hes : d.size = e.size := k0.1.symm
  refine up251a id ver a (a + 1) (b - 1) tight h e (by omega) (k0.2 hsm) _ rfl (by simp [hes]) (by simp) (by simp) (by simp) (by simp) (by omega) (by omega) (by omega) p hp fun st1 z1 z2 z3 z4 z5 z6 z7 z8 z9 => ?_
  obtain ⟨i2, hi2⟩ : ∃ i2 : Nat, i2 = Sort.scanUp p e (b - 1) (a + 1) := ⟨_, rfl⟩
  rw [← hi2] at z9 hpart s1 s2 s3 s4 s5
  simp at z1 z2 z3 z4 z7 z8
  simp
  refine down251a id ver a i2 (b - 1) tight h e (by omega) (k0.2 hsm) _ z1 (by rw [z3, hes]) z4 z7 z9 (by rw [z8]) (by omega) (by omega) (by omega) q hq fun st2 y1 y2 y3 y4 y5 y6 y7 y8 y9 => ?_
  obtain ⟨j2, hj2⟩ : ∃ j2 : Nat, j2 = Sort.scanDown q e i2 (b - 1) := ⟨_, rfl⟩
  rw [← hj2] at y9 hpart s3 s4 s5
  have t0 : st2.tmps 0 = .one (.ref id ver 0 d.size 2 tight) := by rw [y3, z3]
  have t1 : st2.tmps 1 = .one (.t (I a)) := by rw [y4, z4]
  have t4 : st2.tmps 4 = .one (.fn 161 []) := by rw [y7, z7]
  have t12 : st2.tmps 12 = .one (.t (I i2)) := by rw [y8, z9]
  have hh2 : st2.heap = putD' h id ver e := by rw [y1, z1]
  have hdat : Data st2.heap id ver e := by rw [hh2]; exact data_put
  have hln2 : (st2.heap.rows id).length = e.size := by rw [hdat.rows]; simp
  have qae : a < e.size := by omega
  have q2 : j2 < e.size := by omega
  have q2' : j2 < d.size := by omega
  have ga := rowAt hdat qae
  have gj := rowAt hdat q2
  have hnx : n0 ≤ st2.nx := by omega
  by_cases hgt : i2 > j2
  · rw [if_pos hgt] at hpart
    have sh := swap_heap' hh2 q2 qae
    simp [hln2, qae] at sh
    simp [c251r7, c251r8, c251r9, t0, t1, t12, y9, hgt, hdat.alive, hdat.sz, hdat.open_, hln2, ga, gj, q2, q2', qa, qae, take_cell, cell_len]
    rw [sh, hpart]
    exact ⟨good_cell _, good_cell _, .inr rfl, ⟨by simp, by simp⟩, by simp, by simp, by simp, fun k hk => rfl, (HeapOk.put ho hid).above, (HeapOk.put ho hid).below⟩
  · rw [if_neg hgt] at hpart
    have hlt := s5 hgt
    have q1 : i2 < e.size := by omega
    have q1' : i2 < d.size := by omega
    have gi := rowAt hdat q1
    have w3 : IntKind.i64.wrap ((i2 : Int) + 1) = ((i2 + 1 : Nat) : Int) := nat_wrap _ (by omega) (by omega)
    have w4 : IntKind.i64.wrap ((j2 : Int) - 1) = ((j2 - 1 : Nat) : Int) := nat_wrap _ (by omega) (by omega)
    have sh := swap_heap' hh2 q1 q2
    simp [hln2, q2] at sh
    simp [c251r7, c251r10, c251r11, c251r12, t0, t12, y9, hgt, w3, w4, hdat.alive, hdat.sz, hdat.open_, hln2, gi, gj, q1, q1', q2, q2', take_cell, cell_len]
    refine ⟨good_cell _, good_cell _, ?_⟩
    rw [sh]
    have kE : Keeps d (Sort.swp e i2 j2) := k0.trans (Keeps.swp q1 q2)
    generalize Sort.swp e i2 j2 = e1 at *
    clear hp hq sh gi gj ga hdat hln2 y9 z9 t12 w3 w4
    refine W.loopK (fun k st => ∃ (i j : Nat) (f : Array Sp), k = j + 1 - i ∧ a < i ∧ i ≤ j + 1 ∧ j < d.size ∧ Keeps d f ∧ st.heap = putD' h id ver f ∧ n0 ≤ st.nx ∧ Sort.partLoop ltS a i j f = Sort.partLoop ltS a (i2 + 1) (j2 - 1) e1 ∧
      st.tmps 0 = .one (.ref id ver 0 d.size 2 tight) ∧ st.tmps 1 = .one (.t (I a)) ∧ st.tmps 4 = .one (.fn 161 []) ∧ st.tmps 12 = .one (.t (I i)) ∧ st.tmps 13 = .one (.t (I j))) (j2 - 1 + 1 - (i2 + 1))
      ⟨i2 + 1, j2 - 1, e1, rfl, by omega, by omega, by omega, kE, rfl, by simp; omega, rfl, by simp [t0], by simp [t1], by simp [t4], by simp, by simp⟩ ?_
    rintro k st ⟨i, j, f, hk, hai, hij, hjd, he, hh, hnx3, hout, h0, h1, h4, h12, h13⟩
    rw [Sort.partLoop_eq] at hout
    obtain ⟨p, hp⟩ : ∃ p : Sp → Bool, p = fun x => ltS x f[a]! := ⟨_, rfl⟩
    obtain ⟨q, hq⟩ : ∃ q : Sp → Bool, q = fun x => !ltS x f[a]! := ⟨_, rfl⟩
    rw [← hp, ← hq] at hout
    obtain ⟨s1, s2, s3, s4, s5⟩ := scans (p := p) (q := q) (e := f) (i := i) (j := j) (fun x => by rw [hp, hq]) hij (by omega)
    rw [← he.1] at h0
    simp [c251b25]
    refine up251b id ver a i j tight h f (by rw [he.1]; exact hsz) (he.2 hsm) _ hh h0 h1 h4 h12 h13 (by rw [he.1]; exact qa) hai (by rw [he.1]; exact hjd) p hp fun st3 z1 z2 z3 z4 z5 z6 z7 z8 z9 => ?_
    obtain ⟨i3, hi3⟩ : ∃ i3 : Nat, i3 = Sort.scanUp p f j i := ⟨_, rfl⟩
    rw [← hi3] at z9 hout s1 s2 s3 s4 s5
    simp
    refine down251b id ver a i3 j tight h f (by rw [he.1]; exact hsz) (he.2 hsm) _ (by rw [z1]; exact hh) (by rw [z3]; exact h0) (by rw [z4]; exact h1) (by rw [z7]; exact h4) z9 (by rw [z8]; exact h13) (by rw [he.1]; exact qa) (by omega) (by rw [he.1]; exact hjd) q hq fun st4 y1 y2 y3 y4 y5 y6 y7 y8 y9 => ?_
    obtain ⟨j3, hj3⟩ : ∃ j3 : Nat, j3 = Sort.scanDown q f i3 j := ⟨_, rfl⟩
    rw [← hj3] at y9 hout s3 s4 s5
    have t0 : st4.tmps 0 = .one (.ref id ver 0 d.size 2 tight) := by rw [y3, z3, h0, he.1]
    have t1 : st4.tmps 1 = .one (.t (I a)) := by rw [y4, z4, h1]
    have t4 : st4.tmps 4 = .one (.fn 161 []) := by rw [y7, z7, h4]
    have t12 : st4.tmps 12 = .one (.t (I i3)) := by rw [y8, z9]
    have hh4 : st4.heap = putD' h id ver f := by rw [y1, z1, hh]
    have hdat : Data st4.heap id ver f := by rw [hh4]; exact data_put
    have hln4 : (st4.heap.rows id).length = f.size := by rw [hdat.rows]; simp
    have hfs : f.size = d.size := he.1
    have q2 : j3 < f.size := by omega
    have q2' : j3 < d.size := by omega
    have qaf : a < f.size := by omega
    have gj := rowAt hdat q2
    by_cases hgt : i3 > j3
    · rw [if_pos hgt] at hout
      have ga := rowAt hdat qaf
      have sh := swap_heap' hh4 q2 qaf
      simp [hln4, qaf] at sh
      simp [c251r17, c251r21, c251r22, t0, t1, t12, y9, hgt, hdat.alive, hdat.sz, hdat.open_, hln4, ga, gj, q2, q2', qa, qaf, take_cell, cell_len]
      rw [sh, hpart, ← hout]
      exact ⟨good_cell _, good_cell _, .inr rfl, ⟨by simp, by simp⟩, by simp, by simp, by simp, fun k hk => rfl, (HeapOk.put ho hid).above, (HeapOk.put ho hid).below⟩
    · rw [if_neg hgt] at hout
      have hlt := s5 hgt
      have q1 : i3 < f.size := by omega
      have q1' : i3 < d.size := by omega
      have gi := rowAt hdat q1
      have w3 : IntKind.i64.wrap ((i3 : Int) + 1) = ((i3 + 1 : Nat) : Int) := nat_wrap _ (by omega) (by omega)
      have w4 : IntKind.i64.wrap ((j3 : Int) - 1) = ((j3 - 1 : Nat) : Int) := nat_wrap _ (by omega) (by omega)
      have sh := swap_heap' hh4 q1 q2
      simp [hln4, q2] at sh
      simp [c251r17, c251r18, c251r19, c251r20, t0, t1, t4, t12, y9, hgt, w3, w4, hdat.alive, hdat.sz, hdat.open_, hln4, gi, gj, q1, q2, q1', q2', take_cell, cell_len]
      exact ⟨good_cell _, good_cell _, j3 - 1 + 1 - (i3 + 1), by omega, i3 + 1, j3 - 1, rfl, by omega, by omega, by omega, Sort.swp f i3 j3, he.trans (Keeps.swp q1 q2), sh, by omega, hout, rfl, rfl⟩
end Go.Proofs.YtdpbobkcbakpfaaGreatDoor

namespace Go.Proofs.YtdpbobkcbakpfaaGreatDoor
open Go Go.Ab
set_option maxRecDepth 100000

/-- What a loop within leaves as it was. -/
structure Kept (st st' : St) : Prop where
  nx : st.nx ≤ st'.nx
  t0 : st'.tmps 0 = st.tmps 0
  t1 : st'.tmps 1 = st.tmps 1
  t2 : st'.tmps 2 = st.tmps 2
  t3 : st'.tmps 3 = st.tmps 3
  t10 : st'.tmps 10 = st.tmps 10

theorem sortedWalk {n : Nat} {A : Exit → St → Prop} {ks : List KF} (id ver b i : Nat) (tight : Bool) (h : Hp) (e : Array Sp) (hsz : e.size ≤ 100000) (hse : ∀ x ∈ e, small x) (st : St) (hh : st.heap = putD' h id ver e)
    (h0 : st.tmps 0 = .one (.ref id ver 0 e.size 2 tight)) (h2 : st.tmps 2 = .one (.t (I b))) (h3 : st.tmps 3 = .one (.fn 161 [])) (h9 : st.tmps 9 = .one (.t (I i))) (hi : 0 < i) (hb : b ≤ e.size) (hib : i ≤ b)
    (K : ∀ st' : St, st'.heap = st.heap → Kept st st' → st'.tmps 9 = .one (.t (I (Sort.scanSorted ltS e b i : Nat))) → retK Tryz.prog n A ks .normal st') :
    W Tryz.prog n (.loop c249b6) (kont Tryz.prog n A (.blk 2 :: ks)) st := by
  refine W.loopK (fun k st1 => ∃ x : Nat, k = b - x ∧ i ≤ x ∧ Sort.scanSorted ltS e b x = Sort.scanSorted ltS e b i ∧ st1.heap = st.heap ∧ Kept st st1 ∧ st1.tmps 9 = .one (.t (I x))) (b - i) ⟨i, rfl, Nat.le_refl _, rfl, rfl, ⟨Nat.le_refl _, rfl, rfl, rfl, rfl, rfl⟩, h9⟩ ?_
  rintro k st1 ⟨x, hk, hix, hs, hh1, kp, e9⟩
  have hdat : Data st1.heap id ver e := by rw [hh1, hh]; exact data_put
  have e0 := kp.t0; have e2 := kp.t2; have e3 := kp.t3
  rw [h0] at e0; rw [h2] at e2; rw [h3] at e3
  by_cases hlt : x < b
  · obtain ⟨y, hy⟩ : ∃ y : Nat, y = x - 1 := ⟨_, rfl⟩
    have hx : x < e.size := by omega
    have hy' : y < e.size := by omega
    have hln : (st1.heap.rows id).length = e.size := by rw [hdat.rows]; simp
    have g1 := rowAt hdat hx
    have g2 := rowAt hdat hy'
    have sx : small e[x] := hse _ (Array.getElem_mem _)
    have sy : small e[y] := hse _ (Array.getElem_mem _)
    have hw : IntKind.i64.wrap ((x : Int) + 1) = ((x + 1 : Nat) : Int) := nat_wrap _ (by omega) (by omega)
    have hw2 : IntKind.i64.wrap ((x : Int) - 1) = (y : Int) := nat_wrap _ (by omega) (by omega)
    have hstep : Sort.scanSorted ltS e b x = if ¬ ltS e[x] e[y] = true then Sort.scanSorted ltS e b (x + 1) else x := by
      rw [Sort.scanSorted]; simp [hlt, ← hy, getElem!_pos e x hx, getElem!_pos e y hy']
    have hltI : (x : Int) < b := by omega
    simp [c249b6, c249r5, e0, e2, e3, e9, hltI, hw2, hdat.alive, hdat.sz, hln, g1, g2, hx, hy', take_cell]
    refine ⟨161, [], ⟨rfl, rfl⟩, callable161, ?_⟩
    refine callK.draw (cmpP e[x] e[y] sx sy) (by simp [cell]) (by simp [cell]) (by simp) ?_
    by_cases hl : ltS e[x] e[y] = true
    · have hl' : e[x].1 - e[y].1 < 0 := by simp [ltS] at hl; omega
      simp [hl']
      exact K _ (by simp [hh1]) ⟨by simp; have := kp.nx; omega, by simp [kp.t0], by simp [kp.t1], by simp [kp.t2], by simp [kp.t3], by simp [kp.t10]⟩ (by rw [← hs, hstep]; simp [e9, hl])
    · have hl' : ¬ e[x].1 - e[y].1 < 0 := by simp [ltS] at hl; omega
      simp [hl', c249r6, e9, hw]
      exact ⟨_, by omega, x + 1, rfl, by omega, by rw [← hs, hstep]; simp [hl], hh1, ⟨by simp; have := kp.nx; omega, by simp [kp.t0], by simp [kp.t1], by simp [kp.t2], by simp [kp.t3], by simp [kp.t10]⟩, rfl⟩
  · have hltI : ¬ (x : Int) < b := by omega
    have hstop : Sort.scanSorted ltS e b x = x := by rw [Sort.scanSorted, if_neg]; simp [hlt]
    simp [c249b6, c249r5, e0, e2, e3, e9, hltI]
    exact K _ (by simp [hh1]) ⟨by simp; have := kp.nx; omega, by simp [kp.t0], by simp [kp.t1], by simp [kp.t2], by simp [kp.t3], by simp [kp.t10]⟩ (by rw [← hs, hstop]; simp [e9])

theorem shiftDownWalk {n : Nat} {A : Exit → St → Prop} {ks : List KF} (id ver j : Nat) (tight : Bool) (h : Hp) (d0 : Array Sp) (hsz : d0.size ≤ 100000) (hse : ∀ x ∈ d0, small x) (st : St) (hh : st.heap = putD' h id ver d0)
    (h0 : st.tmps 0 = .one (.ref id ver 0 d0.size 2 tight)) (h3 : st.tmps 3 = .one (.fn 161 [])) (h11 : st.tmps 11 = .one (.t (I j))) (hj : j < d0.size)
    (K : ∀ st' : St, st'.heap = putD' h id ver (Sort.shiftDown ltS j d0) → Kept st st' → st'.tmps 9 = st.tmps 9 → retK Tryz.prog n A ks .normal st') :
    W Tryz.prog n (.loop c249b18) (kont Tryz.prog n A (.blk 4 :: ks)) st := by
  refine W.loopK (fun k st1 => ∃ e : Array Sp, k ≤ j ∧ Keeps d0 e ∧ Sort.shiftDown ltS k e = Sort.shiftDown ltS j d0 ∧ st1.heap = putD' h id ver e ∧ Kept st st1 ∧ st1.tmps 9 = st.tmps 9 ∧ st1.tmps 11 = .one (.t (I k))) j ⟨d0, Nat.le_refl _, .refl _, rfl, hh, ⟨Nat.le_refl _, rfl, rfl, rfl, rfl, rfl⟩, rfl, h11⟩ ?_
  rintro k st1 ⟨e, hk, he, hs, hh1, kp, e9, e11⟩
  have hdat : Data st1.heap id ver e := by rw [hh1]; exact data_put
  have e0 := kp.t0; have e3 := kp.t3
  rw [h0] at e0; rw [h3] at e3
  cases k with
  | zero =>
    simp [c249b18, c249r14, e11]
    exact K _ (by rw [← hs]; simp [hh1]; rfl) ⟨by simp; have := kp.nx; omega, by simp [kp.t0], by simp [kp.t1], by simp [kp.t2], by simp [kp.t3], by simp [kp.t10]⟩ (by simp [e9])
  | succ y =>
    obtain ⟨x, hx0⟩ : ∃ x : Nat, x = y + 1 := ⟨_, rfl⟩
    have hstep : Sort.shiftDown ltS (y + 1) e = if ¬ ltS e[x]! e[y]! = true then e else Sort.shiftDown ltS y (Sort.swp e x y) := by rw [Sort.shiftDown, hx0]; simp
    rw [← hx0] at e11
    have hes := he.1
    have hx : x < e.size := by omega
    have hy' : y < e.size := by omega
    have hx' : x < d0.size := by omega
    have hy'' : y < d0.size := by omega
    have hln : (st1.heap.rows id).length = e.size := by rw [hdat.rows]; simp
    have g1 := rowAt hdat hx
    have g2 := rowAt hdat hy'
    have sx : small e[x] := he.2 hse _ (Array.getElem_mem _)
    have sy : small e[y] := he.2 hse _ (Array.getElem_mem _)
    have hw2 : IntKind.i64.wrap ((x : Int) - 1) = (y : Int) := nat_wrap _ (by omega) (by omega)
    have h1I : (1 : Int) ≤ x := by omega
    rw [getElem!_pos e x hx, getElem!_pos e y hy'] at hstep
    have sh := swap_heap' hh1 hx hy'
    simp [hln, hy'] at sh
    simp [c249b18, c249r14, c249r16, e0, e3, e11, h1I, hw2, hdat.alive, hdat.sz, hln, g1, g2, hx, hy', hx', hy'', take_cell]
    refine ⟨161, [], ⟨rfl, rfl⟩, callable161, ?_⟩
    refine callK.draw (cmpP e[x] e[y] sx sy) (by simp [cell]) (by simp [cell]) (by simp) ?_
    by_cases hl : ltS e[x] e[y] = true
    · have hl' : e[x].1 - e[y].1 < 0 := by simp [ltS] at hl; omega
      simp [hl', c249r17, c249r15, e0, e11, hw2, hdat.alive, hdat.sz, hdat.open_, hln, g1, g2, hx, hy', hx', hy'', take_cell, cell_len]
      refine ⟨good_cell _, good_cell _, y, by omega, by omega, Sort.swp e x y, he.trans (Keeps.swp hx hy'), ?_, sh, ⟨by simp; have := kp.nx; omega, by simp [kp.t0], by simp [kp.t1], by simp [kp.t2], by simp [kp.t3], by simp [kp.t10]⟩, e9, rfl⟩
      rw [← hs, hstep]; simp [hl]
    · have hl' : ¬ e[x].1 - e[y].1 < 0 := by simp [ltS] at hl; omega
      simp [hl']
      exact K _ (by rw [← hs, hstep]; simp [hh1, hl]) ⟨by simp; have := kp.nx; omega, by simp [kp.t0], by simp [kp.t1], by simp [kp.t2], by simp [kp.t3], by simp [kp.t10]⟩ (by simp [e9])

theorem shiftUpWalk {n : Nat} {A : Exit → St → Prop} {ks : List KF} (id ver b j : Nat) (tight : Bool) (h : Hp) (d0 : Array Sp) (hsz : d0.size ≤ 100000) (hse : ∀ x ∈ d0, small x) (st : St) (hh : st.heap = putD' h id ver d0)
    (h0 : st.tmps 0 = .one (.ref id ver 0 d0.size 2 tight)) (h2 : st.tmps 2 = .one (.t (I b))) (h3 : st.tmps 3 = .one (.fn 161 [])) (h12 : st.tmps 12 = .one (.t (I j))) (hj : 0 < j) (hb : b ≤ d0.size)
    (K : ∀ st' : St, st'.heap = putD' h id ver (Sort.shiftUp ltS b j d0) → Kept st st' → st'.tmps 9 = st.tmps 9 → retK Tryz.prog n A ks .normal st') :
    W Tryz.prog n (.loop c249b25) (kont Tryz.prog n A (.blk 6 :: ks)) st := by
  refine W.loopK (fun k st1 => ∃ (x : Nat) (e : Array Sp), k = b - x ∧ 0 < x ∧ Keeps d0 e ∧ Sort.shiftUp ltS b x e = Sort.shiftUp ltS b j d0 ∧ st1.heap = putD' h id ver e ∧ Kept st st1 ∧ st1.tmps 9 = st.tmps 9 ∧ st1.tmps 12 = .one (.t (I x))) (b - j) ⟨j, d0, rfl, hj, .refl _, rfl, hh, ⟨Nat.le_refl _, rfl, rfl, rfl, rfl, rfl⟩, rfl, h12⟩ ?_
  rintro k st1 ⟨x, e, hk, hx0, he, hs, hh1, kp, e9, e12⟩
  have hdat : Data st1.heap id ver e := by rw [hh1]; exact data_put
  have e0 := kp.t0; have e2 := kp.t2; have e3 := kp.t3
  rw [h0] at e0; rw [h2] at e2; rw [h3] at e3
  by_cases hlt : x < b
  · obtain ⟨y, hy⟩ : ∃ y : Nat, y = x - 1 := ⟨_, rfl⟩
    have hstep : Sort.shiftUp ltS b x e = if ¬ ltS e[x]! e[y]! = true then e else Sort.shiftUp ltS b (x + 1) (Sort.swp e x y) := by rw [Sort.shiftUp, hy]; simp [hlt]
    have hes := he.1
    have hx : x < e.size := by omega
    have hy' : y < e.size := by omega
    have hx' : x < d0.size := by omega
    have hy'' : y < d0.size := by omega
    have hln : (st1.heap.rows id).length = e.size := by rw [hdat.rows]; simp
    have g1 := rowAt hdat hx
    have g2 := rowAt hdat hy'
    have sx : small e[x] := he.2 hse _ (Array.getElem_mem _)
    have sy : small e[y] := he.2 hse _ (Array.getElem_mem _)
    have hw2 : IntKind.i64.wrap ((x : Int) - 1) = (y : Int) := nat_wrap _ (by omega) (by omega)
    have hw : IntKind.i64.wrap ((x : Int) + 1) = ((x + 1 : Nat) : Int) := nat_wrap _ (by omega) (by omega)
    have hltI : (x : Int) < b := by omega
    rw [getElem!_pos e x hx, getElem!_pos e y hy'] at hstep
    have sh := swap_heap' hh1 hx hy'
    simp [hln, hy'] at sh
    simp [c249b25, c249r20, c249r22, e0, e2, e3, e12, hltI, hw2, hdat.alive, hdat.sz, hln, g1, g2, hx, hy', hx', hy'', take_cell]
    refine ⟨161, [], ⟨rfl, rfl⟩, callable161, ?_⟩
    refine callK.draw (cmpP e[x] e[y] sx sy) (by simp [cell]) (by simp [cell]) (by simp) ?_
    by_cases hl : ltS e[x] e[y] = true
    · have hl' : e[x].1 - e[y].1 < 0 := by simp [ltS] at hl; omega
      simp [hl', c249r23, c249r21, e0, e12, hw, hw2, hdat.alive, hdat.sz, hdat.open_, hln, g1, g2, hx, hy', hx', hy'', take_cell, cell_len]
      refine ⟨good_cell _, good_cell _, b - (x + 1), by omega, x + 1, rfl, by omega, Sort.swp e x y, he.trans (Keeps.swp hx hy'), ?_, sh, ⟨by simp; have := kp.nx; omega, by simp [kp.t0], by simp [kp.t1], by simp [kp.t2], by simp [kp.t3], by simp [kp.t10]⟩, e9, rfl⟩
      rw [← hs, hstep]; simp [hl]
    · have hl' : ¬ e[x].1 - e[y].1 < 0 := by simp [ltS] at hl; omega
      simp [hl']
      exact K _ (by rw [← hs, hstep]; simp [hh1, hl]) ⟨by simp; have := kp.nx; omega, by simp [kp.t0], by simp [kp.t1], by simp [kp.t2], by simp [kp.t3], by simp [kp.t10]⟩ (by simp [e9])
  · have hltI : ¬ (x : Int) < b := by omega
    have hstop : Sort.shiftUp ltS b x e = e := by rw [Sort.shiftUp, if_neg hlt]
    simp [c249b25, c249r20, e2, e12, hltI]
    exact K _ (by rw [← hs, hstop]; simp [hh1]) ⟨by simp; have := kp.nx; omega, by simp [kp.t0], by simp [kp.t1], by simp [kp.t2], by simp [kp.t3], by simp [kp.t10]⟩ (by simp [e9])
end Go.Proofs.YtdpbobkcbakpfaaGreatDoor

namespace Go.Proofs.YtdpbobkcbakpfaaGreatDoor
open Go Go.Ab
set_option maxRecDepth 100000

theorem scanSorted_range (b : Nat) (e : Array Sp) : ∀ (k i : Nat), b - i = k → i ≤ b → i ≤ Sort.scanSorted ltS e b i ∧ Sort.scanSorted ltS e b i ≤ b
  | 0, i, hk, hi => by rw [Sort.scanSorted, if_neg (by simp; omega)]; omega
  | k + 1, i, hk, hi => by
    rw [Sort.scanSorted]
    split
    · have := scanSorted_range b e k (i + 1) (by omega) (by omega); omega
    · omega

theorem shiftDown_keeps : ∀ (j : Nat) (d : Array Sp), j < d.size → Keeps d (Sort.shiftDown ltS j d)
  | 0, d, _ => .refl d
  | j + 1, d, h => by
    rw [Sort.shiftDown]
    split
    · exact .refl d
    · exact (Keeps.swp h (by omega)).trans (shiftDown_keeps j _ (by rw [swp_size]; omega))

theorem shiftUp_keeps (b : Nat) : ∀ (k j : Nat) (d : Array Sp), b - j = k → b ≤ d.size → Keeps d (Sort.shiftUp ltS b j d)
  | 0, j, d, hk, _ => by rw [Sort.shiftUp, if_neg (by omega)]; exact .refl d
  | k + 1, j, d, hk, hb => by
    rw [Sort.shiftUp]
    split
    · split
      · exact .refl d
      · exact (Keeps.swp (by omega) (by omega)).trans (shiftUp_keeps b k (j + 1) _ (by omega) (by rw [swp_size]; omega))
    · exact .refl d

theorem partialInsP (h : Hp) (n0 id ver a b : Nat) (tight : Bool) (d : Array Sp) (hd : Data h id ver d) (ho : HeapOk h n0) (hid : id < n0) (hab : a < b) (hb : b ≤ d.size) (hsz : d.size ≤ 100000) (hsm : ∀ x ∈ d, small x) :
    ISp Tryz.prog 249 h n0 [.one (.ref id ver 0 d.size 2 tight), .one (.t (I a)), .one (.t (I b)), .one (.fn 161 [])]
      (.one (.t (.bool (Sort.partialInsertionSort ltS d a b).2))) (putD' h id ver (Sort.partialInsertionSort ltS d a b).1) := by
  refine k249.ispK (by simp) ?_
  have w1 : IntKind.i64.wrap ((a : Int) + 1) = ((a + 1 : Nat) : Int) := nat_wrap _ (by omega) (by omega)
  simp [c249, c249r0, c249r1, c249r2, w1]
  refine W.loopK (fun k st => ∃ (i : Nat) (e : Array Sp), k ≤ 5 ∧ a < i ∧ i ≤ b ∧ Keeps d e ∧ st.heap = putD' h id ver e ∧ n0 ≤ st.nx ∧ Sort.partialIns ltS a b k i e = Sort.partialInsertionSort ltS d a b ∧
    st.tmps 0 = .one (.ref id ver 0 d.size 2 tight) ∧ st.tmps 1 = .one (.t (I a)) ∧ st.tmps 2 = .one (.t (I b)) ∧ st.tmps 3 = .one (.fn 161 []) ∧ st.tmps 9 = .one (.t (I i)) ∧ st.tmps 10 = .one (.t (I (5 - (k : Int))))) 5
    ⟨a + 1, d, Nat.le_refl _, by omega, by omega, .refl _, hd.self.symm, by simp <;> omega, rfl, by simp, by simp, by simp, by simp, by simp, by simp⟩ ?_
  rintro k st ⟨i, e, hk, hai, hib, he, hh, hnx, hout, h0, h1, h2, h3, h9, h10⟩
  cases k with
  | zero =>
    simp [c249b27, c249r3, h10, c249r24]
    rw [← hout]
    exact ⟨.inr rfl, ⟨by simp, by simp⟩, by simp [Sort.partialIns], by simp [Sort.partialIns], by simp, fun j hj => by simp [hh, Sort.partialIns], (HeapOk.put ho hid).above, (HeapOk.put ho hid).below⟩
  | succ s =>
    have h5 : (5 : Int) - ((s + 1 : Nat) : Int) < 5 := by omega
    have h5' : (5 : Int) - ((s : Int) + 1) < 5 := by omega
    have ws : IntKind.i64.wrap ((5 : Int) - ((s : Int) + 1) + 1) = 5 - (s : Int) := by rw [wrap_i64 (by omega) (by omega)]; omega
    have hes := he.1
    have fin : ∀ (r : Bool) (f : Array Sp) (st' : St), (f, r) = Sort.partialInsertionSort ltS d a b → st'.heap = putD' h id ver f → st'.tmps 8 = .one (.t (.bool r)) → impEnd [.tmp 8] (.one (.t (.bool (Sort.partialInsertionSort ltS d a b).2))) (putD' h id ver (Sort.partialInsertionSort ltS d a b).1) n0 .ret st' := by
      intro r f st' e1 e2 e3
      rw [← e1]
      exact ⟨.inr rfl, ⟨by simp, by simp⟩, by simp [e3], by simp [e3], by simp [e3], fun j hj => by simp [e2], (HeapOk.put ho hid).above, (HeapOk.put ho hid).below⟩
    rw [Sort.partialIns] at hout
    obtain ⟨i2, hi2⟩ : ∃ i2 : Nat, i2 = Sort.scanSorted ltS e b i := ⟨_, rfl⟩
    obtain ⟨r1, r2⟩ := scanSorted_range b e _ i rfl hib
    rw [← hi2] at r1 r2
    simp only [← hi2] at hout
    rw [← hes] at h0
    simp [c249b27, c249r3, h10, h5']
    refine sortedWalk id ver b i tight h e (by omega) (he.2 hsm) _ (by simp [hh]) (by simp [h0]) (by simp [h2]) (by simp [h3]) (by simp [h9]) (by omega) (by omega) hib fun st1 z1 kp z9 => ?_
    rw [← hi2] at z9
    have t0 := kp.t0; have t1 := kp.t1; have t2 := kp.t2; have t3 := kp.t3; have t10 := kp.t10; have tn := kp.nx
    simp [h0, h1, h2, h3, h10] at t0 t1 t2 t3 t10 tn
    simp [hh] at z1
    by_cases hib2 : i2 = b
    · rw [if_pos hib2] at hout
      simp [c249r7, z9, t2, hib2, c249r8]
      exact fin true e _ hout (by simp [z1]) (by simp)
    · rw [if_neg hib2] at hout
      have hneI : ¬ (i2 : Int) = b := by omega
      have wl : IntKind.i64.wrap ((b : Int) - a) = ((b - a : Nat) : Int) := nat_wrap _ (by omega) (by omega)
      by_cases h50 : b - a < 50
      · rw [if_pos h50] at hout
        have h50I : (((b - a : Nat) : Int)) < 50 := by omega
        simp [c249r7, z9, t1, t2, hneI, c249r9, wl, h50I, c249r10]
        exact fin false e _ hout (by simp [z1]) (by simp)
      · rw [if_neg h50] at hout
        have h50I : ¬ (((b - a : Nat) : Int)) < 50 := by omega
        obtain ⟨y, hy⟩ : ∃ y : Nat, y = i2 - 1 := ⟨_, rfl⟩
        rw [← hy] at hout
        have q1 : i2 < e.size := by omega
        have q2 : y < e.size := by omega
        have q1' : i2 < d.size := by omega
        have q2' : y < d.size := by omega
        have hdat : Data st1.heap id ver e := by rw [z1]; exact data_put
        have hln : (st1.heap.rows id).length = e.size := by rw [hdat.rows]; simp
        have g1 := rowAt hdat q1
        have g2 := rowAt hdat q2
        have wy : IntKind.i64.wrap ((i2 : Int) - 1) = (y : Int) := nat_wrap _ (by omega) (by omega)
        have wia : IntKind.i64.wrap ((i2 : Int) - a) = ((i2 - a : Nat) : Int) := nat_wrap _ (by omega) (by omega)
        have wbi : IntKind.i64.wrap ((b : Int) - i2) = ((b - i2 : Nat) : Int) := nat_wrap _ (by omega) (by omega)
        have wi1 : IntKind.i64.wrap ((i2 : Int) + 1) = ((i2 + 1 : Nat) : Int) := nat_wrap _ (by omega) (by omega)
        have sh := swap_heap' z1 q1 q2
        simp [hln, q2] at sh
        have k1 : Keeps d (Sort.swp e i2 y) := he.trans (Keeps.swp q1 q2)
        simp [c249r7, z9, t0, t1, t2, hneI, c249r9, wl, h50I, c249r11, wy, hdat.alive, hdat.sz, hdat.open_, hln, g1, g2, q1, q2, take_cell, cell_len]
        refine ⟨good_cell _, good_cell _, ?_⟩
        rw [sh]
        generalize Sort.swp e i2 y = e1 at *
        -- the greater one to the right
        have last : ∀ (J : St → Prop) (f : Array Sp) (tm : Nat → D) (nx : Nat) (g : Hp), Keeps d f → g = putD' h id ver f → n0 ≤ nx → tm 0 = .one (.ref id ver 0 d.size 2 tight) → tm 1 = .one (.t (I a)) → tm 2 = .one (.t (I b)) → tm 3 = .one (.fn 161 []) → tm 9 = .one (.t (I i2)) → tm 10 = .one (.t (I (5 - ((s : Int) + 1)))) →
            (∀ st' : St, st'.heap = putD' h id ver (if b - i2 ≥ 2 then Sort.shiftUp ltS b (i2 + 1) f else f) → n0 ≤ st'.nx → st'.tmps 0 = .one (.ref id ver 0 d.size 2 tight) → st'.tmps 1 = .one (.t (I a)) → st'.tmps 2 = .one (.t (I b)) → st'.tmps 3 = .one (.fn 161 []) → st'.tmps 9 = .one (.t (I i2)) → st'.tmps 10 = .one (.t (I (5 - (s : Int)))) → J st') →
            awpK Tryz.prog 141 (impEnd [.tmp 8] (.one (.t (.bool (Sort.partialInsertionSort ltS d a b).2))) (putD' h id ver (Sort.partialInsertionSort ltS d a b).1) n0) (.seq (.region 18 false 4 c249r18) (.cond (X.tmp 104) (.seq (.region 19 false 3 c249r19) (.block 6 (.loop c249b25))) .skip)) [.blk 1, .thn (.region 4 false 3 c249r4), .post J, .blk 0, .thn (.seq (.region 24 false 1 c249r24) .ret)] ⟨tm, g, nx⟩ := by
          intro J f tm nx g kf hg hnx' u0 u1 u2 u3 u9 u10 hJ
          by_cases h2b : b - i2 ≥ 2
          · have h2I : (2 : Int) ≤ ((b - i2 : Nat) : Int) := by omega
            rw [← kf.1] at u0
            simp [c249r18, u2, u9, wbi, h2I, c249r19, wi1]
            refine shiftUpWalk id ver b (i2 + 1) tight h f (by rw [kf.1]; exact hsz) (kf.2 hsm) _ (by simp [hg]) (by simp [u0]) (by simp [u2]) (by simp [u3]) (by simp) (by omega) (by rw [kf.1]; exact hb) fun st3 v1 kp3 v9 => ?_
            have v0 := kp3.t0; have v1' := kp3.t1; have v2 := kp3.t2; have v3 := kp3.t3; have v10 := kp3.t10; have vn := kp3.nx
            simp [u0, u1, u2, u3, u9, u10] at v0 v1' v2 v3 v9 v10 vn
            simp [c249r4, v10, ws]
            exact hJ _ (by simp [v1, h2b]) (by simp; omega) (by simp [v0, kf.1]) (by simp [v1']) (by simp [v2]) (by simp [v3]) (by simp [v9]) (by simp)
          · have h2I : ¬ (2 : Int) ≤ ((b - i2 : Nat) : Int) := by omega
            simp [c249r18, u2, u9, u10, wbi, h2I, c249r4, ws]
            exact hJ _ (by simp [hg, h2b]) (by simp; omega) (by simp [u0]) (by simp [u1]) (by simp [u2]) (by simp [u3]) (by simp [u9]) (by simp)
        have goOn : ∀ (f : Array Sp), Keeps d f → f = (if i2 - a ≥ 2 then Sort.shiftDown ltS y e1 else e1) → ∀ st' : St, st'.heap = putD' h id ver (if b - i2 ≥ 2 then Sort.shiftUp ltS b (i2 + 1) f else f) → n0 ≤ st'.nx → st'.tmps 0 = .one (.ref id ver 0 d.size 2 tight) → st'.tmps 1 = .one (.t (I a)) → st'.tmps 2 = .one (.t (I b)) → st'.tmps 3 = .one (.fn 161 []) → st'.tmps 9 = .one (.t (I i2)) → st'.tmps 10 = .one (.t (I (5 - (s : Int)))) →
            ∃ k', k' < s + 1 ∧ ∃ (i : Nat) (e : Array Sp), k' ≤ 5 ∧ a < i ∧ i ≤ b ∧ Keeps d e ∧ st'.heap = putD' h id ver e ∧ n0 ≤ st'.nx ∧ Sort.partialIns ltS a b k' i e = Sort.partialInsertionSort ltS d a b ∧
              st'.tmps 0 = .one (.ref id ver 0 d.size 2 tight) ∧ st'.tmps 1 = .one (.t (I a)) ∧ st'.tmps 2 = .one (.t (I b)) ∧ st'.tmps 3 = .one (.fn 161 []) ∧ st'.tmps 9 = .one (.t (I i)) ∧ st'.tmps 10 = .one (.t (I (5 - (k' : Int)))) := by
          intro f kf hf st' u1 u2 u3 u4 u5 u6 u7 u8
          refine ⟨s, by omega, i2, _, by omega, by omega, by omega, ?_, u1, u2, ?_, u3, u4, u5, u6, u7, u8⟩
          · split
            · exact kf.trans (shiftUp_keeps b _ _ f rfl (by rw [kf.1]; exact hb))
            · exact kf
          · rw [hf]; exact hout
        by_cases h2a : i2 - a ≥ 2
        · have h2I : (2 : Int) ≤ ((i2 - a : Nat) : Int) := by omega
          have k2 : Keeps d (Sort.shiftDown ltS y e1) := k1.trans (shiftDown_keeps y e1 (by rw [k1.1]; omega))
          simp [c249r12, t1, z9, wia, h2I, c249r13, wy]
          refine shiftDownWalk id ver y tight h e1 (by rw [k1.1]; exact hsz) (k1.2 hsm) _ (by simp) (by simp [t0, k1.1, hes]) (by simp [t3]) (by simp) (by rw [k1.1]; omega) fun st3 v1 kp3 v9 => ?_
          have v0 := kp3.t0; have v1' := kp3.t1; have v2 := kp3.t2; have v3 := kp3.t3; have v10 := kp3.t10; have vn := kp3.nx
          simp [t0, t1, t2, t3, t10, z9] at v0 v1' v2 v3 v9 v10 vn
          simp
          exact last _ (Sort.shiftDown ltS y e1) _ _ _ k2 v1 (by omega) (by rw [v0, hes]) v1' v2 v3 v9 (by rw [v10]) (fun st' u1 u2 u3 u4 u5 u6 u7 u8 => by simpa using goOn _ k2 (by rw [if_pos h2a]) st' u1 u2 u3 u4 u5 u6 u7 u8)
        · have h2I : ¬ (2 : Int) ≤ ((i2 - a : Nat) : Int) := by omega
          simp [c249r12, t1, z9, wia, h2I]
          exact last _ e1 _ _ _ k1 rfl (by omega) (by rw [← hes]; exact t0) t1 t2 t3 z9 t10 (fun st' u1 u2 u3 u4 u5 u6 u7 u8 => by simpa using goOn _ k1 (by rw [if_neg h2a]) st' u1 u2 u3 u4 u5 u6 u7 u8)
end Go.Proofs.YtdpbobkcbakpfaaGreatDoor

namespace Go.Proofs.YtdpbobkcbakpfaaGreatDoor
open Go Go.Ab
set_option maxRecDepth 100000

theorem swo_ltS : Sort.SWO ltS where
  irrefl := fun x => by simp [ltS]
  trans := fun x y z h1 h2 => by simp [ltS] at *; omega
  ntrans := fun x y z h1 h2 => by simp [ltS] at *; omega

theorem Keeps.ofPerm {d e : Array Sp} {a b : Nat} (hb : b ≤ d.size) (h : Sort.PermIn a b d e) : Keeps d e := by
  refine ⟨h.1, fun hs x hx => ?_⟩
  obtain ⟨i, hi, rfl⟩ := Array.getElem_of_mem hx
  have hget : e[i] = e[i]! := (getElem!_pos e i hi).symm
  rw [hget]
  have all : ∀ k, k < d.size → small d[k]! := fun k hk => by rw [getElem!_pos d k hk]; exact hs _ (Array.getElem_mem _)
  by_cases hr : a ≤ i ∧ i < b
  · exact Sort.permIn_all d e a b small hb h (fun k _ hk => all k (by omega)) i hr.1 hr.2
  · rw [h.2.1 i (by omega)]
    exact all i (by rw [← h.1]; exact hi)

theorem partEqLoop_facts (a : Nat) : ∀ (n i j : Nat) (d : Array Sp), j + 1 - i ≤ n → a < i → i ≤ j + 1 → j < d.size → Keeps d (Sort.partEqLoop ltS a i j d).2 ∧ i ≤ (Sort.partEqLoop ltS a i j d).1 ∧ (Sort.partEqLoop ltS a i j d).1 ≤ j + 1 := by
  intro n
  induction n with
  | zero =>
    intro i j d hn ha hij hj
    rw [Sort.partEqLoop_eq]
    obtain ⟨s1, s2, s3, s4, s5⟩ := scans (p := fun x => !ltS d[a]! x) (q := fun x => ltS d[a]! x) (e := d) (i := i) (j := j) (fun x => by simp) hij (by omega)
    rw [if_pos (by omega)]
    exact ⟨.refl d, s1, s2⟩
  | succ n ih =>
    intro i j d hn ha hij hj
    rw [Sort.partEqLoop_eq]
    obtain ⟨s1, s2, s3, s4, s5⟩ := scans (p := fun x => !ltS d[a]! x) (q := fun x => ltS d[a]! x) (e := d) (i := i) (j := j) (fun x => by simp) hij (by omega)
    split
    · exact ⟨.refl d, s1, s2⟩
    · rename_i h
      have hlt := s5 h
      obtain ⟨k1, k2, k3⟩ := ih (Sort.scanUp (fun x => !ltS d[a]! x) d j i + 1) (Sort.scanDown (fun x => ltS d[a]! x) d (Sort.scanUp (fun x => !ltS d[a]! x) d j i) j - 1) (Sort.swp d (Sort.scanUp (fun x => !ltS d[a]! x) d j i) (Sort.scanDown (fun x => ltS d[a]! x) d (Sort.scanUp (fun x => !ltS d[a]! x) d j i) j)) (by omega) (by omega) (by omega) (by rw [swp_size]; omega)
      exact ⟨(Keeps.swp (by omega) (by omega)).trans k1, by omega, by omega⟩

theorem partLoop_facts (a : Nat) : ∀ (n i j : Nat) (d : Array Sp), j + 1 - i ≤ n → a < i → i ≤ j + 1 → j < d.size → Keeps d (Sort.partLoop ltS a i j d).2 ∧ i ≤ (Sort.partLoop ltS a i j d).1 + 1 ∧ (Sort.partLoop ltS a i j d).1 ≤ j := by
  intro n
  induction n with
  | zero =>
    intro i j d hn ha hij hj
    rw [Sort.partLoop_eq]
    obtain ⟨s1, s2, s3, s4, s5⟩ := scans (p := fun x => ltS x d[a]!) (q := fun x => !ltS x d[a]!) (e := d) (i := i) (j := j) (fun x => rfl) hij (by omega)
    rw [if_pos (by omega)]
    exact ⟨.refl d, by omega, s3⟩
  | succ n ih =>
    intro i j d hn ha hij hj
    rw [Sort.partLoop_eq]
    obtain ⟨s1, s2, s3, s4, s5⟩ := scans (p := fun x => ltS x d[a]!) (q := fun x => !ltS x d[a]!) (e := d) (i := i) (j := j) (fun x => rfl) hij (by omega)
    split
    · exact ⟨.refl d, by omega, s3⟩
    · rename_i h
      have hlt := s5 h
      obtain ⟨k1, k2, k3⟩ := ih (Sort.scanUp (fun x => ltS x d[a]!) d j i + 1) (Sort.scanDown (fun x => !ltS x d[a]!) d (Sort.scanUp (fun x => ltS x d[a]!) d j i) j - 1) (Sort.swp d (Sort.scanUp (fun x => ltS x d[a]!) d j i) (Sort.scanDown (fun x => !ltS x d[a]!) d (Sort.scanUp (fun x => ltS x d[a]!) d j i) j)) (by omega) (by omega) (by omega) (by rw [swp_size]; omega)
      exact ⟨(Keeps.swp (by omega) (by omega)).trans k1, by omega, by omega⟩

theorem partEq_facts {d : Array Sp} {a b pv : Nat} (hab : a < b) (hb : b ≤ d.size) (hpv : pv < d.size) : Keeps d (Sort.partitionEqual ltS d a b pv).2 ∧ a < (Sort.partitionEqual ltS d a b pv).1 ∧ (Sort.partitionEqual ltS d a b pv).1 ≤ b := by
  obtain ⟨k1, k2, k3⟩ := partEqLoop_facts a _ (a + 1) (b - 1) (Sort.swp d a pv) (Nat.le_refl _) (by omega) (by omega) (by rw [swp_size]; omega)
  have e : Sort.partitionEqual ltS d a b pv = Sort.partEqLoop ltS a (a + 1) (b - 1) (Sort.swp d a pv) := rfl
  rw [e]
  exact ⟨(Keeps.swp (by omega) hpv).trans k1, by omega, by omega⟩

theorem part_facts {d : Array Sp} {a b pv : Nat} (hab : a ≤ pv) (hpv : pv < b) (hb : b ≤ d.size) : Keeps d (Sort.partition ltS d a b pv).2.2 ∧ a ≤ (Sort.partition ltS d a b pv).1 ∧ (Sort.partition ltS d a b pv).1 < b := by
  obtain ⟨h1, h2, h3, _⟩ := Sort.partition_holds ltS swo_ltS d a b pv hab hpv hb
  exact ⟨.ofPerm hb h3, h1, h2⟩

theorem partialIns_keeps (a b : Nat) : ∀ (s i : Nat) (d : Array Sp), a < i → i ≤ b → b ≤ d.size → Keeps d (Sort.partialIns ltS a b s i d).1
  | 0, i, d, _, _, _ => .refl d
  | s + 1, i, d, ha, hi, hb => by
    obtain ⟨r1, r2⟩ := scanSorted_range b d _ i rfl hi
    rw [Sort.partialIns]
    generalize Sort.scanSorted ltS d b i = i2 at *
    simp only
    split
    · exact .refl d
    · split
      · exact .refl d
      · rename_i h1 h2
        have k1 : Keeps d (Sort.swp d i2 (i2 - 1)) := Keeps.swp (by omega) (by omega)
        generalize Sort.swp d i2 (i2 - 1) = e1 at *
        have k2 : Keeps d (if i2 - a ≥ 2 then Sort.shiftDown ltS (i2 - 1) e1 else e1) := by
          split
          · exact k1.trans (shiftDown_keeps _ _ (by rw [k1.1]; omega))
          · exact k1
        generalize (if i2 - a ≥ 2 then Sort.shiftDown ltS (i2 - 1) e1 else e1) = e2 at *
        have k3 : Keeps d (if b - i2 ≥ 2 then Sort.shiftUp ltS b (i2 + 1) e2 else e2) := by
          split
          · exact k2.trans (shiftUp_keeps b _ _ _ rfl (by rw [k2.1]; exact hb))
          · exact k2
        generalize (if b - i2 ≥ 2 then Sort.shiftUp ltS b (i2 + 1) e2 else e2) = e3 at *
        exact k3.trans (partialIns_keeps a b s i2 e3 (by omega) (by omega) (by rw [k3.1]; exact hb))

/-! ### pdqsort, in the stages of its text -/
def rest6 (e : Array Sp) (a b limit pv : Nat) (wb wp : Bool) : Array Sp :=
  if a > 0 && !ltS e[a - 1]! e[pv]! then
    match Sort.partitionEqual ltS e a b pv with
    | (mid, d4) => if _h : a < mid ∧ mid ≤ b then Sort.pdq ltS d4 mid b limit wb wp else d4
  else
    match Sort.partition ltS e a b pv with
    | (mid, ap, d4) =>
      if _h : a ≤ mid ∧ mid < b then
        if mid - a < b - mid then Sort.pdq ltS (Sort.pdq ltS d4 a mid limit true true) (mid + 1) b limit (decide (mid - a ≥ (b - a) / 8)) ap
        else Sort.pdq ltS (Sort.pdq ltS d4 (mid + 1) b limit true true) a mid limit (decide (b - mid ≥ (b - a) / 8)) ap
      else d4

def rest5 (e : Array Sp) (a b limit pv : Nat) (hint : Sort.Hint) (wb wp : Bool) : Array Sp :=
  if wb && wp && hint = .increasing then
    if (Sort.partialInsertionSort ltS e a b).2 then (Sort.partialInsertionSort ltS e a b).1 else rest6 (Sort.partialInsertionSort ltS e a b).1 a b limit pv wb wp
  else rest6 e a b limit pv wb wp

def rest4 (e : Array Sp) (a b limit pv : Nat) (hint : Sort.Hint) (wb wp : Bool) : Array Sp :=
  if hint = .decreasing then rest5 (Sort.reverseRange e a b) a b limit ((b - 1) - (pv - a)) .increasing wb wp else rest5 e a b limit pv hint wb wp

def rest2 (e : Array Sp) (a b limit : Nat) (wb wp : Bool) : Array Sp :=
  let e1 := if !wb then Sort.breakPatterns e a b else e
  rest4 e1 a b (if !wb then limit - 1 else limit) (Sort.choosePivot ltS e1 a b).1 (Sort.choosePivot ltS e1 a b).2 wb wp

theorem pdq_stages (e : Array Sp) (a b limit : Nat) (wb wp : Bool) : Sort.pdq ltS e a b limit wb wp =
    if b - a ≤ 12 then Sort.insertionSort ltS e a b else if limit = 0 then Sort.heapSort ltS e a b else rest2 e a b limit wb wp := by
  rw [Sort.pdq]
  split
  · rfl
  · split
    · rfl
    · unfold rest2 rest4 rest5
      generalize (if (!wb) = true then Sort.breakPatterns e a b else e) = e1
      generalize (if (!wb) = true then limit - 1 else limit) = lim
      simp only
      by_cases hd : (Sort.choosePivot ltS e1 a b).2 = .decreasing
      · simp only [if_pos hd]
        cases wb <;> cases wp <;> rfl
      · simp only [if_neg hd]
        by_cases hc : (wb && wp && decide ((Sort.choosePivot ltS e1 a b).2 = Sort.Hint.increasing)) = true
        · simp only [if_pos hc]; rfl
        · simp only [if_neg hc]; rfl
end Go.Proofs.YtdpbobkcbakpfaaGreatDoor

namespace Go.Proofs.YtdpbobkcbakpfaaGreatDoor
open Go Go.Ab
set_option maxRecDepth 100000

theorem breakPatterns_keeps {e : Array Sp} {a b : Nat} (hab : a ≤ b) (hb : b ≤ e.size) : Keeps e (Sort.breakPatterns e a b) := .ofPerm hb (Sort.breakPatterns_holds e a b hab hb)
theorem reverseRange_keeps {e : Array Sp} {a b : Nat} (hab : a ≤ b) (hb : b ≤ e.size) : Keeps e (Sort.reverseRange e a b) := .ofPerm hb (Sort.reverseRange_holds e a b hab hb)

theorem pdq_keeps : ∀ (N : Nat) (e : Array Sp) (a b limit : Nat) (wb wp : Bool), b - a ≤ N → a ≤ b → b ≤ e.size → Keeps e (Sort.pdq ltS e a b limit wb wp) := by
  intro N
  induction N with
  | zero =>
    intro e a b limit wb wp hN hab hb
    rw [pdq_stages, if_pos (by omega)]
    exact .ofPerm hb (Sort.insertionSort_holds swo_ltS e a b hab hb).1
  | succ N ih =>
    intro e a b limit wb wp hN hab hb
    rw [pdq_stages]
    split
    · exact .ofPerm hb (Sort.insertionSort_holds swo_ltS e a b hab hb).1
    · split
      · exact .ofPerm hb (Sort.heapSort_holds swo_ltS e a b hab hb).1
      · rename_i h12 h0
        have k6 : ∀ (f : Array Sp) (lim pv : Nat), Keeps e f → a ≤ pv → pv < b → Keeps e (rest6 f a b lim pv wb wp) := by
          intro f lim pv kf p1 p2
          have fs := kf.1
          unfold rest6
          split
          · obtain ⟨q1, q2, q3⟩ := partEq_facts (d := f) (a := a) (b := b) (pv := pv) (by omega) (by omega) (by omega)
            generalize Sort.partitionEqual ltS f a b pv = r at *
            obtain ⟨mid, d4⟩ := r
            simp only at q1 q2 q3 ⊢
            rw [dif_pos ⟨q2, q3⟩]
            exact (kf.trans q1).trans (ih d4 mid b lim wb wp (by omega) (by omega) (by rw [(kf.trans q1).1]; exact hb))
          · obtain ⟨q1, q2, q3⟩ := part_facts (d := f) (a := a) (b := b) (pv := pv) p1 p2 (by omega)
            generalize Sort.partition ltS f a b pv = r at *
            obtain ⟨mid, ap, d4⟩ := r
            simp only at q1 q2 q3 ⊢
            have k4 := kf.trans q1
            rw [dif_pos ⟨q2, q3⟩]
            split
            · have k5 := k4.trans (ih d4 a mid lim true true (by omega) (by omega) (by rw [k4.1]; omega))
              exact k5.trans (ih _ (mid + 1) b lim _ ap (by omega) (by omega) (by rw [k5.1]; exact hb))
            · have k5 := k4.trans (ih d4 (mid + 1) b lim true true (by omega) (by omega) (by rw [k4.1]; omega))
              exact k5.trans (ih _ a mid lim _ ap (by omega) (by omega) (by rw [k5.1]; omega))
        have k5 : ∀ (f : Array Sp) (lim pv : Nat) (hint : Sort.Hint), Keeps e f → a ≤ pv → pv < b → Keeps e (rest5 f a b lim pv hint wb wp) := by
          intro f lim pv hint kf p1 p2
          have kp : Keeps e (Sort.partialInsertionSort ltS f a b).1 := kf.trans (partialIns_keeps a b 5 (a + 1) f (by omega) (by omega) (by rw [kf.1]; exact hb))
          unfold rest5
          split
          · split
            · exact kp
            · exact k6 _ _ _ kp p1 p2
          · exact k6 _ _ _ kf p1 p2
        have k4 : ∀ (f : Array Sp) (lim pv : Nat) (hint : Sort.Hint), Keeps e f → a ≤ pv → pv < b → Keeps e (rest4 f a b lim pv hint wb wp) := by
          intro f lim pv hint kf p1 p2
          unfold rest4
          split
          · exact k5 _ _ _ _ (kf.trans (reverseRange_keeps (by omega) (by rw [kf.1]; exact hb))) (by omega) (by omega)
          · exact k5 _ _ _ _ kf p1 p2
        unfold rest2
        simp only
        have k1 : Keeps e (if (!wb) = true then Sort.breakPatterns e a b else e) := by
          split
          · exact breakPatterns_keeps (by omega) hb
          · exact .refl e
        have pr := Sort.choosePivot_holds ltS (if (!wb) = true then Sort.breakPatterns e a b else e) a b (by omega)
        exact k4 _ _ _ _ k1 pr.1 pr.2

/-- What pdqsort is known to do, on parts that are shorter. -/
def PdqOk (id ver N : Nat) (tight : Bool) : Prop :=
  ∀ (h : Hp) (n0 a b limit : Nat) (d : Array Sp), b - a < N → Data h id ver d → HeapOk h n0 → id < n0 → a ≤ b → b ≤ d.size → d.size ≤ 100000 → limit ≤ 100 → (∀ x ∈ d, small x) →
    ISp Tryz.prog 207 h n0 [.one (.ref id ver 0 d.size 2 tight), .one (.t (I a)), .one (.t (I b)), .one (.t (I limit)), .one (.fn 161 [])] (.tup []) (putD' h id ver (Sort.pdq ltS d a b limit true true))

/-- Between two rounds of pdqsort's loop. -/
structure PI (h : Hp) (n0 id ver : Nat) (tight : Bool) (d G : Array Sp) (a b limit : Nat) (wb wp : Bool) (e : Array Sp) (st : St) : Prop where
  ab : a ≤ b
  bs : b ≤ d.size
  lim : limit ≤ 100
  keeps : Keeps d e
  heap : st.heap = putD' h id ver e
  nx : n0 ≤ st.nx
  out : Sort.pdq ltS e a b limit wb wp = G
  t0 : st.tmps 0 = .one (.ref id ver 0 d.size 2 tight)
  t1 : st.tmps 1 = .one (.t (I a))
  t2 : st.tmps 2 = .one (.t (I b))
  t3 : st.tmps 3 = .one (.t (I limit))
  t4 : st.tmps 4 = .one (.fn 161 [])
  t10 : st.tmps 10 = .one (.t (.bool wb))
  t11 : st.tmps 11 = .one (.t (.bool wp))

def c207s8 : ACode := .seq (.region 20 false 11 c207r20) (.seq (.region 21 false 2 c207r21) (.seq (.region 22 false 8 c207r22) (.seq (.region 23 false 3 c207r23) (.seq (.region 24 false 3 c207r24) (.cond (X.tmp 125) (.seq (.region 25 false 4 c207r25) (.seq (.region 26 false 6 c207r26) (.region 27 false 3 c207r27))) (.seq (.region 28 false 4 c207r28) (.seq (.region 29 false 7 c207r29) (.region 30 false 2 c207r30))))))))
def c207s6 : ACode := .seq (.seq (.region 17 true 17 c207r17) (.cond (X.tmp 97) (.seq (.region 18 false 7 c207r18) (.seq (.region 19 false 2 c207r19) (.exit 1))) .skip)) c207s8
def c207s5 : ACode := .seq (.seq (.region 15 false 8 c207r15) (.cond (X.tmp 75) (.seq (.region 16 false 5 c207r16) (.cond (X.tmp 80) .ret .skip)) .skip)) c207s6
def c207s4 : ACode := .seq (.seq (.region 11 false 2 c207r11) (.cond (X.tmp 56) (.seq (.region 12 false 5 c207r12) (.seq (.region 13 false 7 c207r13) (.region 14 false 1 c207r14))) .skip)) c207s5
def c207s2 : ACode := .seq (.seq (.region 7 false 2 c207r7) (.cond (X.tmp 39) (.seq (.region 8 false 5 c207r8) (.region 9 false 3 c207r9)) .skip)) (.seq (.region 10 false 10 c207r10) c207s4)
theorem c207b31_eq : c207b31 = .block 1 (.seq (.region 2 false 4 c207r2) (.seq (.seq (.region 3 false 2 c207r3) (.cond (X.tmp 25) (.seq (.region 4 false 5 c207r4) .ret) .skip)) (.seq (.seq (.region 5 false 2 c207r5) (.cond (X.tmp 32) (.seq (.region 6 false 5 c207r6) .ret) .skip)) c207s2))) := rfl

/-- What is common to the stages. -/
structure PS (h : Hp) (n0 id ver : Nat) (tight : Bool) (d : Array Sp) (a b limit pv : Nat) (wb wp : Bool) (e : Array Sp) (st : St) : Prop where
  ab : a + 12 < b
  bs : b ≤ d.size
  lim : limit ≤ 100
  p1 : a ≤ pv
  p2 : pv < b
  keeps : Keeps d e
  heap : st.heap = putD' h id ver e
  nx : n0 ≤ st.nx
  t0 : st.tmps 0 = .one (.ref id ver 0 d.size 2 tight)
  t1 : st.tmps 1 = .one (.t (I a))
  t2 : st.tmps 2 = .one (.t (I b))
  t3 : st.tmps 3 = .one (.t (I limit))
  t4 : st.tmps 4 = .one (.fn 161 [])
  t10 : st.tmps 10 = .one (.t (.bool wb))
  t11 : st.tmps 11 = .one (.t (.bool wp))
  t12 : st.tmps 12 = .one (.t (I ((b - a : Nat) : Int)))
  t13 : st.tmps 13 = .one (.t (I pv))

abbrev pEnd (h : Hp) (n0 id ver : Nat) (G : Array Sp) : Exit → St → Prop := impEnd [] (.tup []) (putD' h id ver G) n0

theorem stage8 {h : Hp} {n0 id ver : Nat} {tight : Bool} {d G : Array Sp} {a b limit pv : Nat} {wb wp : Bool} {e : Array Sp} {st : St} {J : St → Prop} (ho : HeapOk h n0) (hid : id < n0) (hsz : d.size ≤ 100000) (hsm : ∀ x ∈ d, small x)
    (ps : PS h n0 id ver tight d a b limit pv wb wp e st) (IH : PdqOk id ver (b - a) tight)
    (hout : (match Sort.partition ltS e a b pv with
    | (mid, ap, d4) =>
      if _h : a ≤ mid ∧ mid < b then
        if mid - a < b - mid then Sort.pdq ltS (Sort.pdq ltS d4 a mid limit true true) (mid + 1) b limit (decide (mid - a ≥ (b - a) / 8)) ap
        else Sort.pdq ltS (Sort.pdq ltS d4 (mid + 1) b limit true true) a mid limit (decide (b - mid ≥ (b - a) / 8)) ap
      else d4) = G)
    (hJ : ∀ (a' b' : Nat) (wb' wp' : Bool) (e' : Array Sp) (st' : St), b' - a' < b - a → PI h n0 id ver tight d G a' b' limit wb' wp' e' st' → J st') :
    awpK Tryz.prog 148 (pEnd h n0 id ver G) c207s8 [.blk 1, .post J, .blk 0] st := by
  obtain ⟨ab, bs, lim, p1, p2, keeps, heap, nx, t0, t1, t2, t3, t4, t10, t11, t12, t13⟩ := ps
  have hes := keeps.1
  obtain ⟨q1, q2, q3⟩ := part_facts (d := e) (a := a) (b := b) (pv := pv) p1 p2 (by omega)
  have hc := partP st.heap (st.nx + 5) id ver a b pv tight e (by rw [heap]; exact data_put) (by rw [heap]; exact HeapOk.more (HeapOk.put ho hid) (by omega)) (by omega) (by omega) (by omega) (by omega) (by omega) (keeps.2 hsm)
  rw [hes] at hc
  simp [c207s8, c207r20, t0, t1, t2, t4, t13]
  refine callK.imp hc ?_
  generalize Sort.partition ltS e a b pv = r at *
  obtain ⟨mid, ap, d4⟩ := r
  simp only at q1 q2 q3 hout ⊢
  rw [dif_pos ⟨q2, q3⟩] at hout
  have k4 := keeps.trans q1
  have w1 : IntKind.i64.wrap ((mid : Int) - a) = ((mid - a : Nat) : Int) := nat_wrap _ (by omega) (by omega)
  have w2 : IntKind.i64.wrap ((b : Int) - mid) = ((b - mid : Nat) : Int) := nat_wrap _ (by omega) (by omega)
  obtain ⟨l, hl⟩ : ∃ l : Nat, l = b - a := ⟨_, rfl⟩
  rw [← hl] at t12
  have w3 : IntKind.i64.wrap ((l : Int) / 8) = ((l / 8 : Nat) : Int) := nat_wrap _ (by omega) (by omega)
  have w4 : IntKind.i64.wrap ((mid : Int) + 1) = ((mid + 1 : Nat) : Int) := nat_wrap _ (by omega) (by omega)
  obtain ⟨ma, hma⟩ : ∃ x : Nat, x = mid - a := ⟨_, rfl⟩
  obtain ⟨bm, hbm⟩ : ∃ x : Nat, x = b - mid := ⟨_, rfl⟩
  obtain ⟨l8, hl8⟩ : ∃ x : Nat, x = l / 8 := ⟨_, rfl⟩
  obtain ⟨m1, hm1⟩ : ∃ x : Nat, x = mid + 1 := ⟨_, rfl⟩
  rw [← hma] at w1; rw [← hbm] at w2; rw [← hl8] at w3; rw [← hm1] at w4
  rw [← hma, ← hbm, ← hl, ← hl8, ← hm1] at hout
  have hput : putD' st.heap id ver d4 = putD' h id ver d4 := by rw [heap, put_put]
  rw [hput]
  simp [c207r21, c207r22, c207r23, c207r24, t1, t2, t12, w1, w2, w3]
  constructor
  · intro hlt
    rw [if_pos hlt] at hout
    have hr := IH (putD' h id ver d4) (st.nx + 11 + 2 + 8 + 3 + 3 + 4 + 5) a mid limit d4 (by omega) data_put (HeapOk.more (HeapOk.put ho hid) (by omega)) (by omega) (by omega) (by rw [k4.1]; omega) (by rw [k4.1]; exact hsz) lim (k4.2 hsm)
    rw [k4.1] at hr
    have k5 := k4.trans (pdq_keeps _ d4 a mid limit true true (Nat.le_refl _) (by omega) (by rw [k4.1]; omega))
    simp [c207r25, c207r26, t0, t1, t3, t4]
    refine callK.imp hr ?_
    rw [put_put]
    simp [c207r27, w4]
    refine hJ m1 b _ ap (Sort.pdq ltS d4 a mid limit true true) _ (by omega) ⟨by omega, bs, lim, k5, rfl, by simp; omega, hout, by simp [t0], by simp, by simp [t2], by simp [t3], by simp [t4], ?_, by simp⟩
    simp
  · intro hge
    have hge' : ¬ ma < bm := by omega
    rw [if_neg hge'] at hout
    have hr := IH (putD' h id ver d4) (st.nx + 11 + 2 + 8 + 3 + 3 + 4 + 6) m1 b limit d4 (by omega) data_put (HeapOk.more (HeapOk.put ho hid) (by omega)) (by omega) (by omega) (by rw [k4.1]; omega) (by rw [k4.1]; exact hsz) lim (k4.2 hsm)
    rw [k4.1] at hr
    have k5 := k4.trans (pdq_keeps _ d4 m1 b limit true true (Nat.le_refl _) (by omega) (by rw [k4.1]; omega))
    simp [c207r28, c207r29, t0, t2, t3, t4, w4]
    refine callK.imp hr ?_
    rw [put_put]
    simp [c207r30]
    refine hJ a mid _ ap (Sort.pdq ltS d4 m1 b limit true true) _ (by omega) ⟨by omega, by omega, lim, k5, rfl, by simp; omega, hout, by simp [t0], by simp [t1], by simp, by simp [t3], by simp [t4], ?_, by simp⟩
    simp
end Go.Proofs.YtdpbobkcbakpfaaGreatDoor

namespace Go.Proofs.YtdpbobkcbakpfaaGreatDoor
open Go Go.Ab
set_option maxRecDepth 100000

theorem stage6 {h : Hp} {n0 id ver : Nat} {tight : Bool} {d G : Array Sp} {a b limit pv : Nat} {wb wp : Bool} {e : Array Sp} {st : St} {J : St → Prop} (ho : HeapOk h n0) (hid : id < n0) (hsz : d.size ≤ 100000) (hsm : ∀ x ∈ d, small x)
    (ps : PS h n0 id ver tight d a b limit pv wb wp e st) (IH : PdqOk id ver (b - a) tight) (hout : rest6 e a b limit pv wb wp = G)
    (hJ : ∀ (a' b' : Nat) (wb' wp' : Bool) (e' : Array Sp) (st' : St), b' - a' < b - a → PI h n0 id ver tight d G a' b' limit wb' wp' e' st' → J st') :
    awpK Tryz.prog 148 (pEnd h n0 id ver G) c207s6 [.blk 1, .post J, .blk 0] st := by
  have ps' := ps
  obtain ⟨ab, bs, lim, p1, p2, keeps, heap, nx, t0, t1, t2, t3, t4, t10, t11, t12, t13⟩ := ps
  have hes := keeps.1
  have hdat : Data st.heap id ver e := by rw [heap]; exact data_put
  have hln : (st.heap.rows id).length = e.size := by rw [hdat.rows]; simp
  unfold rest6 at hout
  by_cases ha : a > 0
  · have haI : (0 : Int) < a := by omega
    obtain ⟨y, hy⟩ : ∃ y : Nat, y = a - 1 := ⟨_, rfl⟩
    have q1 : y < e.size := by omega
    have q2 : pv < e.size := by omega
    have q1' : y < d.size := by omega
    have q2' : pv < d.size := by omega
    have g1 := rowAt hdat q1
    have g2 := rowAt hdat q2
    have s1 : small e[y] := keeps.2 hsm _ (Array.getElem_mem _)
    have s2 : small e[pv] := keeps.2 hsm _ (Array.getElem_mem _)
    have wy : IntKind.i64.wrap ((a : Int) - 1) = (y : Int) := nat_wrap _ (by omega) (by omega)
    rw [← hy, getElem!_pos e y q1, getElem!_pos e pv q2] at hout
    simp [c207s6, c207r17, t0, t1, t4, t13, ha, wy, hdat.alive, hdat.sz, hln, g1, g2, q1, q2, q1', q2', take_cell]
    refine ⟨161, [], ⟨rfl, rfl⟩, callable161, ?_⟩
    refine callK.draw (cmpP e[y] e[pv] s1 s2) (by simp [cell]) (by simp [cell]) (by simp) ?_
    by_cases hl : ltS e[y] e[pv] = true
    · have hl' : e[y].1 - e[pv].1 < 0 := by simp [ltS] at hl; omega
      rw [if_neg (by simp [hl])] at hout
      simp [hl']
      exact stage8 (wb := wb) (wp := wp) ho hid hsz hsm ⟨ab, bs, lim, p1, p2, keeps, by simp [heap], by simp; omega, by simp [t0], by simp [t1], by simp [t2], by simp [t3], by simp [t4], by simp [t10], by simp [t11], by simp [t12], by simp [t13]⟩ IH hout hJ
    · have hl' : ¬ e[y].1 - e[pv].1 < 0 := by simp [ltS] at hl; omega
      rw [if_pos (by simp [hl, ha])] at hout
      simp [hl', c207r18, t0, t1, t2, t4, t13]
      have hc := partEqP st.heap (st.nx + 17 + 5) id ver a b pv tight e hdat (by rw [heap]; exact HeapOk.more (HeapOk.put ho hid) (by omega)) (by omega) (by omega) (by omega) q2 (by omega) (keeps.2 hsm)
      obtain ⟨r1, r2, r3⟩ := partEq_facts (d := e) (a := a) (b := b) (pv := pv) (by omega) (by omega) q2
      rw [hes] at hc
      refine callK.imp hc ?_
      generalize Sort.partitionEqual ltS e a b pv = r at *
      obtain ⟨mid, d4⟩ := r
      simp only at r1 r2 r3 hout ⊢
      rw [dif_pos ⟨r2, r3⟩] at hout
      simp [c207r19]
      exact hJ mid b wb wp d4 _ (by omega) ⟨r3, bs, lim, keeps.trans r1, by simp [heap, put_put], by simp; omega, hout, by simp [t0], by simp, by simp [t2], by simp [t3], by simp [t4], by simp [t10], by simp [t11]⟩
  · have haI : ¬ (0 : Int) < a := by omega
    have ha0 : a = 0 := by omega
    rw [if_neg (by simp [ha])] at hout
    simp [c207s6, c207r17, t0, t1, t4, t13, ha0]
    exact stage8 (wb := wb) (wp := wp) ho hid hsz hsm ⟨ab, bs, lim, p1, p2, keeps, by simp [heap], by simp; omega, by simp [t0], by simp [t1], by simp [t2], by simp [t3], by simp [t4], by simp [t10], by simp [t11], by simp [t12], by simp [t13]⟩ IH hout hJ

theorem stage5 {h : Hp} {n0 id ver : Nat} {tight : Bool} {d G : Array Sp} {a b limit pv : Nat} {wb wp : Bool} {e : Array Sp} {st : St} {J : St → Prop} (hint : Sort.Hint) (ho : HeapOk h n0) (hid : id < n0) (hsz : d.size ≤ 100000) (hsm : ∀ x ∈ d, small x)
    (ps : PS h n0 id ver tight d a b limit pv wb wp e st) (t14 : st.tmps 14 = .one (.t (I (hintI hint)))) (IH : PdqOk id ver (b - a) tight) (hout : rest5 e a b limit pv hint wb wp = G)
    (hJ : ∀ (a' b' : Nat) (wb' wp' : Bool) (e' : Array Sp) (st' : St), b' - a' < b - a → PI h n0 id ver tight d G a' b' limit wb' wp' e' st' → J st') :
    awpK Tryz.prog 148 (pEnd h n0 id ver G) c207s5 [.blk 1, .post J, .blk 0] st := by
  have ps' := ps
  obtain ⟨ab, bs, lim, p1, p2, keeps, heap, nx, t0, t1, t2, t3, t4, t10, t11, t12, t13⟩ := ps
  have hes := keeps.1
  have hdat : Data st.heap id ver e := by rw [heap]; exact data_put
  have hcond : (wb && wp && decide (hint = .increasing)) = (wb && wp && decide (hintI hint = 1)) := by cases hint <;> rfl
  unfold rest5 at hout
  rw [hcond] at hout
  by_cases hc : (wb && wp && decide (hintI hint = 1)) = true
  · rw [if_pos hc] at hout
    simp at hc
    obtain ⟨⟨rfl, rfl⟩, h1⟩ := hc
    simp [c207s5, c207r15, t0, t1, t2, t4, t10, t11, t14, h1, c207r16]
    have hp := partialInsP st.heap (st.nx + 8 + 4) id ver a b tight e hdat (by rw [heap]; exact HeapOk.more (HeapOk.put ho hid) (by omega)) (by omega) (by omega) (by omega) (by omega) (keeps.2 hsm)
    have kp : Keeps d (Sort.partialInsertionSort ltS e a b).1 := keeps.trans (partialIns_keeps a b 5 (a + 1) e (by omega) (by omega) (by omega))
    rw [hes] at hp
    refine callK.imp hp ?_
    generalize Sort.partialInsertionSort ltS e a b = r at *
    obtain ⟨f, ok⟩ := r
    simp only at kp hout ⊢
    cases ok with
    | true =>
      rw [if_pos rfl] at hout
      simp
      exact impEnd_same (.inr rfl) rfl (by simp [heap, put_put, hout]) (HeapOk.put ho hid)
    | false =>
      rw [if_neg (by simp)] at hout
      simp
      exact stage6 ho hid hsz hsm ⟨ab, bs, lim, p1, p2, kp, by simp [heap, put_put], by simp; omega, by simp [t0], by simp [t1], by simp [t2], by simp [t3], by simp [t4], by simp [t10], by simp [t11], by simp [t12], by simp [t13]⟩ IH hout hJ
  · rw [if_neg hc] at hout
    cases wb <;> cases wp <;> simp at hc <;> simp [c207s5, c207r15, t10, t11, t14, hc] <;>
      exact stage6 ho hid hsz hsm ⟨ab, bs, lim, p1, p2, keeps, by simp [heap], by simp; omega, by simp [t0], by simp [t1], by simp [t2], by simp [t3], by simp [t4], by simp [t10], by simp [t11], by simp [t12], by simp [t13]⟩ IH hout hJ
end Go.Proofs.YtdpbobkcbakpfaaGreatDoor

namespace Go.Proofs.YtdpbobkcbakpfaaGreatDoor
open Go Go.Ab
set_option maxRecDepth 100000

theorem stage4 {h : Hp} {n0 id ver : Nat} {tight : Bool} {d G : Array Sp} {a b limit pv : Nat} {wb wp : Bool} {e : Array Sp} {st : St} {J : St → Prop} (hint : Sort.Hint) (ho : HeapOk h n0) (hid : id < n0) (hsz : d.size ≤ 100000) (hsm : ∀ x ∈ d, small x)
    (ps : PS h n0 id ver tight d a b limit pv wb wp e st) (t14 : st.tmps 14 = .one (.t (I (hintI hint)))) (IH : PdqOk id ver (b - a) tight) (hout : rest4 e a b limit pv hint wb wp = G)
    (hJ : ∀ (a' b' : Nat) (wb' wp' : Bool) (e' : Array Sp) (st' : St), b' - a' < b - a → PI h n0 id ver tight d G a' b' limit wb' wp' e' st' → J st') :
    awpK Tryz.prog 148 (pEnd h n0 id ver G) c207s4 [.blk 1, .post J, .blk 0] st := by
  have ps' := ps
  obtain ⟨ab, bs, lim, p1, p2, keeps, heap, nx, t0, t1, t2, t3, t4, t10, t11, t12, t13⟩ := ps
  have hes := keeps.1
  have hdat : Data st.heap id ver e := by rw [heap]; exact data_put
  unfold rest4 at hout
  by_cases hd : hint = .decreasing
  · rw [if_pos hd] at hout
    subst hd
    obtain ⟨pv2, hpv2⟩ : ∃ x : Nat, x = (b - 1) - (pv - a) := ⟨_, rfl⟩
    obtain ⟨b1, hb1⟩ : ∃ x : Nat, x = b - 1 := ⟨_, rfl⟩
    obtain ⟨pa, hpa⟩ : ∃ x : Nat, x = pv - a := ⟨_, rfl⟩
    have w1 : IntKind.i64.wrap ((b : Int) - 1) = (b1 : Int) := nat_wrap _ (by omega) (by omega)
    have w2 : IntKind.i64.wrap ((pv : Int) - a) = (pa : Int) := nat_wrap _ (by omega) (by omega)
    have w3 : IntKind.i64.wrap ((b1 : Int) - pa) = (pv2 : Int) := nat_wrap _ (by omega) (by omega)
    rw [← hpv2] at hout
    simp [c207s4, c207r11, c207r12, t0, t1, t2, t4, t14, hintI]
    have hr := reverseP st.heap (st.nx + 2 + 4) id ver a b tight e hdat (by rw [heap]; exact HeapOk.more (HeapOk.put ho hid) (by omega)) (by omega) (by omega) (by omega) (by omega) (.one (.fn 161 [])) rfl
    rw [hes] at hr
    refine callK.imp hr ?_
    simp [c207r13, c207r14, t1, t2, t13, w1, w2, w3]
    exact stage5 .increasing ho hid hsz hsm ⟨ab, bs, lim, by omega, by omega, keeps.trans (reverseRange_keeps (by omega) (by omega)), by simp [heap, put_put], by simp; omega, by simp [t0], by simp [t1], by simp [t2], by simp [t3], by simp [t4], by simp [t10], by simp [t11], by simp [t12], by simp⟩ (by simp [hintI]) IH hout hJ
  · rw [if_neg hd] at hout
    have hne : ¬ hintI hint = 2 := by cases hint <;> simp [hintI] at hd ⊢
    simp [c207s4, c207r11, t14, hne]
    exact stage5 hint ho hid hsz hsm ⟨ab, bs, lim, p1, p2, keeps, by simp [heap], by simp; omega, by simp [t0], by simp [t1], by simp [t2], by simp [t3], by simp [t4], by simp [t10], by simp [t11], by simp [t12], by simp [t13]⟩ (by simp [t14]) IH hout hJ

/-- The choice of the pivot, and on. -/
theorem stage3 {h : Hp} {n0 id ver : Nat} {tight : Bool} {d G : Array Sp} {a b limit : Nat} {wb wp : Bool} {e : Array Sp} {st : St} {J : St → Prop} (ho : HeapOk h n0) (hid : id < n0) (hsz : d.size ≤ 100000) (hsm : ∀ x ∈ d, small x)
    (ab : a + 12 < b) (bs : b ≤ d.size) (lim : limit ≤ 100) (keeps : Keeps d e) (heap : st.heap = putD' h id ver e) (nx : n0 ≤ st.nx)
    (t0 : st.tmps 0 = .one (.ref id ver 0 d.size 2 tight)) (t1 : st.tmps 1 = .one (.t (I a))) (t2 : st.tmps 2 = .one (.t (I b))) (t3 : st.tmps 3 = .one (.t (I limit))) (t4 : st.tmps 4 = .one (.fn 161 []))
    (t10 : st.tmps 10 = .one (.t (.bool wb))) (t11 : st.tmps 11 = .one (.t (.bool wp))) (t12 : st.tmps 12 = .one (.t (I ((b - a : Nat) : Int))))
    (IH : PdqOk id ver (b - a) tight) (hout : rest4 e a b limit (Sort.choosePivot ltS e a b).1 (Sort.choosePivot ltS e a b).2 wb wp = G)
    (hJ : ∀ (a' b' : Nat) (wb' wp' : Bool) (e' : Array Sp) (st' : St), b' - a' < b - a → PI h n0 id ver tight d G a' b' limit wb' wp' e' st' → J st') :
    segWP Tryz.prog false st.nx c207r10 (regK (kont Tryz.prog 148 (pEnd h n0 id ver G) [.thn c207s4, .blk 1, .post J, .blk 0]) (st.nx + 10)) 0 st.tmps st.heap := by
  have hes := keeps.1
  have hdat : Data st.heap id ver e := by rw [heap]; exact data_put
  have hc := choosePivotP st.heap (st.nx + 4) id ver a b tight e hdat (by rw [heap]; exact HeapOk.more (HeapOk.put ho hid) (by omega)) (by omega) (by omega) (by omega) (by omega) (keeps.2 hsm)
  have pr := Sort.choosePivot_holds ltS e a b (by omega)
  rw [hes] at hc
  simp [c207r10, t0, t1, t2, t4]
  refine callK.imp hc ?_
  generalize Sort.choosePivot ltS e a b = r at *
  obtain ⟨pv, hint⟩ := r
  simp only at pr hout ⊢
  simp
  exact stage4 hint ho hid hsz hsm ⟨ab, bs, lim, pr.1, pr.2, keeps, by simp [heap], by simp; omega, by simp [t0], by simp [t1], by simp [t2], by simp [t3], by simp [t4], by simp [t10], by simp [t11], by simp [t12], by simp⟩ (by simp) IH hout hJ

theorem stage2 {h : Hp} {n0 id ver : Nat} {tight : Bool} {d G : Array Sp} {a b limit : Nat} {wb wp : Bool} {e : Array Sp} {st : St} {J : St → Prop} (ho : HeapOk h n0) (hid : id < n0) (hsz : d.size ≤ 100000) (hsm : ∀ x ∈ d, small x)
    (ab : a + 12 < b) (bs : b ≤ d.size) (lim : limit ≤ 100) (h0 : ¬ limit = 0) (keeps : Keeps d e) (heap : st.heap = putD' h id ver e) (nx : n0 ≤ st.nx)
    (t0 : st.tmps 0 = .one (.ref id ver 0 d.size 2 tight)) (t1 : st.tmps 1 = .one (.t (I a))) (t2 : st.tmps 2 = .one (.t (I b))) (t3 : st.tmps 3 = .one (.t (I limit))) (t4 : st.tmps 4 = .one (.fn 161 []))
    (t10 : st.tmps 10 = .one (.t (.bool wb))) (t11 : st.tmps 11 = .one (.t (.bool wp))) (t12 : st.tmps 12 = .one (.t (I ((b - a : Nat) : Int))))
    (IH : PdqOk id ver (b - a) tight) (hout : rest2 e a b limit wb wp = G)
    (hJ : ∀ (a' b' limit' : Nat) (wb' wp' : Bool) (e' : Array Sp) (st' : St), b' - a' < b - a → PI h n0 id ver tight d G a' b' limit' wb' wp' e' st' → J st') :
    awpK Tryz.prog 148 (pEnd h n0 id ver G) c207s2 [.blk 1, .post J, .blk 0] st := by
  have hes := keeps.1
  have hdat : Data st.heap id ver e := by rw [heap]; exact data_put
  have hok : HeapOk st.heap n0 := by rw [heap]; exact HeapOk.put ho hid
  have r2 : ∀ w : Bool, rest2 e a b limit w wp = (match w with | true => rest4 e a b limit (Sort.choosePivot ltS e a b).1 (Sort.choosePivot ltS e a b).2 true wp | false => rest4 (Sort.breakPatterns e a b) a b (limit - 1) (Sort.choosePivot ltS (Sort.breakPatterns e a b) a b).1 (Sort.choosePivot ltS (Sort.breakPatterns e a b) a b).2 false wp) := fun w => by cases w <;> simp [rest2]
  rw [r2] at hout
  cases wb with
  | true =>
    simp only at hout
    simp [c207s2, c207r7, t10]
    exact stage3 (st := ⟨_, _, _⟩) (limit := limit) (wb := true) (wp := wp) ho hid hsz hsm ab bs lim keeps heap (Nat.le_trans nx (by simp <;> omega)) t0 t1 t2 t3 t4 t10 t11 t12 IH hout fun a' b' wb' wp' e' st' hlt hpi => hJ a' b' limit wb' wp' e' st' hlt hpi
  | false =>
    simp only at hout
    have kb : Keeps e (Sort.breakPatterns e a b) := breakPatterns_keeps (by omega) (by omega)
    have wl : IntKind.i64.wrap ((limit : Int) - 1) = ((limit - 1 : Nat) : Int) := nat_wrap _ (by omega) (by omega)
    simp [c207s2, c207r7, c207r8, t10, t0, t1, t2, t4]
    have hbp := breakPatternsP st.heap (st.nx + 2 + 4) id ver a b tight e hdat (HeapOk.more hok (by omega)) (by omega) (by omega) (by omega) (by omega) (.one (.fn 161 [])) rfl
    rw [hes] at hbp
    generalize Sort.breakPatterns e a b = e1 at *
    refine callK.imp hbp ?_
    simp [c207r9, t3, wl]
    exact stage3 (st := ⟨_, _, _⟩) (limit := limit - 1) (wb := false) (wp := wp) (e := e1) ho hid hsz hsm ab bs (by omega) (keeps.trans kb) (by rw [heap]; exact put_put) (Nat.le_trans nx (by simp <;> omega)) t0 t1 t2 rfl t4 t10 t11 t12 IH hout fun a' b' wb' wp' e' st' hlt hpi => hJ a' b' (limit - 1) wb' wp' e' st' hlt hpi

theorem PdqOk.less {id ver N M : Nat} {tight : Bool} (h : PdqOk id ver N tight) (hm : M ≤ N) : PdqOk id ver M tight :=
  fun h' n0 a b limit d hlt => h h' n0 a b limit d (by omega)

/-- Between two rounds, at most k elements. -/
def PIx (h : Hp) (n0 id ver : Nat) (tight : Bool) (d G : Array Sp) (N k : Nat) (st : St) : Prop := ∃ (a b limit : Nat) (wb wp : Bool) (e : Array Sp), k = b - a ∧ k ≤ N ∧ PI h n0 id ver tight d G a b limit wb wp e st

theorem pdqP (id ver : Nat) (tight : Bool) : ∀ N, PdqOk id ver N tight := by
  intro N
  induction N with
  | zero => intro h n0 a b limit d hlt; omega
  | succ N IH =>
    intro h n0 a0 b0 limit0 d hlt0 hd ho hid hab0 hb0 hsz hlim0 hsm
    refine k207.ispK (by simp) ?_
    obtain ⟨G, hG⟩ : ∃ G, G = Sort.pdq ltS d a0 b0 limit0 true true := ⟨_, rfl⟩
    rw [← hG]
    simp [c207, c207r0, c207r1]
    refine W.loopK (fun k st => PIx h n0 id ver tight d G N k st) (b0 - a0)
      ⟨a0, b0, limit0, true, true, d, rfl, by omega, ⟨hab0, hb0, hlim0, .refl d, by simp [hd.self], by simp <;> omega, hG.symm, by simp, by simp, by simp, by simp, by simp, by simp, by simp⟩⟩ ?_
    rintro k st ⟨a, b, limit, wb, wp, e, hk, hkN, pi⟩
    obtain ⟨ab, bs, lim, keeps, heap, nx, out, t0, t1, t2, t3, t4, t10, t11⟩ := pi
    have hes := keeps.1
    have hdat : Data st.heap id ver e := by rw [heap]; exact data_put
    have hok : HeapOk st.heap n0 := by rw [heap]; exact HeapOk.put ho hid
    obtain ⟨l, hl⟩ : ∃ l : Nat, l = b - a := ⟨_, rfl⟩
    have w1 : IntKind.i64.wrap ((b : Int) - a) = (l : Int) := nat_wrap _ (by omega) (by omega)
    rw [pdq_stages] at out
    rw [c207b31_eq]
    by_cases h12 : b - a ≤ 12
    · rw [if_pos h12] at out
      have h12I : (l : Int) ≤ 12 := by omega
      simp [c207r2, c207r3, c207r4, t0, t1, t2, t4, w1, h12I]
      have hi := insertionP st.heap (st.nx + 4 + 2 + 4) id ver a b tight e hdat (HeapOk.more hok (by omega)) (by omega) (by omega) (by omega) (by omega) (keeps.2 hsm)
      rw [hes] at hi
      refine callK.imp hi ?_
      simp
      exact impEnd_same (.inr rfl) rfl (by simp [heap, put_put, out]) (HeapOk.put ho hid)
    · rw [if_neg h12] at out
      have h12I : ¬ (l : Int) ≤ 12 := by omega
      by_cases h0 : limit = 0
      · rw [if_pos h0] at out
        subst h0
        simp [c207r2, c207r3, c207r5, c207r6, t0, t1, t2, t3, t4, w1, h12I]
        have hi := heapSortP st.heap (st.nx + 4 + 2 + 2 + 4) id ver a b tight e hdat (HeapOk.more hok (by omega)) (by omega) (by omega) (by omega) (by omega) (keeps.2 hsm)
        rw [hes] at hi
        refine callK.imp hi ?_
        simp
        exact impEnd_same (.inr rfl) rfl (by simp [heap, put_put, out]) (HeapOk.put ho hid)
      · rw [if_neg h0] at out
        have h0I : ¬ (limit : Int) = 0 := by omega
        have IH' : PdqOk id ver (b - a) tight := IH.less (by omega)
        simp [c207r2, c207r3, c207r5, t1, t2, t3, w1, h12I, h0]
        refine stage2 (limit := limit) (wb := wb) (wp := wp) ho hid hsz hsm (by omega) bs lim h0 keeps (by simp [heap]) (by simp; omega) (by simp [t0]) (by simp [t1]) (by simp [t2]) (by simp [t3]) (by simp [t4]) (by simp [t10]) (by simp [t11]) (by simp [hl]) IH' out fun a' b' limit' wb' wp' e' st' hlt hpi => ?_
        exact ⟨b' - a', by omega, a', b', limit', wb', wp', e', rfl, by omega, hpi⟩

/-- slices.SortFunc at spans, by the place where they begin. -/
theorem sortFuncP (h : Hp) (n0 id ver : Nat) (tight : Bool) (d : Array Sp) (hd : Data h id ver d) (ho : HeapOk h n0) (hid : id < n0) (hsz : d.size ≤ 100000) (hsm : ∀ x ∈ d, small x) :
    ISp Tryz.prog 160 h n0 [.one (.ref id ver 0 d.size 2 tight), .one (.fn 161 [])] (.tup []) (putD' h id ver (Sort.sort ltS d)) := by
  refine k160.ispK (by simp) ?_
  have w : IntKind.u64.wrap (d.size : Int) = (d.size : Int) := wrap_u64s (by omega) (by omega)
  have hb : Sort.bitsLen d.size ≤ 17 := (Sort.bitsLen_le_iff d.size 17).2 (by omega)
  simp [c160, c160r0, c160r1, D.cvInt, D.isInt, w]
  refine callK.pure (bitsLenP d.size hsz) (by simp) (by simp) ?_
  simp
  refine callK.imp (pdqP id ver tight (d.size + 1) h _ 0 d.size (Sort.bitsLen d.size) d (by omega) hd (HeapOk.more ho (by omega)) (by omega) (by omega) (Nat.le_refl _) hsz (by omega) hsm) ?_
  exact impEnd_same (.inl rfl) rfl rfl (HeapOk.put ho hid)
end Go.Proofs.YtdpbobkcbakpfaaGreatDoor

/- Functions that hand back a fresh object: it gets the number n0. -/
namespace Go.Ab
open Go

variable {P : Program} {w w' : World} {F F' : Fix} {ν ν' : Nu} {h : Hp} {nx : Nat} {tm : Nat → D} {a : Act} {n : Nat} {st : St}

theorem VP.agree {p : Pt} {v : Value} (hv : VP ν p v) (h : ν' p.id = ν p.id) : VP ν' p v := by
  obtain ⟨b, ver, h1, h2⟩ := hv
  exact ⟨b, ver, by rw [h]; exact h1, h2⟩

theorem VA.agree {x : A} {v : Value} (hv : VA w F ν x v) (hb : x.below n = true) (hν : ∀ id, id < n → ν' id = ν id) : VA w F ν' x v := by
  cases x with
  | t x => exact hv
  | tt sz rs => exact hv
  | into cs => exact hv
  | ref id ver off len sz tight =>
    obtain ⟨b, v', h1, h2⟩ := hv
    have : id < n := by simpa [A.below] using hb
    exact ⟨b, v', by rw [hν id this]; exact h1, h2⟩
  | ptr p => exact VP.agree hv (hν _ (by simpa [A.below] using hb))
  | fn f caps =>
    obtain ⟨us, h1, h2, h3⟩ := hv
    refine ⟨us, h1, h2, fun k p u hp hu => (h3 k p u hp hu).agree (hν _ ?_)⟩
    simp only [A.below, List.all_eq_true, decide_eq_true_eq] at hb
    exact hb p (List.mem_of_getElem? hp)
  | undef => exact hv

def renId (k m id : Nat) : Nat := if id = k then m else id

def A.ren (k m : Nat) : A → A
  | .ref id ver off len sz tight => .ref (renId k m id) ver off len sz tight
  | .ptr p => .ptr ⟨renId k m p.id, p.ver, p.sz, p.i, p.j⟩
  | .fn f caps => .fn f (caps.map fun p => ⟨renId k m p.id, p.ver, p.sz, p.i, p.j⟩)
  | x => x

def A.only (n k : Nat) : A → Bool
  | .ref id _ _ _ _ _ => decide (id < n ∨ id = k)
  | .ptr p => decide (p.id < n ∨ p.id = k)
  | .fn _ caps => caps.all fun p => decide (p.id < n ∨ p.id = k)
  | _ => true

def moveNu (ν : Nu) (n k : Nat) : Nu := fun id => if id < n then ν id else if id = n then ν k else none

theorem moveNu_ren {id k : Nat} (hk : n ≤ k) (h : id < n ∨ id = k) : moveNu ν n k (renId k n id) = ν id := by
  unfold moveNu renId
  rcases h with h | h
  · have : id ≠ k := by omega
    simp [this, h]
  · subst h; simp

theorem VP.ren {p : Pt} {v : Value} {k : Nat} (hv : VP ν p v) (hk : n ≤ k) (h : p.id < n ∨ p.id = k) : VP (moveNu ν n k) ⟨renId k n p.id, p.ver, p.sz, p.i, p.j⟩ v := by
  obtain ⟨b, ver, h1, h2⟩ := hv
  exact ⟨b, ver, by rw [moveNu_ren hk h]; exact h1, h2⟩

theorem VA.ren {x : A} {v : Value} {k : Nat} (hv : VA w F ν x v) (hk : n ≤ k) (h : x.only n k = true) : VA w F (moveNu ν n k) (x.ren k n) v := by
  cases x with
  | t x => exact hv
  | tt sz rs => exact hv
  | into cs => exact hv
  | ref id ver off len sz tight =>
    obtain ⟨b, v', h1, h2⟩ := hv
    exact ⟨b, v', by rw [moveNu_ren hk (by simpa [A.only] using h)]; exact h1, h2⟩
  | ptr p => exact VP.ren hv hk (by simpa [A.only] using h)
  | fn f caps =>
    obtain ⟨us, h1, h2, h3⟩ := hv
    refine ⟨us, h1, by simpa using h2, fun j p u hp hu => ?_⟩
    rw [List.getElem?_map] at hp
    simp only [Option.map_eq_some_iff] at hp
    obtain ⟨q, hq, rfl⟩ := hp
    simp only [A.only, List.all_eq_true, decide_eq_true_eq] at h
    exact VP.ren (h3 j q u hq hu) hk (h q (List.mem_of_getElem? hq))
  | undef => exact hv

/-- Where a function returns that hands back a fresh object, numbered k within, n0 outside. -/
def ownEnd (rs : List RV) (k : Nat) (r : D) (h' : Hp) (n0 : Nat) (e : Exit) (st : St) : Prop :=
  (e = .normal ∨ e = .ret) ∧ resOk st rs ∧ (∃ x, resD st rs = .one x ∧ x.only n0 k = true ∧ r = .one (x.ren k n0)) ∧ n0 ≤ k ∧
    (∀ id, id < n0 → st.heap id = h' id) ∧ h' n0 = st.heap k ∧ (∃ o, st.heap k = some o) ∧ (∀ id, n0 < id → h' id = none) ∧ ∀ id o, h' id = some o → o.below n0 = true

theorem Sim.move {h h' : Hp} {n0 k : Nat} (hs : Sim w F ν h nx) (hk : n0 ≤ k) (h8 : ∀ id, id < n0 → h id = h' id) (h9 : h' n0 = h k) (h10 : ∃ o, h k = some o) (h11 : ∀ id, n0 < id → h' id = none) (h12 : ∀ id o, h' id = some o → o.below n0 = true) :
    Sim w F (moveNu ν n0 k) h' (n0 + 1) := by
  have eqn : ∀ id bv, moveNu ν n0 k id = some bv → (id < n0 ∧ ν id = some bv) ∨ (id = n0 ∧ ν k = some bv) := fun id bv hh => by
    unfold moveNu at hh
    split at hh
    · exact .inl ⟨‹_›, hh⟩
    · split at hh
      · exact .inr ⟨‹_›, hh⟩
      · cases hh
  have agr : ∀ id, id < n0 → moveNu ν n0 k id = ν id := fun id hid => by simp [moveNu, hid]
  have key : ∀ id id' o, h' id = some o → h id' = some o → moveNu ν n0 k id = ν id' → OR w F (moveNu ν n0 k) id o := fun id id' o ho ho' hid => by
    have hob := hs.obj id' o ho'
    have hbel := h12 id o ho
    cases o with
    | arr ver shut sz rs' =>
      obtain ⟨b, e', m, k1, k2, k3, k4, k5, k6, k7⟩ := hob
      refine ⟨b, e', m, by rw [hid]; exact k1, k2, k3, k4, k5, fun i j rr x hi hj => ?_, k7⟩
      obtain ⟨q1, u, q2, q3⟩ := k6 i j rr x hi hj
      simp only [O.below, List.all_eq_true] at hbel
      exact ⟨q1, u, q2, q3.agree (hbel rr (List.mem_of_getElem? hi) x (List.mem_of_getElem? hj)) agr⟩
  refine ⟨hs.fixed, fun id o ho => ?_, fun id bv hn => ?_, fun i j b v1 v2 hi hj => ?_⟩
  · rcases Nat.lt_trichotomy id n0 with h | h | h
    · exact key id id o ho (by rw [h8 id h]; exact ho) (agr id h)
    · subst h; exact key id k o ho (by rw [← h9]; exact ho) (by simp [moveNu])
    · rw [h11 id h] at ho; cases ho
  · rcases eqn id bv hn with ⟨h1, h2⟩ | ⟨h1, h2⟩
    · obtain ⟨_, q4, o, q5⟩ := hs.dom _ _ h2
      exact ⟨by omega, q4, o, by rw [← h8 id h1]; exact q5⟩
    · obtain ⟨_, q4, o, q5⟩ := hs.dom _ _ h2
      exact ⟨by omega, q4, o, by rw [h1, h9]; exact q5⟩
  · rcases eqn i _ hi with ⟨h1, h2⟩ | ⟨h1, h2⟩ <;> rcases eqn j _ hj with ⟨h3, h4⟩ | ⟨h3, h4⟩
    · exact hs.inj _ _ _ _ _ h2 h4
    · have := hs.inj _ _ _ _ _ h2 h4; omega
    · have := hs.inj _ _ _ _ _ h2 h4; omega
    · omega

theorem ISp.of_own {f : FuncId} {fn : Func} {c : Code} {ac : ACode} {grow : Nat → Nat → Bool} {rs : List RV} (hf : P.funcs[f]? = some fn) (hb : fn.body = some c) (hc : compileCode P fn.ntmps grow c = some ac)
    (hres : compileRes P fn.results.toList = some rs) {xs : List D} {r : D} {h h' : Hp} {n0 : Nat} (hn : xs.length ≤ fn.ntmps) (hW : W P fn.ntmps ac (fun e st => ∃ k, ownEnd rs k r h' n0 e st) ⟨initTm xs, h, n0⟩) : ISp P f h n0 xs r h' := by
  intro w F ν vs hs hv
  refine callsIn_wide.1 (callsIn_of_wp_marks (n := 9) hf hb trivial (wpIn_mono (hW none 9 grow c (.inl ⟨rfl, Nat.le_refl _⟩) hc _ w F ν (rel_init hs hv hn)) (fun e a' w1 hq => ?_)))
  obtain ⟨st', F', ν', ⟨k, h1, h2, ⟨x, h3, h4, h5'⟩, h7, h8, h9, h10, h11, h12⟩, hcm⟩ := hq
  refine bodyPostM_of h1 (at_end rfl hcm fun w' h5 h6 => ?_)
  obtain ⟨v, g1, g2⟩ := results_sound h5 hres h2
  refine ⟨v, g1, r, v, h', F', moveNu ν' n0 k, rfl, ⟨rfl, rfl⟩, h5.sim.move h7 h8 h9 h10 h11 h12, ?_, ?_⟩
  · rw [h3] at g2
    rw [h5']
    exact VA.ren (show VA w' F' ν' x v from g2) h7 h4
  · exact { os := h6.os, tape := h6.tape, output := h6.output, size := h6.size, keep := h6.keep, cell := h6.cell, sub := h6.sub, new := h6.new, shape := h6.shape
            nu := fun id b ver hh => by
              obtain ⟨b', ver', q1, q2⟩ := h6.nu id b ver hh
              have := (hs.dom _ _ hh).1
              exact ⟨b', ver', by simp [moveNu, this, q1], q2⟩
            nu' := fun id b ver hh => by
              unfold moveNu at hh
              split at hh
              · exact h6.nu' id b ver hh
              · split at hh
                · rename_i e; subst e
                  rcases h6.nu' k b ver hh with ⟨b0, v0, q2⟩ | q2
                  · have := (hs.dom _ _ q2).1; omega
                  · exact .inr q2
                · cases hh }

theorem Compiled.own {f : FuncId} {n : Nat} {rs : List RV} {ac : ACode} (hc : Compiled P f n rs ac) {xs : List D} {r : D} {h h' : Hp} {n0 : Nat} (hn : xs.length ≤ n) (hW : W P n ac (fun e st => ∃ k, ownEnd rs k r h' n0 e st) ⟨initTm xs, h, n0⟩) : ISp P f h n0 xs r h' := by
  obtain ⟨fn, c, grow, h1, h2, h3, h4, rfl⟩ := hc.out
  exact ISp.of_own h1 h2 h3 h4 hn hW

end Go.Ab

/- A test for nil at an empty slice: both answers are looked at. -/
namespace Go.Ab
open Go

variable {P : Program} {w w' : World} {F F' : Fix} {ν ν' : Nu} {h : Hp} {nx : Nat} {tm : Nat → D} {a : Act} {n : Nat} {A : Exit → St → Prop} {st : St}

theorem run_equal_nilSlice {t e : TypeId} (hu : P.underlying t = some (.slice e)) (b : Option Addr) (k c : Nat) : (Op.equal t (.slice b k c) (.slice none 0 0)).run P w = .ok b.isNone w := by
  cases b with
  | some b => exact run_equal_slice hu b k c
  | none =>
    rw [Op.equal, show Op.maxDepth = 9999 + 1 from rfl, Op.equalIn]
    simp [run_underlying hu]

theorem nilq_run {x : X} {neg : Bool} {o : Oper} {grow : Bool} {sz : Nat} (hs : ∀ t, VD w F ν (tm t) (a.tmps.getD t undef)) (hc : cStep P grow o = some (.op (.nilq neg x))) (hx : x.ev tm = .one (.t (.rows sz []))) :
    ∃ b, (execOp a.eval o).run P w = .ok (.value (.bool b)) w := by
  unfold cStep at hc
  split at hc
  · rename_i s hcall
    simp only [Option.some.injEq] at hc
    subst hc
    unfold cCall at hcall
    split at hcall
    · split at hcall
      · split at hcall <;> simp at hcall
      · simp at hcall
      · cases hcall
    · cases hcall
  · simp only [Option.map_eq_some_iff, AStep.op.injEq] at hc
    obtain ⟨op', hc, rfl⟩ := hc
    obtain ⟨dst, op, ty, pos, after, guard⟩ := o
    unfold compileOp at hc
    simp only at hc
    cases op with
    | binOp op t y z u =>
      simp only at hc
      split at hc
      · simp [Option.bind_eq_some_iff] at hc
      · simp [Option.bind_eq_some_iff] at hc
      · simp [Option.bind_eq_some_iff] at hc
      · split at hc
        · simp [Option.bind_eq_some_iff] at hc
        · cases hc
      · rename_i e hu
        simp only [Option.bind_eq_bind, Option.bind_eq_some_iff, Option.some.injEq, AOp.nilq.injEq] at hc
        obtain ⟨_, hen, x', h1, _, rfl⟩ := hc
        have hen := ensure_true hen
        simp only [Bool.and_eq_true, Bool.or_eq_true, decide_eq_true_eq] at hen
        obtain ⟨e0, e1⟩ := hen
        have hy : a.eval z = .slice none 0 0 := by
          unfold isNilSlice at e1
          split at e1
          · rfl
          · cases e1
        have hv := cOpd_sound hs h1
        rw [hx] at hv
        obtain ⟨b, k, c, hv⟩ : ∃ b k c, a.eval y = .slice b k c := by
          generalize a.eval y = v at hv
          cases (show VT w F (.rows sz []) v from hv) with
          | nils sz a cap => exact ⟨a, 0, cap, rfl⟩
          | rows sz rs b off cap c _ _ _ _ => exact ⟨_, _, _, rfl⟩
        have q3 := run_equal_nilSlice (P := P) (w := w) hu b k c
        rcases e0 with rfl | rfl
        · exact ⟨_, by simp [execOp, hv, hy, eqGuard, binOp, q3]; rfl⟩
        · exact ⟨_, by simp [execOp, hv, hy, eqGuard, binOp, q3]; rfl⟩
      · simp [Option.bind_eq_some_iff] at hc
      · cases hc
    | makeFunc fv first caps => cases fv <;> simp [Option.bind_eq_some_iff] at hc
    | _ => first | (simp only at hc; simp [Option.bind_eq_some_iff] at hc; done) | (simp only at hc; split at hc <;> simp [Option.bind_eq_some_iff] at hc; done) | (simp only at hc; (repeat' split at hc) <;> simp [Option.bind_eq_some_iff] at hc; done) | skip

/-- A value is looked at for nil, of which it is only known that it is an empty slice: go on with both answers. -/
theorem W.nilTest {id t u sz : Nat} {x : X} {neg : Bool} (hx : x.ev st.tmps = .one (.t (.rows sz []))) (hK : ∀ b, A .normal ⟨upd (upd st.tmps t (.one (.t (.rows sz [])))) u (.one (.t (.bool b))), st.heap, st.nx + 2⟩) :
    W P n (.region id false 2 [.one ⟨some t, .op (.mv x), none⟩, .one ⟨some u, .op (.nilq neg (.tmp t)), none⟩]) A st := by
  intro rd m grow c hm hc a w F ν hr
  cases c with
  | region i R draw =>
    simp only [compileCode, Option.bind_eq_bind, Option.bind_eq_some_iff, Option.some.injEq, ACode.region.injEq] at hc
    obtain ⟨aops, h1, _, h2, rfl, rfl, hcnt, hsegs⟩ := hc
    have h2 := ensure_true h2
    simp only [Bool.and_eq_true] at h2
    have hg : ∀ o ∈ aops, ∀ s b, o.guard = some (s, b) → o.dst ≠ some s := fun o ho s b hgd hd => by
      have := List.all_eq_true.1 h2.2 o ho
      unfold guardApart at this
      rw [hgd, hd] at this
      simp at this
    obtain ⟨g1, g2⟩ := toSegs_wf hg
    rw [hsegs] at g2
    have e : aops = [⟨some t, .op (.mv x), none⟩, ⟨some u, .op (.nilq neg (.tmp t)), none⟩] := by rw [← g2]; rfl
    rw [e] at h1
    refine wpIn_region_list ?_
    rcases hR : R.toList with _ | ⟨o1, _ | ⟨o2, _ | ⟨o3, r⟩⟩⟩
    · rw [hR] at h1; simp [compileOps] at h1
    · rw [hR] at h1; simp [compileOps, Option.bind_eq_some_iff] at h1
    · rw [hR] at h1
      simp only [compileOps, Option.bind_eq_bind, Option.bind_eq_some_iff, Option.some.injEq, List.cons.injEq] at h1
      obtain ⟨a1, c1, l1, ⟨a2, c2, l2, rfl, rfl⟩, rfl, ⟨rfl, _⟩⟩ := h1
      obtain ⟨p1, p2, p3⟩ := compileOper_parts c1
      obtain ⟨r1, r2, r3⟩ := compileOper_parts c2
      have hw1 := wanted_gval hr p1 trivial
      unfold wpListIn
      rw [hw1]
      simp only [gval, if_true]
      refine oper_sound hr c1 (.inl ⟨rfl, Nat.le_refl _, rfl⟩) ⟨trivial, rfl, rfl⟩ fun a' w' F' ν' hd' hr' hf' => ?_
      have hw2 := wanted_gval hr' r1 trivial
      unfold wpListIn
      rw [hw2]
      simp only [gval, if_true]
      have hr'' := hr'
      simp only [compileOper, Option.bind_eq_bind, Option.bind_eq_some_iff, Option.some.injEq, AOper.mk.injEq] at c2
      obtain ⟨op2, q1, _, q2, g, q3, q4, q5, q6⟩ := c2
      subst q5
      obtain ⟨b, hb⟩ := nilq_run (w := w') (x := .tmp t) (sz := sz) hr'.tmps q1 (show putD st.tmps (some t) (x.ev st.tmps) t = _ by rw [hx]; simp [putD, upd])
      refine ⟨fun _ _ => trivial, ?_⟩
      rw [Oper.semAt_eq _ _ _ (cStep_defer q1), hb, Oper.uponIn_value]
      have hd : ∀ k, o2.dst = some k → k < n := fun k hk => by rw [hk] at r2; simpa [dstOk] using r2
      have hrb := Rel.put (v := .bool b) (d := .one (.t (.bool b))) (h' := st.heap) (nx' := st.nx + 1 + 1) hr' (Frame.refl _ _ _) (VT.bool b) (hr'.sim.more (Nat.le_add_right _ 1)) hd
      refine ⟨_, F', ν', hK b, ?_, hf', .same ?_, fun _ => ?_⟩
      · rw [q4] at hrb
        rw [q4]
        have : (AOp.mv x).val st.tmps st.heap st.nx = .one (.t (.rows sz [])) := hx
        rw [this] at hrb
        exact hrb
      · cases o2.dst <;> exact hd'
      · cases o2.dst <;> exact hd'
    · rw [hR] at h1; simp [compileOps, Option.bind_eq_some_iff] at h1
  | _ => simp [compileCode, Option.bind_eq_some_iff] at hc

theorem Compiled.ownK {P : Program} {f : FuncId} {n : Nat} {rs : List RV} {ac : ACode} (hc : Compiled P f n rs ac) {xs : List D} {r : D} {h h' : Hp} {n0 : Nat} (hn : xs.length ≤ n) (hW : awpK P n (fun e st => ∃ k, ownEnd rs k r h' n0 e st) ac [] ⟨initTm xs, h, n0⟩) : ISp P f h n0 xs r h' :=
  hc.own hn (W.of_awp _ _ _ hW)

end Go.Ab

namespace Go.Proofs.YtdpbobkcbakpfaaGreatDoor
open Go Go.Ab
set_option maxRecDepth 100000

def bad (x : Sp) : Bool := decide (x.2 < x.1) || decide (x.1 < -1152921504606846976) || decide (1152921504606846976 < x.2)

def chk (l : List Sp) (i : Nat) : Nat × Int :=
  if h : i < l.length then
    if bad l[i] then (i, 3)
    else if 0 < i ∧ l[i].1 ≤ (l.getD (i - 1) (0, 0)).2 + 1 then (i, 14)
    else chk l (i + 1)
  else (l.length, 0)
  termination_by l.length - i

/-- What CheckSpans gives: an index, or how many there are, and the error. -/
def spansErr (l : List Sp) : Nat × Int := if 40 < l.length then (0, 2) else chk l 0

theorem fewP (l : List Sp) : PSp Tryz.prog 32 [.one (.t (spans l))] (.one (.t (.bool (decide (l.length ≤ 60))))) := by
  refine k32.pureK (by simp) rfl rfl ?_
  simp [c32, c32r0, c32r1, spans, pureEnd]
  omega

theorem CheckSpansP (l : List Sp) : PSp Tryz.prog 33 [.one (.t (spans l))] (.tup [.one (.t (I (spansErr l).1)), .one (.t (I (spansErr l).2))]) := by
  refine k33.pureK (by simp) rfl rfl ?_
  by_cases hbig : 40 < l.length
  · have : spansErr l = (0, 2) := by simp [spansErr, hbig]
    have hb : (40 : Int) < l.length := by omega
    have hb' : ¬ (l.length : Int) ≤ 40 := by omega
    simp [c33, c33r0, c33r1, c33r2, spans, pureEnd, this, hb]
  have hb : ¬ (40 : Int) < l.length := by omega
  have e0 : spansErr l = chk l 0 := by simp [spansErr, hbig]
  simp [c33, c33r0, c33r1, c33r3, spans, hb, e0]
  refine W.loopK (fun k st => ∃ i : Nat, k = l.length - i ∧ i ≤ l.length ∧ st.tmps 0 = .one (.t (spans l)) ∧ st.tmps 9 = .one (.t (spans l)) ∧ st.tmps 10 = .one (.t (I l.length)) ∧ st.tmps 11 = .one (.t (I i)) ∧ chk l 0 = chk l i ∧ ∀ j, j < i → bad (l.getD j (0, 0)) = false) l.length ⟨0, by simp, by simp, by simp [spans], by simp [spans], by simp, by simp, rfl, by simp⟩ ?_
  rintro k st ⟨i, hk, hi, h0, h9, h10, h11, hc, hall⟩
  rcases Nat.lt_or_ge i l.length with hlt | hge
  · have e1 : chk l i = if bad l[i] then (i, 3) else if 0 < i ∧ l[i].1 ≤ (l.getD (i - 1) (0, 0)).2 + 1 then (i, 14) else chk l (i + 1) := by
      rw [chk, dif_pos hlt]
    rw [hc, e1]
    simp [c33b11, c33r4, c33r5, c33r6, h9, h10, h11, spans, hlt, spr]
    have hw : IntKind.i64.wrap ((i : Int) + 1) = (i : Int) + 1 := wrap_i64 (by omega) (by omega)
    have step : bad l[i] = false → (¬ (0 < i ∧ l[i].1 ≤ (l.getD (i - 1) (0, 0)).2 + 1)) → ∃ k', k' < k ∧ ∃ j : Nat, k' = l.length - j ∧ j ≤ l.length ∧ (i : Int) + 1 = j ∧ (if bad l[i] then (i, (3 : Int)) else if 0 < i ∧ l[i].1 ≤ (l.getD (i - 1) (0, 0)).2 + 1 then (i, 14) else chk l (i + 1)) = chk l j ∧ ∀ m, m < j → bad (l.getD m (0, 0)) = false := by
      intro q1 q2
      refine ⟨l.length - (i + 1), by omega, i + 1, rfl, hlt, by omega, by rw [q1, if_neg q2]; rfl, fun m hm => ?_⟩
      rcases Nat.lt_or_ge m i with h | h
      · exact hall m h
      · have : m = i := by omega
        subst this
        simpa [List.getD_eq_getElem?_getD, hlt] using q1
    refine ⟨fun hbad => ?_, fun g1 g2 g3 => ?_⟩
    · have hb1 : bad l[i] = true := by simp [bad]; omega
      simp [c33r7, hb1, pureEnd]
    · have hb1 : bad l[i] = false := by simp [bad]; omega
      rcases Nat.eq_zero_or_pos i with rfl | hpos
      · have st1 := step hb1 (by simp)
        simp at hw st1
        simp [c33r8, c33r10, h0, h9, h10, h11, spans, hlt, hw]
        exact st1
      · have hi1 : i - 1 < l.length := by omega
        have hp := hall (i - 1) (by omega)
        simp [List.getD_eq_getElem?_getD, hi1, bad] at hp
        have hsub : IntKind.i64.wrap ((i : Int) - 1) = ((i - 1 : Nat) : Int) := by rw [wrap_i64 (by omega) (by omega)]; omega
        have hadd : IntKind.i64.wrap (l[i - 1].2 + 1) = l[i - 1].2 + 1 := wrap_i64 (by omega) (by omega)
        simp [c33r8, hpos, h0, spans, hsub, hi1, hadd, spr]
        refine ⟨fun q => ?_, fun q => ?_⟩
        · simp [c33r9, pureEnd, hb1, q]
        · have st1 := step hb1 (by simp [List.getD_eq_getElem?_getD, hi1]; omega)
          simp [List.getD_eq_getElem?_getD, hi1, hpos] at st1
          simp [c33r10, h0, h9, h10, h11, spans, hw]
          exact st1
  · have : i = l.length := by omega
    subst this
    have e1 : chk l l.length = (l.length, 0) := by unfold chk; simp
    simp [c33b11, c33r4, c33r11, h0, h10, h11, spans, hc, e1, pureEnd]
end Go.Proofs.YtdpbobkcbakpfaaGreatDoor

namespace Go.Proofs.YtdpbobkcbakpfaaGreatDoor
open Go Go.Ab
set_option maxRecDepth 100000

theorem SpansErrP (l : List Sp) : PSp Tryz.prog 35 [.one (.t (spans l))] (.tup [.one (.t (I (spansErr l).1)), .one (.t (I (spansErr l).2))]) := by
  refine k35.pureK (by simp) rfl rfl ?_
  by_cases hbig : 40 < l.length
  · have : spansErr l = (0, 2) := by simp [spansErr, hbig]
    have hb : (40 : Int) < l.length := by omega
    have hb' : ¬ (l.length : Int) ≤ 40 := by omega
    simp [c35, c35r0, c35r1, c35r2, spans, pureEnd, this, hb]
  have hb : ¬ (40 : Int) < l.length := by omega
  have e0 : spansErr l = chk l 0 := by simp [spansErr, hbig]
  simp [c35, c35r0, c35r1, c35r3, spans, hb, e0]
  refine W.loopK (fun k st => ∃ i : Nat, k = l.length - i ∧ i ≤ l.length ∧ st.tmps 0 = .one (.t (spans l)) ∧ st.tmps 4 = .one (.t (I i)) ∧ chk l 0 = chk l i ∧ ∀ j, j < i → bad (l.getD j (0, 0)) = false) l.length ⟨0, by simp, by simp, by simp [spans], by simp, rfl, by simp⟩ ?_
  rintro k st ⟨i, hk, hi, h0, h4, hc, hall⟩
  rcases Nat.lt_or_ge i l.length with hlt | hge
  · have e1 : chk l i = if bad l[i] then (i, 3) else if 0 < i ∧ l[i].1 ≤ (l.getD (i - 1) (0, 0)).2 + 1 then (i, 14) else chk l (i + 1) := by
      rw [chk, dif_pos hlt]
    rw [hc, e1]
    have hw : IntKind.i64.wrap ((i : Int) + 1) = (i : Int) + 1 := wrap_i64 (by omega) (by omega)
    have step : bad l[i] = false → (¬ (0 < i ∧ l[i].1 ≤ (l.getD (i - 1) (0, 0)).2 + 1)) → ∃ k', k' < k ∧ ∃ j : Nat, k' = l.length - j ∧ j ≤ l.length ∧ (i : Int) + 1 = j ∧ (if bad l[i] then (i, (3 : Int)) else if 0 < i ∧ l[i].1 ≤ (l.getD (i - 1) (0, 0)).2 + 1 then (i, 14) else chk l (i + 1)) = chk l j ∧ ∀ m, m < j → bad (l.getD m (0, 0)) = false := by
      intro q1 q2
      refine ⟨l.length - (i + 1), by omega, i + 1, rfl, hlt, by omega, by rw [q1, if_neg q2]; rfl, fun m hm => ?_⟩
      rcases Nat.lt_or_ge m i with h | h
      · exact hall m h
      · have : m = i := by omega
        subst this
        simpa [List.getD_eq_getElem?_getD, hlt] using q1
    by_cases c1 : l[i].2 < l[i].1
    · have hb1 : bad l[i] = true := by simp [bad]; omega
      simp [c35b11, c35r4, c35r6, c35r7, c35r8, h0, h4, spans, hlt, spr, c1, hb1, pureEnd]
    simp [c35b11, c35r4, c35r6, c35r7, h0, h4, spans, hlt, spr, c1]
    refine callK.pure (WithinP l[i].1 (-1152921504606846976) 1152921504606846976) (by simp) (by simp) ?_
    simp
    refine ⟨fun g1 g2 => ?_, fun g => ?_⟩
    · refine callK.pure (WithinP l[i].2 (-1152921504606846976) 1152921504606846976) (by simp) (by simp) ?_
      simp [g1, g2]
      refine ⟨fun b1 => ?_, fun b1 b2 => ?_⟩
      · have hb1 : bad l[i] = true := by simp [bad]; omega
        simp [c35r8, hb1, h4, pureEnd]
      · have hb1 : bad l[i] = false := by simp [bad]; omega
        rcases Nat.eq_zero_or_pos i with rfl | hpos
        · have st1 := step hb1 (by simp)
          simp at hw st1
          simp [c35r9, c35r5, h0, h4, spans, hlt, hw]
          exact st1
        · have hi1 : i - 1 < l.length := by omega
          have hp := hall (i - 1) (by omega)
          simp [List.getD_eq_getElem?_getD, hi1, bad] at hp
          have hsub : IntKind.i64.wrap ((i : Int) - 1) = ((i - 1 : Nat) : Int) := by rw [wrap_i64 (by omega) (by omega)]; omega
          have hadd : IntKind.i64.wrap (l[i - 1].2 + 1) = l[i - 1].2 + 1 := wrap_i64 (by omega) (by omega)
          simp [c35r9, hpos, h0, h4, spans, hsub, hi1, hadd, spr]
          refine ⟨fun q => ?_, fun q => ?_⟩
          · simp [c35r10, pureEnd, hb1, q, h4]
          · have st1 := step hb1 (by simp [List.getD_eq_getElem?_getD, hi1]; omega)
            simp [List.getD_eq_getElem?_getD, hi1, hpos] at st1
            simp [c35r5, h0, h4, spans, hw]
            exact st1
    · have hb1 : bad l[i] = true := by simp [bad]; omega
      have c3 : (!decide (-1152921504606846976 ≤ l[i].1) || !decide (l[i].1 ≤ 1152921504606846976)) = true := by simp; omega
      rw [c3]
      simp [c35r8, hb1, h4, pureEnd]
  · have : i = l.length := by omega
    subst this
    have e1 : chk l l.length = (l.length, 0) := by unfold chk; simp
    simp [c35b11, c35r4, c35r11, h0, h4, spans, hc, e1, pureEnd]
end Go.Proofs.YtdpbobkcbakpfaaGreatDoor

namespace Go.Proofs.YtdpbobkcbakpfaaGreatDoor
open Go Go.Ab
set_option maxRecDepth 100000

theorem OwnSpansP (l : List Sp) (hl : l.length ≤ 1000000) : PSp Tryz.prog 34 [.one (.t (spans l))] (.one (.t (spans l))) := by
  refine k34.pureK (by simp) rfl rfl ?_
  simp [c34, c34r0, c34r1, spans, pureEnd, Function.comp_def]
  exact ⟨by omega, by rintro r x y _ rfl; simp [spr]⟩

theorem SameSpansP (a b : List Sp) (hl : a.length ≤ 1000000) : PSp Tryz.prog 20 [.one (.t (spans a)), .one (.t (spans b))] (.one (.t (.bool (decide (a = b))))) := by
  refine k20.pureK (by simp) rfl rfl ?_
  by_cases hlen : a.length = b.length
  · simp [c20, c20r0, c20r1, c20r3, spans, hlen]
    refine W.loopK (fun k st => ∃ i : Nat, k = a.length - i ∧ i ≤ a.length ∧ st.tmps 0 = .one (.t (spans a)) ∧ st.tmps 1 = .one (.t (spans b)) ∧ st.tmps 5 = .one (.t (I i)) ∧ a.take i = b.take i) a.length ⟨0, by simp, by simp, by simp [spans], by simp [spans], by simp, rfl⟩ ?_
    rintro k st ⟨i, hk, hi, h0, h1, h5, ht⟩
    rcases Nat.lt_or_ge i a.length with hlt | hge
    · have hlt' : i < b.length := by omega
      have hw : IntKind.i64.wrap ((i : Int) + 1) = (i : Int) + 1 := wrap_i64 (by omega) (by omega)
      simp [c20b8, c20r4, c20r6, h0, h1, h5, spans, hlt, hlt', spr]
      refine ⟨fun hne => ?_, fun e1 e2 => ?_⟩
      · have hab : a ≠ b := fun e => by subst e; simp at hne
        simp [c20r7, pureEnd, hab]
      · simp [c20r5, h0, h1, h5, spans, hw]
        refine ⟨a.length - (i + 1), by omega, i + 1, rfl, hlt, rfl, ?_⟩
        rw [List.take_add_one, List.take_add_one, ht, List.getElem?_eq_getElem hlt, List.getElem?_eq_getElem hlt', Prod.ext e1 e2]
    · have : i = a.length := by omega
      subst this
      have e : a = b := by rw [List.take_length, hlen, List.take_length] at ht; exact ht
      simp [c20b8, c20r4, c20r8, h0, h5, spans, pureEnd, e]
  · have hne : a ≠ b := fun e => hlen (by rw [e])
    have hlenI : ¬ (a.length : Int) = b.length := by omega
    simp [c20, c20r0, c20r1, c20r2, spans, hlenI, pureEnd, hne]
end Go.Proofs.YtdpbobkcbakpfaaGreatDoor

namespace Go.Proofs.YtdpbobkcbakpfaaGreatDoor
open Go Go.Ab
set_option maxRecDepth 100000

def insU (n : Int) : List Int → List Int
  | [] => [n]
  | x :: r => if x < n then x :: insU n r else if x = n then x :: r else n :: x :: r

theorem insU_at {n : Int} : ∀ (out : List Int) (at' : Nat), at' ≤ out.length → (∀ x ∈ out.take at', x < n) → (∀ y, out[at']? = some y → ¬ y < n) → insU n out = if out[at']? = some n then out else out.take at' ++ n :: out.drop at'
  | [], 0, _, _, _ => by simp [insU]
  | x :: r, 0, _, _, h => by
    have := h x rfl
    by_cases e : x = n
    · simp [insU, e]
    · simp [insU, this, e]
  | x :: r, k + 1, h1, h2, h3 => by
    have hx : x < n := h2 x (by simp)
    have ih := insU_at r k (by simpa using h1) (fun y hy => h2 y (by simp [hy])) (fun y hy => h3 y (by simpa using hy))
    simp only [insU, hx, if_true, ih]
    simp only [List.getElem?_cons_succ, List.take_succ_cons, List.drop_succ_cons, List.cons_append]
    split <;> rfl

theorem insU_len (n : Int) : ∀ l : List Int, (insU n l).length ≤ l.length + 1
  | [] => by simp [insU]
  | x :: r => by
    have := insU_len n r
    unfold insU; split
    · simp; omega
    · split <;> simp

def edgesF (l : List Sp) : List Int := l.foldl (fun out x => insU (x.2 + 1) (insU x.1 out)) []

theorem edgesF_snoc (l : List Sp) (x : Sp) : edgesF (l ++ [x]) = insU (x.2 + 1) (insU x.1 (edgesF l)) := by simp [edgesF]

theorem edgesF_len (l : List Sp) : (edgesF l).length ≤ 2 * l.length := by
  have : ∀ (l : List Sp) (o : List Int), (l.foldl (fun out x => insU (x.2 + 1) (insU x.1 out)) o).length ≤ o.length + 2 * l.length := by
    intro l
    induction l with
    | nil => intro o; simp
    | cons x r ih =>
      intro o
      have h1 := ih (insU (x.2 + 1) (insU x.1 o))
      have h2 := insU_len (x.2 + 1) (insU x.1 o)
      have h3 := insU_len x.1 o
      simp only [List.foldl_cons, List.length_cons]; omega
  simpa [edgesF] using this l []

def ints (l : List Int) : T := .rows 1 (l.map fun n => [I n])
def IsInts (d : D) (l : List Int) : Prop := d = .one (.t (ints l)) ∨ (l = [] ∧ d = .one (.tt 1 []))


def cRest : ACode := (.seq (.seq (.region 3 false 1 c87r3) (.block 0 (.loop c87b19))) (.seq (.region 17 false 2 c87r17) .ret))


theorem trees_ints (o : List Int) (i m : Nat) : ∀ r ∈ List.drop i (List.take m (o.map fun x => [A.t (I x)])), ∀ x ∈ r, x.isTree = true := by
  intro r hr x hx
  have := List.mem_of_mem_take (List.mem_of_mem_drop hr)
  obtain ⟨y, _, rfl⟩ := List.mem_map.1 this
  simp at hx
  subst hx; rfl

def cIns : ACode := (.seq (.block 4 (.loop c87b13)) (.seq (.region 15 false 12 c87r15) (.cond (X.tmp 64) (.region 16 true 12 c87r16) .skip)))

theorem ins_part {n : Nat} {A : Exit → St → Prop} {ks : List KF} {nx nx' : Nat} {tm : Nat → D} {h0 : Hp} (o : List Int) (ho : o.length ≤ 3000) (n0 : Int) (h5 : IsInts (tm 5) o) (h9 : tm 9 = .one (.t (I n0)))
    (K : ∀ st' : St, st'.heap = h0 → st'.tmps 6 = tm 6 → st'.tmps 7 = tm 7 → st'.tmps 8 = tm 8 → IsInts (st'.tmps 5) (insU n0 o) → retK Tryz.prog n A ks .normal st') :
    segWP Tryz.prog false nx c87r12 (regK (kont Tryz.prog n A (.thn cIns :: ks)) nx') 0 tm h0 := by
  simp [c87r12, cIns]
  refine W.loopK (fun k st => st.heap = h0 ∧ st.tmps 5 = tm 5 ∧ st.tmps 6 = tm 6 ∧ st.tmps 7 = tm 7 ∧ st.tmps 8 = tm 8 ∧ st.tmps 9 = tm 9 ∧ ∃ i : Nat, k = o.length - i ∧ i ≤ o.length ∧ st.tmps 10 = .one (.t (I i)) ∧ ∀ x ∈ o.take i, x < n0) o.length ⟨rfl, by simp, by simp, by simp, by simp, by simp, 0, by simp, by simp, by simp, by simp⟩ ?_
  rintro k st ⟨hh, e5, e6, e7, e8, e9, i, hk, hi, h10, hall⟩
  have hat := insU_at (n := n0) o i hi hall
  rcases Nat.lt_or_ge i o.length with hlt | hge
  · rcases h5 with h5 | ⟨rfl, _⟩
    case inr => simp at hlt
    rw [h5] at e5
    have hw : IntKind.i64.wrap ((i : Int) + 1) = (i : Int) + 1 := wrap_i64 (by omega) (by omega)
    simp [c87b13, c87r13, e5, e9, h9, h10, ints, hlt]
    refine ⟨fun q => ?_, fun q => ?_⟩
    · simp [c87r14, h10, hw, hh, e5, e6, e7, e8, e9, h5, h9, ints]
      refine ⟨o.length - (i + 1), by omega, i + 1, rfl, hlt, rfl, fun x hx => ?_⟩
      rw [List.take_add_one, List.getElem?_eq_getElem hlt] at hx
      rcases List.mem_append.1 hx with hx | hx
      · exact hall x hx
      · simp at hx; omega
    · have hat' := hat (fun y hy => by rw [List.getElem?_eq_getElem hlt] at hy; simp at hy; omega)
      rw [List.getElem?_eq_getElem hlt] at hat'
      have hne : ¬ (i : Int) = o.length := by omega
      simp [c87r15, e5, e9, h9, h10, ints, hlt, hne]
      refine ⟨fun e => ?_, fun e => ?_⟩
      · have e' : insU n0 o = o.take i ++ n0 :: o.drop i := by rw [hat', if_neg (by simpa using e)]
        have q1 : ((i : Int) ≤ o.length) := by omega
        simp [c87r16, e5, e9, h9, h10, ints, Function.comp_def, q1, isTree_t]
        refine ⟨⟨by omega, trees_ints o i o.length⟩, ⟨by omega, trees_ints o i o.length⟩, ?_⟩
        refine K _ hh (by simp [e6]) (by simp [e7]) (by simp [e8]) ?_
        left
        have e9' : List.take o.length (o.map fun n => [I n]) = o.map fun n => [I n] := List.take_of_length_le (by simp)
        simp [e', ints, List.map_take, List.map_drop, e9']
      · have e' : insU n0 o = o := by rw [hat', if_pos (by simpa using e)]
        exact K _ hh (by simp [e6]) (by simp [e7]) (by simp [e8]) (by simp [e5, e', IsInts])
  · have : i = o.length := by omega
    subst this
    have hat' := hat (fun y hy => by simp at hy)
    simp at hat'
    rcases h5 with h5 | ⟨rfl, h5⟩
    · rw [h5] at e5
      simp [c87b13, c87r13, c87r15, e5, e9, h9, h10, ints]
      simp [c87r16, e5, e9, h9, h10, ints]
      refine ⟨by omega, K _ hh (by simp [e6]) (by simp [e7]) (by simp [e8]) ?_⟩
      left
      have e9' : List.take o.length (o.map fun n => [I n]) = o.map fun n => [I n] := List.take_of_length_le (by simp)
      simp [hat', ints, e9']
    · rw [h5] at e5
      simp [c87b13, c87r13, c87r15, e5, e9, h9, h10]
      simp [c87r16, e5, e9, h9, h10]
      refine K _ hh (by simp [e6]) (by simp [e7]) (by simp [e8]) ?_
      left
      simp [insU, ints]

theorem edges_rest {n : Nat} (all : List Sp) (hlen : all.length ≤ 1000) (hok : ∀ x ∈ all, bad x = false) (id ver : Nat) (h0 : Hp) (ha : alive h0 id ver) (hr : h0.rows id = all.map fun x => (spr x).map .t) (hz : h0.sz id = 2)
    (st : St) (hst : st.heap = h0) (h6 : st.tmps 6 = .one (.ref id ver 0 all.length 2 false)) (h5 : IsInts (st.tmps 5) []) :
    awpK Tryz.prog n (pureEnd [RV.tmp 4] (.one (.t (ints (edgesF all))))) cRest [] st := by
  simp [cRest, c87r3, hst]
  refine W.loopK (fun k st => st.heap = h0 ∧ ∃ i : Nat, k = all.length - i ∧ i ≤ all.length ∧ st.tmps 6 = .one (.ref id ver 0 all.length 2 false) ∧ st.tmps 7 = .one (.t (I i)) ∧ IsInts (st.tmps 5) (edgesF (all.take i))) all.length ⟨rfl, 0, by simp, by simp, by simpa using h6, by simp, by simpa [edgesF] using h5⟩ ?_
  rintro k st ⟨hh, i, hk, hi, h6, h7, h5⟩
  rcases Nat.lt_or_ge i all.length with hlt | hge
  · have hx := hok all[i] (List.getElem_mem hlt)
    simp [bad] at hx
    have hw : IntKind.i64.wrap ((i : Int) + 1) = (i : Int) + 1 := wrap_i64 (by omega) (by omega)
    have hw2 : IntKind.i64.wrap (all[i].2 + 1) = all[i].2 + 1 := wrap_i64 (by omega) (by omega)
    have hE := edgesF_len (all.take i)
    have hE' : (edgesF (all.take i)).length ≤ 2000 := by simp at hE; omega
    have hnext : edgesF (all.take (i + 1)) = insU (all[i].2 + 1) (insU all[i].1 (edgesF (all.take i))) := by
      rw [List.take_add_one, List.getElem?_eq_getElem hlt]; exact edgesF_snoc _ _
    generalize edgesF (all.take i) = E at h5 hE' hnext
    simp [c87b19, c87r4, c87r6, h6, h7, hh, hlt]
    refine W.loopK (fun k st => st.heap = h0 ∧ ∃ kk : Nat, k = 2 - kk ∧ kk ≤ 2 ∧ st.tmps 6 = .one (.ref id ver 0 all.length 2 false) ∧ st.tmps 7 = .one (.t (I i)) ∧ st.tmps 8 = .one (.t (I kk)) ∧ IsInts (st.tmps 5) (if kk = 0 then E else if kk = 1 then insU all[i].1 E else insU (all[i].2 + 1) (insU all[i].1 E))) 2 ⟨rfl, 0, by simp, by simp, by simpa using h6, by simpa using h7, by simp, by simpa using h5⟩ ?_
    clear h5 h6 h7 hh st
    rintro k1 st ⟨hh, kk, hk1, hkk, h6, h7, h8, h5⟩
    have hl1 := insU_len all[i].1 E
    rcases (show kk = 0 ∨ kk = 1 ∨ kk = 2 by omega) with rfl | rfl | rfl
    · simp at h5
      simp [c87b17, c87r7, c87r9, c87r10, h6, h7, h8, hh, hlt, ha, hr, hz, spr]
      refine ins_part E (by omega) all[i].1 (by simpa using h5) (by simp) fun st' q1 q2 q3 q4 q5 => ?_
      simp [c87r8, q1, q2, q3, q4, h6, h7, h8]
      exact ⟨1, by omega, 1, rfl, by omega, wrap_i64 (by omega) (by omega), by simpa using q5⟩
    · simp at h5
      simp [c87b17, c87r7, c87r9, c87r10, c87r11, h6, h7, h8, hh, hlt, ha, hr, hz, spr, hw2]
      refine ins_part (insU all[i].1 E) (by omega) (all[i].2 + 1) (by simpa using h5) (by simp) fun st' q1 q2 q3 q4 q5 => ?_
      simp [c87r8, q1, q2, q3, q4, h6, h7, h8]
      exact ⟨0, by omega, 2, rfl, by omega, wrap_i64 (by omega) (by omega), by simpa using q5⟩
    · simp at h5
      simp [c87b17, c87r7, c87r5, h6, h7, h8, hh, hw]
      exact ⟨all.length - (i + 1), by omega, i + 1, rfl, hlt, rfl, by rw [hnext]; exact h5⟩
  · have : i = all.length := by omega
    subst this
    simp at h5
    rcases h5 with h5 | ⟨e, h5⟩
    · simp [c87b19, c87r4, c87r17, h6, h7, hh, h5, pureEnd, ints]
    · simp [c87b19, c87r4, c87r17, h6, h7, hh, h5, pureEnd, e, ints]

theorem edgesP (a b : List Sp) (ha : a.length ≤ 400) (hb : b.length ≤ 400) (hok : ∀ x ∈ a ++ b, bad x = false) : PSp Tryz.prog 87 [.one (.t (spans a)), .one (.t (spans b))] (.one (.t (ints (edgesF (a ++ b))))) := by
  refine k87.pureK (by simp) rfl rfl ?_
  have hc : c87 = .seq (.region 0 false 1 c87r0) (.seq (.region 1 false 1 c87r1) (.seq (.region 2 false 6 c87r2) cRest)) := rfl
  rw [hc]
  cases a with
  | nil =>
    cases b with
    | nil =>
      simp [c87r0, c87r1, c87r2, spans, cRest, c87r3]
      refine W.loopK (fun k st => st.tmps 6 = .one (.tt 2 []) ∧ st.tmps 7 = .one (.t (I 0)) ∧ st.tmps 5 = .one (.tt 1 [])) 0 ⟨by simp, by simp, by simp⟩ ?_
      rintro k st ⟨h6, h7, h5⟩
      simp [c87b19, c87r4, c87r17, h6, h7, h5, pureEnd, edgesF, ints]
    | cons y b =>
      simp [c87r0, c87r1, c87r2, spans]
      simp at hb ha
      exact ⟨by omega, edges_rest (y :: b) (by simp; omega) (by simpa using hok) 6 0 _ (by simp) (by simp [Function.comp_def]) (by simp) _ rfl (by simp) (by simp [IsInts])⟩
  | cons x a =>
    simp [c87r0, c87r1, c87r2, spans]
    simp at hb ha
    refine ⟨by omega, by omega, ?_⟩
    have := edges_rest (n := 77) (x :: (a ++ b)) (by simp; omega) (by simpa using hok) 4 1
    exact this _ (by simp) (by simp [Function.comp_def]) (by simp) _ rfl (by simp; omega) (by simp [IsInts])
end Go.Proofs.YtdpbobkcbakpfaaGreatDoor

namespace Go.Proofs.YtdpbobkcbakpfaaGreatDoor
open Go Go.Ab
set_option maxRecDepth 100000

def selOp (op : Int) (x y : Bool) : Bool := (op == 0 && (x || y)) || (op == 1 && (x && y)) || (op == 2 && (x && !y))

theorem sel_part {n : Nat} {A : Exit → St → Prop} {ks : List KF} {nx nx' : Nat} {tm : Nat → D} {h0 : Hp} (op : Int) (x y : Bool) (e0 : tm 0 = .one (.t (I op))) (e10 : tm 10 = .one (.t (.bool x))) (e11 : tm 11 = .one (.t (.bool y)))
    (K : ∀ tm' : Nat → D, tm' 0 = tm 0 → tm' 1 = tm 1 → tm' 2 = tm 2 → tm' 7 = tm 7 → tm' 8 = tm 8 → tm' 9 = tm 9 → tm' 12 = .one (.t (.bool (selOp op x y))) → retK Tryz.prog n A ks .normal ⟨tm', h0, nx'⟩) :
    segWP Tryz.prog false nx c38r7 (regK (kont Tryz.prog n A ks) nx') 0 tm h0 := by
  by_cases o0 : op = 0
  · subst o0
    cases x <;> cases y <;> simp [c38r7, e0, e10, e11] <;> exact K _ (by simp) (by simp) (by simp) (by simp) (by simp) (by simp) (by simp [selOp])
  by_cases o1 : op = 1
  · subst o1
    cases x <;> cases y <;> simp [c38r7, e0, e10, e11] <;> exact K _ (by simp) (by simp) (by simp) (by simp) (by simp) (by simp) (by simp [selOp])
  by_cases o2 : op = 2
  · subst o2
    cases x <;> cases y <;> simp [c38r7, e0, e10, e11] <;> exact K _ (by simp) (by simp) (by simp) (by simp) (by simp) (by simp) (by simp [selOp])
  have q0 : (op == 0) = false := by simpa using o0
  have q1 : (op == 1) = false := by simpa using o1
  have q2 : (op == 2) = false := by simpa using o2
  cases x <;> cases y <;> simp [c38r7, e0, e10, e11, q0, q1, q2] <;> exact K _ (by simp) (by simp) (by simp) (by simp) (by simp) (by simp) (by simp [selOp, o0, o1, o2])

def combStep (op : Int) (a b acc : List Sp) (u v : Int) : List Sp :=
  if selOp op (inS a u) (inS b u) then
    match acc.getLast? with
    | some z => if z.2 + 1 = u then acc.dropLast ++ [(z.1, v - 1)] else acc ++ [(u, v - 1)]
    | none => [(u, v - 1)]
  else acc

def combL (op : Int) (a b : List Sp) : List Sp → List Int → List Sp
  | acc, u :: v :: r => combL op a b (combStep op a b acc u v) (v :: r)
  | acc, _ => acc

def IsOut (d : D) (h : Hp) (nx : Nat) (acc : List Sp) : Prop :=
  (acc = [] ∧ d = .one (.tt 2 [])) ∨ (acc ≠ [] ∧ ∃ id ver, id < nx ∧ d = .one (.ref id ver 0 acc.length 2 false) ∧ alive h id ver ∧ h.rows id = (acc.map fun x => (spr x).map .t) ∧ h.sz id = 2 ∧ h.shut id = false)

theorem combL_nil {op : Int} {a b acc : List Sp} : ∀ {l : List Int}, l.length ≤ 1 → combL op a b acc l = acc
  | [], _ => rfl
  | [_], _ => rfl
  | _ :: _ :: _, h => by simp at h

theorem combL_at {op : Int} {a b acc : List Sp} {l : List Int} {i : Nat} (h : i + 1 < l.length) : combL op a b acc (l.drop i) = combL op a b (combStep op a b acc l[i] l[i + 1]) (l.drop (i + 1)) := by
  rw [List.drop_eq_getElem_cons (show i < l.length by omega), List.drop_eq_getElem_cons h]
  rfl

end Go.Proofs.YtdpbobkcbakpfaaGreatDoor

namespace Go.Ab
open Go
theorem frz_ref_t {h : Hp} {id ver sz : Nat} {t : Bool} {rs : List (List T)} (hr : h.rows id = rs.map (·.map .t)) : (A.ref id ver 0 rs.length sz t).frz h frzDepth = .rows sz rs := by
  simp [frzDepth, A.frz, hr, List.take_of_length_le, Function.comp_def]
theorem frzOk_ref_t {h : Hp} {id ver sz : Nat} {t : Bool} {rs : List (List T)} (ha : alive h id ver) (hz : h.sz id = sz) (hr : h.rows id = rs.map (·.map .t)) : (A.ref id ver 0 rs.length sz t).frzOk h frzDepth := by
  refine ⟨ha, hz, by simp [hr], fun r hr' x hx => ?_⟩
  rw [hr] at hr'
  have := List.mem_of_mem_drop (List.mem_of_mem_take hr')
  obtain ⟨y, _, rfl⟩ := List.mem_map.1 this
  obtain ⟨z, _, rfl⟩ := List.mem_map.1 hx
  simp
end Go.Ab
namespace Go.Proofs.YtdpbobkcbakpfaaGreatDoor
open Go Go.Ab
set_option maxRecDepth 100000

theorem insU_mem {n y : Int} : ∀ {l : List Int}, y ∈ insU n l → y = n ∨ y ∈ l
  | [], h => by simpa [insU] using h
  | x :: r, h => by
    unfold insU at h
    split at h
    · rcases List.mem_cons.1 h with h | h
      · simp [h]
      · rcases insU_mem h with h | h <;> simp [h]
    · split at h
      · exact .inr h
      · rcases List.mem_cons.1 h with h | h
        · exact .inl h
        · exact .inr h

theorem edgesF_mem {l : List Sp} {y : Int} : y ∈ edgesF l → ∃ x ∈ l, y = x.1 ∨ y = x.2 + 1 := by
  have : ∀ (l : List Sp) (o : List Int), y ∈ l.foldl (fun out x => insU (x.2 + 1) (insU x.1 out)) o → y ∈ o ∨ ∃ x ∈ l, y = x.1 ∨ y = x.2 + 1 := by
    intro l
    induction l with
    | nil => intro o h; exact .inl h
    | cons x r ih =>
      intro o h
      rcases ih _ h with h | ⟨z, hz, h⟩
      · rcases insU_mem h with h | h
        · exact .inr ⟨x, by simp, .inr h⟩
        · rcases insU_mem h with h | h
          · exact .inr ⟨x, by simp, .inl h⟩
          · exact .inl h
      · exact .inr ⟨z, by simp [hz], h⟩
  intro h
  rcases this l [] h with h | h
  · simp at h
  · exact h

theorem IsOut.mono {d : D} {h : Hp} {nx nx' : Nat} {acc : List Sp} (ho : IsOut d h nx acc) (hn : nx ≤ nx') : IsOut d h nx' acc := by
  rcases ho with ho | ⟨h1, id, ver, h2, h3⟩
  · exact .inl ho
  · exact .inr ⟨h1, id, ver, by omega, h3⟩

theorem CombineP (op : Int) (a b : List Sp) (ha : a.length ≤ 400) (hb : b.length ≤ 400) (hok : ∀ x ∈ a ++ b, bad x = false) :
    PSp Tryz.prog 38 [.one (.t (I op)), .one (.t (spans a)), .one (.t (spans b))] (.one (.t (spans (combL op a b [] (edgesF (a ++ b)))))) := by
  refine k38.pureK (by simp) rfl rfl ?_
  simp [c38, c38r0, c38r1]
  refine callK.pure (edgesP a b ha hb hok) (by simp) (by simp) ?_
  have hl : (edgesF (a ++ b)).length ≤ 1600 := by have := edgesF_len (a ++ b); simp at this; omega
  have hm : ∀ y ∈ edgesF (a ++ b), -1152921504606846976 ≤ y ∧ y ≤ 1152921504606846977 := fun y hy => by
    obtain ⟨x, hx, h⟩ := edgesF_mem hy
    have := hok x hx
    simp [bad] at this
    omega
  generalize edgesF (a ++ b) = l at hl hm
  simp [c38r2, c38r3]
  refine W.loopK (fun k st => ∃ (i : Nat) (acc : List Sp), k = l.length - i ∧ i ≤ l.length ∧ st.tmps 0 = .one (.t (I op)) ∧ st.tmps 1 = .one (.t (spans a)) ∧ st.tmps 2 = .one (.t (spans b)) ∧ st.tmps 7 = .one (.t (ints l)) ∧ st.tmps 9 = .one (.t (I i)) ∧
    IsOut (st.tmps 8) st.heap st.nx acc ∧ combL op a b [] l = combL op a b acc (l.drop i) ∧ acc.length ≤ i ∧ ∀ z ∈ acc, -1152921504606846977 ≤ z.2 ∧ z.2 ≤ 1152921504606846976) l.length
    ⟨0, [], by simp, by simp, by simp, by simp, by simp, by simp, by simp, by simp [IsOut], by simp, by simp, by simp⟩ ?_
  rintro k st ⟨i, acc, hk, hi, h0, h1, h2, h7, h9, h8, hc, hacc, hbd⟩
  have hw : IntKind.i64.wrap ((i : Int) + 1) = (i : Int) + 1 := wrap_i64 (by omega) (by omega)
  rcases Nat.lt_or_ge (i + 1) l.length with hlt | hge
  · have hlt0 : i < l.length := by omega
    have hltI : (i : Int) + 1 < l.length := by omega
    rw [hc, combL_at hlt]
    simp [c38b13, c38r4, c38r6, h1, h7, h9, hw, ints, hlt0, hltI]
    refine callK.draw (InP a l[i] (by omega)) (by simp) (by simp) (by simp) ?_
    simp [h2, h7, h9, ints, hlt0]
    refine callK.draw (InP b l[i] (by omega)) (by simp) (by simp) (by simp) ?_
    simp
    refine sel_part op (inS a l[i]) (inS b l[i]) (by simpa using h0) (by simp) (by simp) fun tm' p0 p1 p2 p7 p8 p9 p12 => ?_
    simp [h0, h1, h2, h7, h9] at p0 p1 p2 p7 p8 p9
    rw [← p8] at h8
    by_cases hs : selOp op (inS a l[i]) (inS b l[i]) = true
    · simp [c38r8, c38r9, p12, hs]
      have hu := hm l[i] (List.getElem_mem hlt0)
      have hv := hm l[i + 1] (List.getElem_mem hlt)
      have hw2 : IntKind.i64.wrap (l[i + 1] - 1) = l[i + 1] - 1 := wrap_i64 (by omega) (by omega)
      have hn1 : ((i : Int) + 1).toNat = i + 1 := by omega
      rcases h8 with ⟨rfl, h8⟩ | ⟨hne, id, ver, hid, h8, q1, q2, q3, q4⟩
      · simp [h8, c38r10]
        simp [c38r12, c38r5, h8, p0, p1, p2, p7, p9, ints, hw, hlt0, hltI, hn1, hlt, hw2]
        refine ⟨by omega, l.length - (i + 1), by omega, i + 1, rfl, by omega, rfl, [(l[i], l[i + 1] - 1)], ?_, by simp [combStep, hs], by simp, by simp; omega⟩
        simp [IsOut, spr]
        exact ⟨_, by omega, 0, ⟨rfl, rfl⟩, by simp, by simp, by simp, by simp⟩
      · obtain ⟨acc', z, rfl⟩ : ∃ acc' z, acc = acc' ++ [z] := by
          rcases List.eq_nil_or_concat acc with e | ⟨x, y, e⟩
          · exact absurd e hne
          · exact ⟨x, y, by simpa using e⟩
        have hz := hbd z (by simp)
        have hlen : acc'.length + 1 ≤ i := by simpa using hacc
        have hw3 : IntKind.i64.wrap (acc'.length : Int) = acc'.length := wrap_i64 (by omega) (by omega)
        have hw4 : IntKind.i64.wrap (z.2 + 1) = z.2 + 1 := wrap_i64 (by omega) (by omega)
        have hg : (st.heap.rows id)[acc'.length]? = some ((spr z).map .t) := by rw [q2]; simp
        have hgE : ∀ hh : acc'.length < (st.heap.rows id).length, (st.heap.rows id)[acc'.length]'hh = (spr z).map .t := fun hh => by simp [q2]
        have hln : (st.heap.rows id).length = acc'.length + 1 := by rw [q2]; simp
        simp [h8, c38r10, hw3, q1, q3, hgE, hln, hw4, p7, p9, ints, hlt0, spr]
        refine ⟨by omega, fun heq => ?_, fun hneq => ?_⟩
        · simp [c38r11, c38r5, h8, p0, p1, p2, p7, p9, ints, hw, hw2, hw3, hltI, hn1, hlt, q1, q3, q4, hgE, hln, spr]
          refine ⟨by omega, by omega, l.length - (i + 1), by omega, i + 1, rfl, by omega, rfl, acc' ++ [(z.1, l[i + 1] - 1)], .inr ⟨by simp, id, ver, by omega, by simp, by simp, ?_, by simp, by simp⟩, by simp [combStep, hs, heq], by simp; omega, fun x y hxy => ?_⟩
          · rw [set_rows, if_pos rfl, q2]; simp [spr]
          · rcases List.mem_append.1 hxy with h | h
            · exact hbd (x, y) (by simp [h])
            · simp at h; omega
        · simp [c38r12, c38r5, h8, p0, p1, p2, p7, p9, ints, hw, hw2, hlt0, hltI, hn1, hlt, q1, q3, hln]
          refine ⟨by omega, by omega, l.length - (i + 1), by omega, i + 1, rfl, by omega, rfl, acc' ++ [z] ++ [(l[i], l[i + 1] - 1)], .inr ⟨by simp, id, ver + 1, by omega, by simp, by simp, ?_, by simp, ?_⟩, by simp [combStep, hs, hneq], by simp; omega, fun x y hxy => ?_⟩
          · rw [set_rows, if_pos rfl, q2]; simp [spr]
          · rw [set_shut, if_pos rfl, q4]
          · rcases List.mem_append.1 hxy with h | h
            · exact hbd (x, y) h
            · simp at h; omega
    · simp [c38r8, c38r5, p12, hs, p0, p1, p2, p7, p9, hw, ints]
      exact ⟨l.length - (i + 1), by omega, i + 1, rfl, by omega, rfl, acc, h8.mono (by omega), by simp [combStep, hs], by omega, by simpa using hbd⟩
  · rw [hc, combL_nil (by simp; omega)]
    have hltI : ¬ (i : Int) + 1 < l.length := by omega
    simp [c38b13, c38r4, c38r13, h7, h9, hw, ints, hltI, pureEnd]
    rcases h8 with ⟨rfl, h8⟩ | ⟨_, id, ver, _, h8, q1, q2, q3, q4⟩
    · simp [h8, spans]
    · have e1 : (acc.map spr).length = acc.length := by simp
      rw [h8, ← e1]
      have q2' : st.heap.rows id = (acc.map spr).map (·.map .t) := by rw [q2]; simp [Function.comp_def]
      refine ⟨frzOk_ref_t q1 q3 q2', ?_⟩
      simp only [frz_ref_t q2', spans]
end Go.Proofs.YtdpbobkcbakpfaaGreatDoor

namespace Go.Proofs.YtdpbobkcbakpfaaGreatDoor
open Go Go.Ab

/-- Ascending with gaps. -/
def Gap : List Sp → Prop
  | [] => True
  | x :: r => x.1 ≤ x.2 ∧ (∀ y ∈ r, x.2 + 1 < y.1) ∧ Gap r

theorem inS_cons {x : Sp} {l : List Sp} {n : Int} : inS (x :: l) n = (decide (x.1 ≤ n ∧ n ≤ x.2) || inS l n) := by simp [inS]
theorem inS_nil {n : Int} : inS [] n = false := rfl
theorem inS_append {a b : List Sp} {n : Int} : inS (a ++ b) n = (inS a n || inS b n) := by simp [inS]
theorem inS_iff {l : List Sp} {n : Int} : inS l n = true ↔ ∃ x ∈ l, x.1 ≤ n ∧ n ≤ x.2 := by simp [inS]
theorem inS_false {l : List Sp} {n : Int} : inS l n = false ↔ ∀ x ∈ l, ¬ (x.1 ≤ n ∧ n ≤ x.2) := by
  rw [← Bool.not_eq_true, inS_iff]
  constructor
  · intro h x hx hh; exact h ⟨x, hx, hh⟩
  · rintro h ⟨x, hx, hh⟩; exact h x hx hh

theorem Gap.tail {x : Sp} {l : List Sp} (h : Gap (x :: l)) : Gap l := h.2.2

theorem Gap.valid : ∀ {l : List Sp}, Gap l → ∀ x ∈ l, x.1 ≤ x.2
  | [], _, x, hx => by cases hx
  | y :: l, h, x, hx => by
    rcases List.mem_cons.1 hx with rfl | hx
    · exact h.1
    · exact Gap.valid h.2.2 x hx

theorem gap_least {x : Sp} {l : List Sp} (h : Gap (x :: l)) {n : Int} (hn : inS (x :: l) n = true) : x.1 ≤ n := by
  obtain ⟨y, hy, h1, h2⟩ := inS_iff.1 hn
  rcases List.mem_cons.1 hy with rfl | hy
  · exact h1
  · have := h.2.1 y hy; have := h.1; omega

theorem gap_head {x : Sp} {l : List Sp} (h : Gap (x :: l)) : inS (x :: l) x.1 = true := inS_iff.2 ⟨x, by simp, by omega, h.1⟩

theorem gap_behind {x : Sp} {l : List Sp} (h : Gap (x :: l)) {n : Int} (h1 : n ≤ x.2 + 1) : inS l n = false := inS_false.2 fun y hy => by
  have := h.2.1 y hy; omega

/-- There is one such list for each set of numbers. -/
theorem gap_unique : ∀ {a b : List Sp}, Gap a → Gap b → (∀ n, inS a n = inS b n) → a = b
  | [], [], _, _, _ => rfl
  | [], y :: b, _, hb, h => by have := h y.1; rw [gap_head hb] at this; simp [inS] at this
  | x :: a, [], ha, _, h => by have := h x.1; rw [gap_head ha] at this; simp [inS] at this
  | x :: a, y :: b, ha, hb, h => by
    have e1 : x.1 = y.1 := by
      have h1 := gap_least hb (n := x.1) (by rw [← h]; exact gap_head ha)
      have h2 := gap_least ha (n := y.1) (by rw [h]; exact gap_head hb)
      omega
    have side : ∀ {x y : Sp} {a b : List Sp}, Gap (x :: a) → Gap (y :: b) → (∀ n, inS (x :: a) n = inS (y :: b) n) → x.1 = y.1 → y.2 ≤ x.2 := fun {x y a b} ha hb h e => by
      by_cases hlt : x.2 < y.2
      · have h1 := ha.1
        have q1 : inS (y :: b) (x.2 + 1) = true := inS_iff.2 ⟨y, by simp, by omega, by omega⟩
        rw [← h, inS_cons, gap_behind ha (by omega)] at q1
        simp at q1
        omega
      · omega
    have e2 : x.2 = y.2 := by
      have h1 := side ha hb h e1
      have h2 := side hb ha (fun n => (h n).symm) e1.symm
      omega
    have exy : x = y := Prod.ext e1 e2
    subst exy
    have := gap_unique ha.tail hb.tail fun n => by
      by_cases hlt : x.2 + 1 < n
      · have := h n
        rw [inS_cons, inS_cons] at this
        have hd : decide (x.1 ≤ n ∧ n ≤ x.2) = false := by simp; omega
        rw [hd] at this
        simpa using this
      · rw [gap_behind ha (by omega), gap_behind hb (by omega)]
    rw [this]

theorem gap_snoc {a : List Sp} {z : Sp} : Gap (a ++ [z]) ↔ Gap a ∧ z.1 ≤ z.2 ∧ ∀ y ∈ a, y.2 + 1 < z.1 := by
  induction a with
  | nil => simp [Gap]
  | cons x a ih =>
    simp only [List.cons_append, Gap, ih, List.mem_append, List.mem_cons, List.not_mem_nil, or_false]
    constructor
    · rintro ⟨h1, h2, h3, h4, h5⟩
      refine ⟨⟨h1, fun y hy => h2 y (.inl hy), h3⟩, h4, ?_⟩
      rintro y (rfl | hy)
      · exact h2 z (.inr rfl)
      · exact h5 y hy
    · rintro ⟨⟨h1, h2, h3⟩, h4, h5⟩
      refine ⟨h1, ?_, h3, h4, fun y hy => h5 y (.inr hy)⟩
      rintro y (hy | rfl)
      · exact h2 y hy
      · exact h5 x (.inl rfl)

/-! ### normal -/
def normStep (acc : List Sp) (s : Sp) : List Sp :=
  match acc.getLast? with
  | some z => if s.1 ≤ z.2 + 1 then acc.dropLast ++ [(z.1, max z.2 s.2)] else acc ++ [s]
  | none => [s]

def mergeL (l : List Sp) : List Sp := l.foldl normStep []

theorem normStep_snoc {a : List Sp} {z s : Sp} : normStep (a ++ [z]) s = if s.1 ≤ z.2 + 1 then a ++ [(z.1, max z.2 s.2)] else a ++ [z] ++ [s] := by simp [normStep]

theorem norm_from : ∀ (l acc : List Sp), Gap acc → (∀ z ∈ acc, ∀ s ∈ l, z.1 ≤ s.1) → l.Pairwise (fun x y => x.1 ≤ y.1) → (∀ x ∈ l, x.1 ≤ x.2) → Gap (l.foldl normStep acc) ∧ ∀ n, inS (l.foldl normStep acc) n = (inS acc n || inS l n)
  | [], acc, hg, _, _, _ => ⟨hg, fun n => by simp [inS_nil]⟩
  | s :: l, acc, hg, hle, hp, hv => by
    have hs := hv s (by simp)
    rw [List.pairwise_cons] at hp
    have step : Gap (normStep acc s) ∧ (∀ z ∈ normStep acc s, ∀ t ∈ l, z.1 ≤ t.1) ∧ ∀ n, inS (normStep acc s) n = (inS acc n || decide (s.1 ≤ n ∧ n ≤ s.2)) := by
      rcases List.eq_nil_or_concat acc with rfl | ⟨a, z, rfl⟩
      · refine ⟨by simp [normStep, Gap, hs], fun z hz t ht => ?_, fun n => by simp [normStep, inS]⟩
        simp [normStep] at hz
        subst hz; exact hp.1 t ht
      · rw [List.concat_eq_append] at *
        rw [normStep_snoc]
        obtain ⟨g1, g2, g3⟩ := gap_snoc.1 hg
        have hz := hle z (by simp) s (by simp)
        split
        · rename_i hc
          refine ⟨gap_snoc.2 ⟨g1, by simp; omega, g3⟩, fun y hy t ht => ?_, fun n => ?_⟩
          · rcases List.mem_append.1 hy with hy | hy
            · exact hle y (by simp [hy]) t (by simp [ht])
            · simp at hy; subst hy; exact hle z (by simp) t (by simp [ht])
          · simp only [inS_append, inS_cons, inS_nil, Bool.or_false, Bool.or_assoc]
            congr 1
            rw [← Bool.decide_or]
            refine decide_eq_decide.2 ⟨fun h => ?_, fun h => ?_⟩
            · omega
            · omega
        · rename_i hc
          refine ⟨gap_snoc.2 ⟨hg, hs, fun y hy => ?_⟩, fun y hy t ht => ?_, fun n => by simp [inS_append, inS_cons, inS_nil, Bool.or_assoc]⟩
          · rcases List.mem_append.1 hy with hy | hy
            · have := g3 y hy; omega
            · simp at hy; subst hy; omega
          · rcases List.mem_append.1 hy with hy | hy
            · exact hle y hy t (by simp [ht])
            · simp at hy; subst hy; exact hp.1 t ht
    obtain ⟨q1, q2⟩ := norm_from l (normStep acc s) step.1 step.2.1 hp.2 (fun x hx => hv x (by simp [hx]))
    refine ⟨q1, fun n => ?_⟩
    rw [List.foldl_cons, q2, step.2.2, inS_cons, Bool.or_assoc]

theorem mergeL_law {l : List Sp} (hp : l.Pairwise fun x y => x.1 ≤ y.1) (hv : ∀ x ∈ l, x.1 ≤ x.2) : Gap (mergeL l) ∧ ∀ n, inS (mergeL l) n = inS l n := by
  obtain ⟨h1, h2⟩ := norm_from l [] trivial (by simp) hp hv
  exact ⟨h1, fun n => by rw [mergeL, h2]; simp [inS_nil]⟩

theorem inS_perm {l l' : List Sp} (h : l.Perm l') (n : Int) : inS l n = inS l' n := by
  rw [Bool.eq_iff_iff, inS_iff, inS_iff]
  constructor
  · rintro ⟨x, hx, hh⟩; exact ⟨x, h.mem_iff.1 hx, hh⟩
  · rintro ⟨x, hx, hh⟩; exact ⟨x, h.mem_iff.2 hx, hh⟩

/-! ### both, without -/
def meet (x y : Sp) : List Sp := if max x.1 y.1 ≤ min x.2 y.2 then [(max x.1 y.1, min x.2 y.2)] else []
def bothL (a b : List Sp) : List Sp := a.flatMap fun x => b.flatMap fun y => meet x y

theorem inS_flatMap {α : Type} {l : List α} {f : α → List Sp} {n : Int} : inS (l.flatMap f) n = l.any fun x => inS (f x) n := by
  induction l with
  | nil => rfl
  | cons x l ih => simp [inS_append, ih]

theorem meet_in {x y : Sp} {n : Int} : inS (meet x y) n = (decide (x.1 ≤ n ∧ n ≤ x.2) && decide (y.1 ≤ n ∧ n ≤ y.2)) := by
  unfold meet
  split
  · rename_i h
    rw [inS_cons, inS_nil, Bool.or_false, ← Bool.decide_and]
    exact decide_eq_decide.2 ⟨fun h => by simp at h; omega, fun h => by simp; omega⟩
  · rename_i h
    rw [inS_nil, ← Bool.decide_and]
    symm
    simp
    omega

theorem meet_any {x : Sp} {n : Int} : ∀ {b : List Sp}, (b.any fun y => inS (meet x y) n) = (decide (x.1 ≤ n ∧ n ≤ x.2) && inS b n)
  | [] => by simp [inS_nil]
  | y :: b => by rw [List.any_cons, meet_any, meet_in, inS_cons, Bool.and_or_distrib_left]

theorem bothL_in : ∀ {a b : List Sp} {n : Int}, inS (bothL a b) n = (inS a n && inS b n)
  | [], _, _ => rfl
  | x :: a, b, n => by
    have ih := bothL_in (a := a) (b := b) (n := n)
    unfold bothL at *
    rw [List.flatMap_cons, inS_append, ih, inS_flatMap, meet_any, inS_cons, Bool.and_or_distrib_right]

def cutBy (y x : Sp) : List Sp := (if x.1 < y.1 then [(x.1, min x.2 (y.1 - 1))] else []) ++ (if y.2 < x.2 then [(max x.1 (y.2 + 1), x.2)] else [])
def cutL (a : List Sp) (y : Sp) : List Sp := a.flatMap (cutBy y)
def withoutL (a b : List Sp) : List Sp := b.foldl cutL a

theorem cutBy_in {x y : Sp} (hx : x.1 ≤ x.2) (hy : y.1 ≤ y.2) {n : Int} : inS (cutBy y x) n = (decide (x.1 ≤ n ∧ n ≤ x.2) && !decide (y.1 ≤ n ∧ n ≤ y.2)) := by
  unfold cutBy
  rw [Bool.eq_iff_iff]
  simp only [inS_append, Bool.or_eq_true, Bool.and_eq_true, decide_eq_true_eq, Bool.not_eq_true', decide_eq_false_iff_not]
  split <;> split <;> simp [inS_cons, inS_nil] <;> omega

theorem cutBy_sub {x y z : Sp} (hx : x.1 ≤ x.2) (hy : y.1 ≤ y.2) (hz : z ∈ cutBy y x) : z.1 ≤ z.2 ∧ x.1 ≤ z.1 ∧ z.2 ≤ x.2 := by
  unfold cutBy at hz
  rcases List.mem_append.1 hz with h | h <;> split at h <;> simp at h <;> subst h <;> simp <;> omega

theorem cutL_in {a : List Sp} {y : Sp} (ha : ∀ x ∈ a, x.1 ≤ x.2) (hy : y.1 ≤ y.2) {n : Int} : inS (cutL a y) n = (inS a n && !decide (y.1 ≤ n ∧ n ≤ y.2)) := by
  unfold cutL
  rw [inS_flatMap]
  induction a with
  | nil => rfl
  | cons x a ih =>
    rw [List.any_cons, ih (fun z hz => ha z (by simp [hz])), cutBy_in (ha x (by simp)) hy, inS_cons, Bool.and_or_distrib_right]

theorem cutL_sub {a : List Sp} {y z : Sp} (ha : ∀ x ∈ a, x.1 ≤ x.2) (hy : y.1 ≤ y.2) (hz : z ∈ cutL a y) : z.1 ≤ z.2 ∧ ∃ x ∈ a, x.1 ≤ z.1 ∧ z.2 ≤ x.2 := by
  obtain ⟨x, hx, h⟩ := List.mem_flatMap.1 hz
  obtain ⟨h1, h2⟩ := cutBy_sub (ha x hx) hy h
  exact ⟨h1, x, hx, h2⟩

theorem withoutL_in : ∀ {b a : List Sp}, (∀ x ∈ a, x.1 ≤ x.2) → (∀ y ∈ b, y.1 ≤ y.2) → ∀ {n : Int}, inS (withoutL a b) n = (inS a n && !inS b n)
  | [], a, _, _, n => by simp [withoutL, inS_nil]
  | y :: b, a, ha, hb, n => by
    have := withoutL_in (b := b) (a := cutL a y) (fun z hz => (cutL_sub ha (hb y (by simp)) hz).1) (fun z hz => hb z (by simp [hz])) (n := n)
    rw [withoutL] at this
    rw [withoutL, List.foldl_cons, this, cutL_in ha (hb y (by simp)), inS_cons]
    cases inS a n <;> cases decide (y.1 ≤ n ∧ n ≤ y.2) <;> simp

/-- Apart and ascending. -/
def Asc : List Sp → Prop
  | [] => True
  | x :: r => x.1 ≤ x.2 ∧ (∀ y ∈ r, x.2 < y.1) ∧ Asc r

theorem Gap.asc : ∀ {l : List Sp}, Gap l → Asc l
  | [], _ => trivial
  | x :: l, h => ⟨h.1, fun y hy => by have := h.2.1 y hy; omega, Gap.asc h.2.2⟩

theorem Asc.valid : ∀ {l : List Sp}, Asc l → ∀ x ∈ l, x.1 ≤ x.2
  | [], _, x, hx => by cases hx
  | y :: l, h, x, hx => by
    rcases List.mem_cons.1 hx with rfl | hx
    · exact h.1
    · exact Asc.valid h.2.2 x hx

theorem Asc.append : ∀ {a b : List Sp}, Asc a → Asc b → (∀ x ∈ a, ∀ y ∈ b, x.2 < y.1) → Asc (a ++ b)
  | [], _, _, hb, _ => hb
  | x :: a, b, ha, hb, h => ⟨ha.1, fun y hy => by
      rcases List.mem_append.1 hy with hy | hy
      · exact ha.2.1 y hy
      · exact h x (by simp) y hy, Asc.append ha.2.2 hb fun z hz y hy => h z (by simp [hz]) y hy⟩

theorem cutBy_asc {x y : Sp} (hx : x.1 ≤ x.2) (hy : y.1 ≤ y.2) : Asc (cutBy y x) := by
  unfold cutBy
  split <;> split <;> simp [Asc] <;> omega

theorem cutL_asc : ∀ {a : List Sp} {y : Sp}, Asc a → y.1 ≤ y.2 → Asc (cutL a y)
  | [], _, _, _ => trivial
  | x :: a, y, ha, hy => by
    rw [cutL, List.flatMap_cons]
    refine Asc.append (cutBy_asc ha.1 hy) (cutL_asc ha.2.2 hy) fun z hz t ht => ?_
    have h1 := cutBy_sub ha.1 hy hz
    obtain ⟨h2, x', hx', h3⟩ := cutL_sub (Asc.valid ha.2.2) hy ht
    have := ha.2.1 x' hx'
    omega

theorem cutL_right : ∀ {a : List Sp} {y : Sp}, (∀ x ∈ a, y.1 ≤ x.1) → (cutL a y).length ≤ a.length
  | [], _, _ => by simp [cutL]
  | x :: a, y, h => by
    have h1 := cutL_right (a := a) (y := y) fun z hz => h z (by simp [hz])
    have h2 := h x (by simp)
    rw [cutL] at h1
    rw [cutL, List.flatMap_cons, List.length_append, List.length_cons]
    have : (cutBy y x).length ≤ 1 := by
      unfold cutBy
      rw [if_neg (by omega)]
      split <;> simp
    omega

theorem cutL_len : ∀ {a : List Sp} {y : Sp}, Asc a → y.1 ≤ y.2 → (cutL a y).length ≤ a.length + 1
  | [], _, _, _ => by simp [cutL]
  | x :: a, y, ha, hy => by
    have h1 := cutL_len ha.2.2 hy
    have h2 : (x.1 < y.1 ∧ y.2 < x.2) → (cutL a y).length ≤ a.length := fun h => cutL_right fun z hz => by have := ha.2.1 z hz; omega
    have h3 : (cutBy y x).length ≤ 2 := by unfold cutBy; split <;> split <;> simp
    have h4 : ¬ (x.1 < y.1 ∧ y.2 < x.2) → (cutBy y x).length ≤ 1 := fun h => by
      unfold cutBy
      split <;> split <;> simp
      exact h ⟨by assumption, by assumption⟩
    have e : (cutL (x :: a) y).length = (cutBy y x).length + (cutL a y).length := by rw [cutL, List.flatMap_cons, List.length_append]; rfl
    rw [e, List.length_cons]
    by_cases hc : x.1 < y.1 ∧ y.2 < x.2
    · have := h2 hc; omega
    · have := h4 hc; omega

theorem withoutL_asc : ∀ {b a : List Sp}, Asc a → (∀ y ∈ b, y.1 ≤ y.2) → Asc (withoutL a b) ∧ (withoutL a b).length ≤ a.length + b.length ∧ ∀ z ∈ withoutL a b, ∃ x ∈ a, x.1 ≤ z.1 ∧ z.2 ≤ x.2
  | [], a, ha, _ => ⟨ha, by simp [withoutL], fun z hz => ⟨z, hz, by omega, by omega⟩⟩
  | y :: b, a, ha, hb => by
    have hy := hb y (by simp)
    obtain ⟨h1, h2, h3⟩ := withoutL_asc (b := b) (a := cutL a y) (cutL_asc ha hy) fun z hz => hb z (by simp [hz])
    rw [withoutL] at h1 h2 h3
    rw [withoutL, List.foldl_cons]
    refine ⟨h1, ?_, fun z hz => ?_⟩
    · have := cutL_len ha hy
      simp only [List.length_cons]
      omega
    · obtain ⟨x, hx, h4⟩ := h3 z hz
      obtain ⟨_, x', hx', h5⟩ := cutL_sub ha.valid hy hx
      exact ⟨x', hx', by omega, by omega⟩
end Go.Proofs.YtdpbobkcbakpfaaGreatDoor

