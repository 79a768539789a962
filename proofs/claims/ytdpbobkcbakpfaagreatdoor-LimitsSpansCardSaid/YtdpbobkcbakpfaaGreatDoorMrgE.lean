/- Texts of this proof, laid one behind the other (Pl2, Nr0, Nr1, Nr2, Nr3, Nr4, Nr5, Nr6, Ab188, CT, Nr7, Nr8, Nr9). -/
import Derived.Test.YtdpbobkcbakpfaaGreatDoorProg
import Derived.Test.YtdpbobkcbakpfaaGreatDoorMrgD
namespace Go.Proofs.YtdpbobkcbakpfaaGreatDoor
open Go Go.Ab

theorem insU_in {n y : Int} : ∀ {l : List Int}, (y = n ∨ y ∈ l) → y ∈ insU n l
  | [], h => by simpa [insU] using h
  | x :: r, h => by
    unfold insU
    split
    · rcases h with h | h
      · exact List.mem_cons_of_mem _ (insU_in (.inl h))
      · rcases List.mem_cons.1 h with h | h
        · simp [h]
        · exact List.mem_cons_of_mem _ (insU_in (.inr h))
    · split
      · rename_i e
        rcases h with h | h
        · simp [h, e]
        · exact h
      · rcases h with h | h
        · simp [h]
        · exact List.mem_cons_of_mem _ h

theorem insU_sorted {n : Int} : ∀ {l : List Int}, l.Pairwise (· < ·) → (insU n l).Pairwise (· < ·)
  | [], _ => by simp [insU]
  | x :: r, h => by
    rw [List.pairwise_cons] at h
    unfold insU
    split
    · refine List.pairwise_cons.2 ⟨fun y hy => ?_, insU_sorted h.2⟩
      rcases insU_mem hy with rfl | hy
      · assumption
      · exact h.1 y hy
    · split
      · exact List.pairwise_cons.2 h
      · refine List.pairwise_cons.2 ⟨fun y hy => ?_, List.pairwise_cons.2 h⟩
        rcases List.mem_cons.1 hy with rfl | hy
        · omega
        · have := h.1 y hy; omega

theorem edgesF_facts (l : List Sp) : (edgesF l).Pairwise (· < ·) ∧ ∀ x ∈ l, x.1 ∈ edgesF l ∧ x.2 + 1 ∈ edgesF l := by
  have : ∀ (l : List Sp) (o : List Int), o.Pairwise (· < ·) → (l.foldl (fun out x => insU (x.2 + 1) (insU x.1 out)) o).Pairwise (· < ·) ∧ (∀ y ∈ o, y ∈ l.foldl (fun out x => insU (x.2 + 1) (insU x.1 out)) o) ∧
      ∀ x ∈ l, x.1 ∈ l.foldl (fun out x => insU (x.2 + 1) (insU x.1 out)) o ∧ x.2 + 1 ∈ l.foldl (fun out x => insU (x.2 + 1) (insU x.1 out)) o := by
    intro l
    induction l with
    | nil => intro o h; exact ⟨h, fun y hy => hy, by simp⟩
    | cons x r ih =>
      intro o h
      obtain ⟨h1, h2, h3⟩ := ih (insU (x.2 + 1) (insU x.1 o)) (insU_sorted (insU_sorted h))
      refine ⟨h1, fun y hy => h2 y (insU_in (.inr (insU_in (.inr hy)))), fun z hz => ?_⟩
      rcases List.mem_cons.1 hz with rfl | hz
      · exact ⟨h2 _ (insU_in (.inr (insU_in (.inl rfl)))), h2 _ (insU_in (.inl rfl))⟩
      · exact h3 z hz
  obtain ⟨h1, _, h3⟩ := this l [] List.Pairwise.nil
  exact ⟨h1, h3⟩

theorem selOp_none {op : Int} : selOp op false false = false := by simp [selOp]

theorem combStep_snoc {op : Int} {a b acc : List Sp} {z : Sp} {u v : Int} (hs : selOp op (inS a u) (inS b u) = true) : combStep op a b (acc ++ [z]) u v = if z.2 + 1 = u then acc ++ [(z.1, v - 1)] else acc ++ [z] ++ [(u, v - 1)] := by simp [combStep, hs]

theorem comb_from (op : Int) (a b : List Sp) : ∀ (l : List Int) (acc : List Sp), l.Pairwise (· < ·) → Gap acc → (∀ z ∈ acc, ∀ e ∈ l, z.2 < e) → (∀ n, (∀ e ∈ l, n < e) → inS acc n = selOp op (inS a n) (inS b n)) →
    (∀ x ∈ a ++ b, ((∀ e ∈ l, x.1 < e) ∨ x.1 ∈ l) ∧ ((∀ e ∈ l, x.2 + 1 < e) ∨ x.2 + 1 ∈ l)) → Gap (combL op a b acc l) ∧ ∀ n, inS (combL op a b acc l) n = selOp op (inS a n) (inS b n)
  | [], acc, _, hg, _, hacc, _ => ⟨hg, fun n => hacc n (by simp)⟩
  | [u], acc, _, hg, hz, hacc, hE => by
    refine ⟨hg, fun n => ?_⟩
    show inS acc n = _
    by_cases hn : n < u
    · exact hacc n (by simpa using hn)
    · have h1 : inS acc n = false := inS_false.2 fun z hz' => by have := hz z hz' u (by simp); omega
      have out : ∀ c : List Sp, (∀ x ∈ c, x ∈ a ++ b) → inS c n = false := fun c hc => inS_false.2 fun x hx => by
        have := (hE x (hc x hx)).2
        simp at this
        omega
      rw [h1, out a (fun x hx => by simp [hx]), out b (fun x hx => by simp [hx]), selOp_none]
  | u :: v :: r, acc, hp, hg, hz, hacc, hE => by
    rw [List.pairwise_cons] at hp
    have huv : u < v := hp.1 v (by simp)
    have hvr := hp.2
    rw [List.pairwise_cons] at hvr
    have hvle : ∀ e ∈ v :: r, v ≤ e := fun e he => by
      rcases List.mem_cons.1 he with rfl | he
      · omega
      · have := hvr.1 e he; omega
    -- between two edges nothing changes
    have edge : ∀ e : Int, ((∀ e' ∈ u :: v :: r, e < e') ∨ e ∈ u :: v :: r) → e ≤ u ∨ v ≤ e := fun e he => by
      rcases he with he | he
      · have := he u (by simp); omega
      · rcases List.mem_cons.1 he with rfl | he
        · omega
        · have := hvle e he; omega
    have same : ∀ c : List Sp, (∀ x ∈ c, x ∈ a ++ b) → ∀ n, u ≤ n → n < v → inS c n = inS c u := fun c hc n h1 h2 => by
      rw [Bool.eq_iff_iff, inS_iff, inS_iff]
      constructor
      · rintro ⟨x, hx, h3, h4⟩
        have e1 := edge _ (hE x (hc x hx)).1
        have e2 := edge _ (hE x (hc x hx)).2
        exact ⟨x, hx, by omega, by omega⟩
      · rintro ⟨x, hx, h3, h4⟩
        have e1 := edge _ (hE x (hc x hx)).1
        have e2 := edge _ (hE x (hc x hx)).2
        exact ⟨x, hx, by omega, by omega⟩
    have sa := same a (fun x hx => by simp [hx])
    have sb := same b (fun x hx => by simp [hx])
    have hzu : ∀ z ∈ acc, z.2 < u := fun z hz' => hz z hz' u (by simp)
    have haccu : ∀ n, n < u → inS acc n = selOp op (inS a n) (inS b n) := fun n hn => hacc n fun e he => by
      rcases List.mem_cons.1 he with rfl | he
      · exact hn
      · have := hvle e he; omega
    have haccn : ∀ n, u ≤ n → inS acc n = false := fun n hn => inS_false.2 fun z hz' => by have := hzu z hz'; omega
    have step : Gap (combStep op a b acc u v) ∧ (∀ z ∈ combStep op a b acc u v, z.2 < v) ∧ ∀ n, n < v → inS (combStep op a b acc u v) n = selOp op (inS a n) (inS b n) := by
      cases hs : selOp op (inS a u) (inS b u) with
      | false =>
        have e : combStep op a b acc u v = acc := by simp [combStep, hs]
        rw [e]
        refine ⟨hg, fun z hz' => by have := hzu z hz'; omega, fun n hn => ?_⟩
        by_cases h : n < u
        · exact haccu n h
        · rw [haccn n (by omega), sa n (by omega) hn, sb n (by omega) hn, hs]
      | true =>
        have val : ∀ n, n < v → (inS acc n || decide (u ≤ n ∧ n ≤ v - 1)) = selOp op (inS a n) (inS b n) := fun n hn => by
          by_cases h : n < u
          · have : decide (u ≤ n ∧ n ≤ v - 1) = false := by simp; omega
            rw [this, Bool.or_false, haccu n h]
          · have : decide (u ≤ n ∧ n ≤ v - 1) = true := by simp; omega
            rw [this, Bool.or_true, sa n (by omega) hn, sb n (by omega) hn, hs]
        rcases List.eq_nil_or_concat acc with rfl | ⟨acc', z, rfl⟩
        · have e : combStep op a b [] u v = [(u, v - 1)] := by simp [combStep, hs]
          rw [e]
          refine ⟨by simp [Gap]; omega, fun z hz' => by simp at hz'; subst hz'; simp; omega, fun n hn => ?_⟩
          rw [← val n hn, inS_cons, inS_nil, Bool.or_false, Bool.false_or]
        · rw [List.concat_eq_append] at *
          obtain ⟨g1, g2, g3⟩ := gap_snoc.1 hg
          have hz2 := hzu z (by simp)
          rw [combStep_snoc hs]
          split
          · rename_i hc
            refine ⟨gap_snoc.2 ⟨g1, by simp; omega, g3⟩, fun y hy => ?_, fun n hn => ?_⟩
            · rcases List.mem_append.1 hy with hy | hy
              · have := hzu y (by simp [hy]); omega
              · simp at hy; subst hy; simp; omega
            · rw [← val n hn]
              simp only [inS_append, inS_cons, inS_nil, Bool.or_false, Bool.or_assoc]
              congr 1
              rw [← Bool.decide_or]
              exact decide_eq_decide.2 ⟨fun h => by omega, fun h => by omega⟩
          · rename_i hc
            refine ⟨gap_snoc.2 ⟨hg, by simp; omega, fun y hy => ?_⟩, fun y hy => ?_, fun n hn => ?_⟩
            · rcases List.mem_append.1 hy with hy | hy
              · have := g3 y hy; simp; omega
              · simp at hy; subst hy; simp; omega
            · rcases List.mem_append.1 hy with hy | hy
              · have := hzu y hy; omega
              · simp at hy; subst hy; simp; omega
            · rw [← val n hn, inS_append, inS_cons, inS_nil, Bool.or_false]
    show Gap (combL op a b (combStep op a b acc u v) (v :: r)) ∧ ∀ n, inS (combL op a b (combStep op a b acc u v) (v :: r)) n = _
    refine comb_from op a b (v :: r) _ hp.2 step.1 (fun z hz' e he => by have := step.2.1 z hz'; have := hvle e he; omega) (fun n hn => step.2.2 n (hn v (by simp))) fun x hx => ?_
    have tail : ∀ e : Int, ((∀ e' ∈ u :: v :: r, e < e') ∨ e ∈ u :: v :: r) → (∀ e' ∈ v :: r, e < e') ∨ e ∈ v :: r := fun e he => by
      rcases he with he | he
      · exact .inl fun e' he' => he e' (List.mem_cons_of_mem _ he')
      · rcases List.mem_cons.1 he with rfl | he
        · exact .inl fun e' he' => hp.1 e' he'
        · exact .inr he
    exact ⟨tail _ (hE x hx).1, tail _ (hE x hx).2⟩

theorem combL_law (op : Int) (a b : List Sp) : Gap (combL op a b [] (edgesF (a ++ b))) ∧ ∀ n, inS (combL op a b [] (edgesF (a ++ b))) n = selOp op (inS a n) (inS b n) := by
  obtain ⟨h1, h2⟩ := edgesF_facts (a ++ b)
  refine comb_from op a b _ [] h1 trivial (by simp) (fun n hn => ?_) fun x hx => ⟨.inr (h2 x hx).1, .inr (h2 x hx).2⟩
  have out : ∀ c : List Sp, (∀ x ∈ c, x ∈ a ++ b) → inS c n = false := fun c hc => inS_false.2 fun x hx => by
    have := hn _ (h2 x (hc x hx)).1
    omega
  rw [out a (fun x hx => by simp [hx]), out b (fun x hx => by simp [hx]), selOp_none, inS_nil]

/-! ### What CheckSpans lets in -/
theorem chk_ok : ∀ (k : Nat) (l : List Sp) (i : Nat), l.length - i = k → (chk l i).2 = 0 → ∀ j, i ≤ j → ∀ hj : j < l.length, bad l[j] = false ∧ (0 < j → (l.getD (j - 1) (0, 0)).2 + 1 < l[j].1)
  | 0, l, i, hk, h, j, hij, hj => by omega
  | k + 1, l, i, hk, h, j, hij, hj => by
    have hi : i < l.length := by omega
    rw [chk, dif_pos hi] at h
    split at h
    · simp at h
    · rename_i hb
      split at h
      · simp at h
      · rename_i hc
        by_cases e : j = i
        · subst e
          exact ⟨by simpa using hb, fun h0 => by rw [not_and] at hc; have := hc h0; omega⟩
        · exact chk_ok k l (i + 1) (by omega) h j (by omega) hj

theorem gap_of : ∀ {l : List Sp}, (∀ x ∈ l, x.1 ≤ x.2) → (∀ j, ∀ hj : j < l.length, 0 < j → (l.getD (j - 1) (0, 0)).2 + 1 < l[j].1) → Gap l
  | [], _, _ => trivial
  | x :: l, hv, hj => by
    have ih : Gap l := gap_of (fun y hy => hv y (by simp [hy])) fun j h0 hpos => by
      have := hj (j + 1) (by simpa using h0) (by omega)
      obtain ⟨m, rfl⟩ : ∃ m, j = m + 1 := ⟨j - 1, by omega⟩
      simpa using this
    refine ⟨hv x (by simp), fun y hy => ?_, ih⟩
    cases l with
    | nil => cases hy
    | cons z l =>
      have hz := hj 1 (by simp) (by omega)
      simp at hz
      rcases List.mem_cons.1 hy with rfl | hy
      · exact hz
      · have := ih.2.1 y hy
        have := ih.1
        omega

theorem ok_gap {l : List Sp} (h : (spansErr l).2 = 0) : l.length ≤ 40 ∧ Gap l ∧ ∀ x ∈ l, bad x = false := by
  unfold spansErr at h
  split at h
  · simp at h
  · rename_i hl
    have hc := chk_ok _ l 0 rfl h
    have hb : ∀ x ∈ l, bad x = false := fun x hx => by
      obtain ⟨j, hj, rfl⟩ := List.getElem_of_mem hx
      exact (hc j (Nat.zero_le _) hj).1
    exact ⟨by omega, gap_of (fun x hx => by have := hb x hx; simp [bad] at this; omega) fun j hj h0 => (hc j (Nat.zero_le _) hj).2 h0, hb⟩
end Go.Proofs.YtdpbobkcbakpfaaGreatDoor

namespace Go.Proofs.YtdpbobkcbakpfaaGreatDoor
open Go Go.Ab
set_option maxRecDepth 100000

/-- slices.Clone at spans: a fresh object. -/
theorem cloneP (l : List Sp) (hne : l ≠ []) (hl : l.length ≤ 100000) (h : Hp) (n0 : Nat) (ho : HeapOk h n0) :
    ISp Tryz.prog 159 h n0 [.one (.t (spans l))] (.one (.ref n0 0 0 l.length 2 false)) (putD' h n0 0 l.toArray) := by
  refine k159.ownK (by simp) ?_
  obtain ⟨x, r, rfl⟩ : ∃ x r, l = x :: r := by cases l with | nil => exact absurd rfl hne | cons x r => exact ⟨x, r, rfl⟩
  simp [c159, c159r0, c159r1, c159r3, spans, D.notNil]
  have hcell : (fun y => List.map A.t (spr y)) = cell := by funext y; rfl
  refine ⟨by simp at hl; omega, n0 + 1 + 2 + 2, .inr rfl, ⟨by simp, by simp⟩, ⟨.ref (n0 + 1 + 2 + 2) 0 0 (r.length + 1) 2 false, rfl, by simp [A.only], by simp [A.ren, renId]⟩, by omega, fun id hid => ?_, ?_, ⟨.arr 0 false 2 (List.map A.t (spr x) :: List.map ((fun x => List.map A.t x) ∘ spr) r), by simp [Hp.set]⟩, fun id hid => ?_, fun id o hid => ?_⟩
  · simp only [putD', Hp.set]; rw [if_neg (by omega), if_neg (by omega)]
  · simp only [putD', Hp.set, if_true]
    simp only [List.map_cons, ← hcell]; rfl
  · simp only [putD', Hp.set]; rw [if_neg (by omega)]; exact ho.above id (by omega)
  · simp only [putD', Hp.set] at hid
    split at hid
    · simp only [Option.some.injEq] at hid; subst hid
      simp [O.below, cell, A.below]
    · exact ho.below id o hid

/-- Of none: it may be nil, or not. -/
theorem cloneNilP : PSp Tryz.prog 159 [.one (.t (spans []))] (.one (.t (spans []))) := by
  refine k159.psp (by simp) rfl rfl ?_
  unfold c159
  refine W.seq (W.of_awp _ _ _ ?_)
  simp [awp, c159r0, regK, thenE]
  refine W.seq (W.seq (W.nilTest (sz := 2) rfl fun b => ?_))
  have last : ∀ st' : St, st'.tmps 0 = .one (.t (spans [])) → st'.heap = noHp → W Tryz.prog 8 (.seq (.region 3 false 4 c159r3) .ret) (pureEnd [.tmp 2] (.one (.t (spans [])))) st' := fun st' e0 e1 => by
    refine W.of_awp _ _ _ ?_
    simp [awp, c159r3, regK, thenE, e0, e1, spans, pureEnd]
  show W _ _ _ _ _
  refine W.of_awp _ _ _ ?_
  cases b
  · simp [awp, thenE]
    exact last _ rfl rfl
  · simp [awp, c159r2, regK, thenE, spans, pureEnd]
end Go.Proofs.YtdpbobkcbakpfaaGreatDoor

namespace Go.Proofs.YtdpbobkcbakpfaaGreatDoor
open Go Go.Ab
set_option maxRecDepth 100000

theorem ins0P : PSp Tryz.prog 244 [.one (.t (spans [])), .one (.t (I 0)), .one (.t (I 0)), .one (.fn 161 [])] (.tup []) := by
  refine k244.pureK (by simp) (by simp [D.closed, A.closed]) rfl ?_
  have w : IntKind.i64.wrap 1 = 1 := wrap_i64 (by omega) (by omega)
  simp [c244, c244r0, w]
  refine W.loopK (fun _ st => st.tmps 2 = .one (.t (I 0)) ∧ st.tmps 8 = .one (.t (I 1)) ∧ st.heap = noHp) 0 ⟨by simp, by simp, by simp⟩ ?_
  rintro k st ⟨h2, h8, hh⟩
  simp [c244b8, c244r1, h2, h8, pureEnd]

theorem pdq0P : PSp Tryz.prog 207 [.one (.t (spans [])), .one (.t (I 0)), .one (.t (I 0)), .one (.t (I 0)), .one (.fn 161 [])] (.tup []) := by
  refine k207.pureK (by simp) (by simp [D.closed, A.closed]) rfl ?_
  simp [c207, c207r0, c207r1]
  refine W.loopK (fun _ st => st.tmps 0 = .one (.t (spans [])) ∧ st.tmps 1 = .one (.t (I 0)) ∧ st.tmps 2 = .one (.t (I 0)) ∧ st.tmps 4 = .one (.fn 161 []) ∧ st.heap = noHp) 0 ⟨by simp, by simp, by simp, by simp, by simp⟩ ?_
  rintro k st ⟨h0, h1, h2, h4, hh⟩
  have w : IntKind.i64.wrap 0 = 0 := wrap_i64 (by omega) (by omega)
  simp [c207b31, c207r2, c207r3, c207r4, h0, h1, h2, h4, hh, w]
  refine callK.pure ins0P (by simp) (by simp) ?_
  simp [pureEnd]

theorem sort0P : PSp Tryz.prog 160 [.one (.t (spans [])), .one (.fn 161 [])] (.tup []) := by
  refine k160.pureK (by simp) (by simp [D.closed, A.closed]) rfl ?_
  have w : IntKind.u64.wrap 0 = 0 := wrap_u64s (by omega) (by omega)
  have hb := bitsLenP 0 (by omega)
  have e : Sort.bitsLen 0 = 0 := rfl
  rw [e] at hb
  simp [c160, c160r0, c160r1, D.cvInt, D.isInt, w, spans]
  refine callK.pure hb (by simp) (by simp) ?_
  simp
  refine callK.pure pdq0P (by simp) (by simp [spans]) ?_
  simp [pureEnd]
end Go.Proofs.YtdpbobkcbakpfaaGreatDoor

namespace Go.Proofs.YtdpbobkcbakpfaaGreatDoor
open Go Go.Ab
set_option maxRecDepth 100000

def sortL (l : List Sp) : List Sp := (Sort.sort ltS l.toArray).toList

theorem sortL_law (l : List Sp) : (sortL l).Perm l ∧ (sortL l).Pairwise fun x y => x.1 ≤ y.1 := by
  obtain ⟨h1, h2⟩ := Sort.sort_sorts ltS swo_ltS l.toArray
  unfold sortL
  generalize Sort.sort ltS l.toArray = e at *
  obtain ⟨s, _, p⟩ := h1
  have e1 : (e.extract 0 l.toArray.size).toList = e.toList := by rw [← s]; simp
  have e2 : (l.toArray.extract 0 l.toArray.size).toList = l := by simp
  rw [e1, e2] at p
  refine ⟨p, ?_⟩
  rw [List.pairwise_iff_getElem]
  intro i j hi hj hij
  have hi' : i < e.size := by simpa using hi
  have hj' : j < e.size := by simpa using hj
  have := h2 i j (Nat.zero_le _) hij (by rw [← s]; exact hj')
  rw [getElem!_pos e i hi', getElem!_pos e j hj'] at this
  simp [ltS] at this
  simpa using this

theorem sortL_len (l : List Sp) : (sortL l).length = l.length := (sortL_law l).1.length_eq

/-- The plain form of normal. -/
def normalL (l : List Sp) : List Sp := mergeL (sortL l)

theorem normalL_law {l : List Sp} (hv : ∀ x ∈ l, x.1 ≤ x.2) : Gap (normalL l) ∧ ∀ n, inS (normalL l) n = inS l n := by
  obtain ⟨h1, h2⟩ := sortL_law l
  obtain ⟨g1, g2⟩ := mergeL_law h2 fun x hx => hv x (h1.mem_iff.1 hx)
  exact ⟨g1, fun n => by rw [normalL, g2, inS_perm h1]⟩

theorem tree_cell (x : Sp) : ∀ y ∈ cell x, y.isTree = true := fun y hy => by simp [cell] at hy; rcases hy with rfl | rfl <;> rfl

/-- A list that is being collected: nothing yet, or an object of its own, not the one numbered did. -/
def Out2 (d : D) (h : Hp) (nx : Nat) (acc : List Sp) (did : Nat) : Prop :=
  (acc = [] ∧ d = .one (.tt 2 [])) ∨ (acc ≠ [] ∧ ∃ id ver, id < nx ∧ id ≠ did ∧ d = .one (.ref id ver 0 acc.length 2 false) ∧ alive h id ver ∧ h.rows id = acc.map cell ∧ h.sz id = 2 ∧ h.shut id = false)

theorem Data.set {h : Hp} {id ver j : Nat} {d : Array Sp} {o : O} (hd : Data h id ver d) (hne : id ≠ j) : Data (h.set j o) id ver d := by
  obtain ⟨a, b, c, e⟩ := hd
  refine ⟨?_, ?_, ?_, ?_⟩
  · unfold Ab.alive Hp.set at *; rw [if_neg hne]; exact a
  · unfold Hp.rows Hp.set at *; rw [if_neg hne]; exact b
  · unfold Hp.sz Hp.set at *; rw [if_neg hne]; exact c
  · unfold Hp.shut Hp.set at *; rw [if_neg hne]; exact e

theorem normalP (l : List Sp) (hl : l.length ≤ 100000) (hok : ∀ x ∈ l, bad x = false) : PSp Tryz.prog 130 [.one (.t (spans l))] (.one (.t (spans (normalL l)))) := by
  by_cases hne : l = []
  · subst hne
    have e : normalL [] = [] := by
      have := (sortL_law []).1
      have : sortL [] = [] := List.Perm.eq_nil this
      rw [normalL, this]; rfl
    rw [e]
    refine k130.pureK (by simp) rfl rfl ?_
    simp [c130, c130r0, c130r1]
    refine callK.pure cloneNilP (by simp) (by simp) ?_
    simp [c130r2, spans]
    refine callK.pure sort0P (by simp [D.frzOk]) (by simp [D.frz, spans]) ?_
    simp [c130r3, c130r4]
    refine W.loopK (fun _ st => st.tmps 3 = .one (.tt 2 []) ∧ st.tmps 12 = .one (.t (I 0)) ∧ st.tmps 13 = .one (.t (I 0))) 0 ⟨by simp, by simp, by simp⟩ ?_
    rintro k st ⟨h3, h12, h13⟩
    simp [c130b12, c130r5, h3, h12, h13, c130r12, pureEnd]
  obtain ⟨S, hS⟩ : ∃ S, S = sortL l := ⟨_, rfl⟩
  have hSl : S.length = l.length := by rw [hS]; exact sortL_len l
  have hSok : ∀ x ∈ S, bad x = false := fun x hx => hok x ((sortL_law l).1.mem_iff.1 (by rw [← hS]; exact hx))
  have e : normalL l = mergeL S := by rw [hS]; rfl
  have hsort : (Sort.sort ltS l.toArray) = S.toArray := by rw [hS]; simp [sortL]
  rw [e]
  refine k130.pureK (by simp) rfl rfl ?_
  simp [c130, c130r0, c130r1]
  have ho0 : ∀ n, HeapOk noHp n := fun n => ⟨fun _ _ => rfl, fun id o h => by cases h⟩
  refine callK.imp (cloneP l hne hl noHp _ (ho0 _)) ?_
  simp [c130r2]
  have hsm : ∀ x ∈ l.toArray, small x := fun x hx => by
    have := hok x (by simpa using hx)
    simp [bad] at this
    simp [small]; omega
  have hsf := sortFuncP (putD' noHp 2 0 l.toArray) 5 2 0 false l.toArray data_put (HeapOk.more (HeapOk.put (ho0 3) (by omega)) (by omega)) (by omega) (by simpa using hl) hsm
  rw [put_put, hsort] at hsf
  simp only [List.size_toArray] at hsf
  refine callK.imp hsf ?_
  have hdat0 : Data (putD' noHp 2 0 S.toArray) 2 0 S.toArray := data_put
  generalize putD' noHp 2 0 S.toArray = g at *
  simp [c130r3, c130r4]
  refine W.loopK (fun k st => ∃ (i : Nat) (acc : List Sp), k = S.length - i ∧ i ≤ S.length ∧ st.tmps 11 = .one (.ref 2 0 0 S.length 2 false) ∧ st.tmps 12 = .one (.t (I S.length)) ∧ st.tmps 13 = .one (.t (I i)) ∧ 3 ≤ st.nx ∧ Data st.heap 2 0 S.toArray ∧
    Out2 (st.tmps 3) st.heap st.nx acc 2 ∧ (S.drop i).foldl normStep acc = mergeL S ∧ acc.length ≤ i ∧ ∀ z ∈ acc, -1152921504606846976 ≤ z.2 ∧ z.2 ≤ 1152921504606846976) S.length
    ⟨0, [], by simp, by simp, by simp [hSl], by simp [hSl], by simp, by simp, by simp [hdat0], by simp [Out2], by simp [mergeL], by simp, by simp⟩ ?_
  rintro k st ⟨i, acc, hk, hi, h11, h12, h13, hnx, hdat, h3, hout, hacc, hbd⟩
  rcases Nat.lt_or_ge i S.length with hlt | hge
  · have hltI : (i : Int) < S.length := by omega
    have hia : i < S.toArray.size := by simpa using hlt
    have hsi := hSok S[i] (List.getElem_mem hlt)
    simp [bad] at hsi
    have hw : IntKind.i64.wrap ((i : Int) + 1) = ((i + 1 : Nat) : Int) := nat_wrap _ (by omega) (by omega)
    have hln : (st.heap.rows 2).length = S.length := by rw [hdat.rows]; simp
    have g1 : ∀ hh, (st.heap.rows 2)[i]'hh = cell S[i] := fun hh => by have := rowAt hdat hia hh; simpa using this
    have hfold : (S.drop (i + 1)).foldl normStep (normStep acc S[i]) = mergeL S := by
      rw [← hout, List.drop_eq_getElem_cons hlt]; rfl
    have hd2 : ∀ c, ¬ (2 = st.nx + c) := fun c => by omega
    have hd2' : ¬ (2 = st.nx) := by omega
    simp [c130b12, c130r5, c130r6, c130r7, h11, h12, h13, hlt, hltI, hdat.alive, hdat.sz, hln, g1, take_cell]
    rcases h3 with ⟨rfl, h3⟩ | ⟨hne', id, ver, hid, hid2, h3, q1, q2, q3, q4⟩
    · simp [h3, c130r8, c130r10, c130r11, h11, h12, h13, hw, cell_len]
      refine ⟨good_cell _, ⟨good_cell _, tree_cell _⟩, S.length - (i + 1), by omega, i + 1, rfl, by omega, by omega, ((hdat.set (by omega)).set (by omega)).set (by omega), [S[i]], .inr ⟨by simp, _, 0, ?_, ?_, rfl, by simp, ?_, by simp, by simp⟩, hfold, by simp, fun a b hab => by rw [List.mem_singleton] at hab; rw [← hab] at hsi; simp at hsi; omega⟩
      · omega
      · omega
      · rw [set_rows, if_pos rfl]; rfl
    · obtain ⟨acc', z, rfl⟩ : ∃ acc' z, acc = acc' ++ [z] := by
        rcases List.eq_nil_or_concat acc with e | ⟨x, y, e⟩
        · exact absurd e hne'
        · exact ⟨x, y, by simpa using e⟩
      have hz := hbd z (by simp)
      have hlen : acc'.length + 1 ≤ i := by simpa using hacc
      have hw3 : IntKind.i64.wrap (acc'.length : Int) = acc'.length := wrap_i64 (by omega) (by omega)
      have hw4 : IntKind.i64.wrap (z.2 + 1) = z.2 + 1 := wrap_i64 (by omega) (by omega)
      have hgE : ∀ hh : acc'.length < (st.heap.rows id).length, (st.heap.rows id)[acc'.length]'hh = cell z := fun hh => by simp [q2]
      have hlnO : (st.heap.rows id).length = acc'.length + 1 := by rw [q2]; simp
      have hidn : ∀ c, ¬ id = st.nx + c := fun c => by omega
      have hidn' : ¬ id = st.nx := by omega
      rw [normStep_snoc] at hfold
      have hid12 : ¬ id = st.nx + 1 + 2 := by omega
      have hn2 : ¬ st.nx + 1 + 2 = id := by omega
      simp [h3, c130r8, hw3, hw4, q1, q3, hgE, hlnO, hid12, cell]
      refine ⟨by omega, fun hle => ?_, fun hgt => ?_⟩
      · rw [if_pos hle] at hfold
        simp [c130r9, c130r11, h3, h11, h12, h13, hw, hw3, q1, q3, q4, hgE, hlnO, hid12, cell]
        have hmax : (if z.2 < S[i].2 then S[i].2 else z.2) = max z.2 S[i].2 := by rw [Int.max_def]; split <;> split <;> omega
        rw [hmax]
        refine ⟨by omega, S.length - (i + 1), by omega, i + 1, rfl, by omega, by omega, ((hdat.set (by omega)).set (by omega)).set (by omega), acc' ++ [(z.1, max z.2 S[i].2)], .inr ⟨by simp, id, ver, by omega, hid2, by simp, by simp, ?_, by simp, by simp⟩, hfold, by simp; omega, fun a b hab => ?_⟩
        · rw [set_rows, if_pos rfl, q2]; simp [cell]
        · rcases List.mem_append.1 hab with h | h
          · exact hbd (a, b) (by simp [h])
          · simp at h; omega
      · have hng : ¬ S[i].1 ≤ z.2 + 1 := by omega
        rw [if_neg hng] at hfold
        simp [c130r10, c130r11, h3, h11, h12, h13, hw, q1, q3, q4, hlnO, hid12]
        refine ⟨by omega, S.length - (i + 1), by omega, i + 1, rfl, by omega, by omega, ((hdat.set (by omega)).set (by omega)).set (by omega), acc' ++ [z] ++ [S[i]], .inr ⟨by simp, id, ver + 1, by omega, hid2, by simp, by simp, ?_, by simp, by simp⟩, hfold, by simp; omega, fun a b hab => ?_⟩
        · rw [set_rows, if_pos rfl, q2]; simp [cell]
        · rcases List.mem_append.1 hab with h | h
          · exact hbd (a, b) h
          · rw [List.mem_singleton] at h; rw [← h] at hsi; simp at hsi; omega
  · have hi' : i = S.length := by omega
    subst hi'
    have hltI : ¬ (S.length : Int) < S.length := by omega
    simp at hout
    rw [← hout]
    simp [c130b12, c130r5, h12, h13, c130r12, pureEnd]
    rcases h3 with ⟨rfl, h3⟩ | ⟨_, id, ver, _, _, h3, q1, q2, q3, q4⟩
    · simp [h3, spans]
    · have e1 : (acc.map spr).length = acc.length := by simp
      rw [h3, ← e1]
      have q2' : st.heap.rows id = (acc.map spr).map (·.map .t) := by rw [q2, List.map_map]; rfl
      refine ⟨frzOk_ref_t q1 q3 q2', ?_⟩
      simp only [frz_ref_t q2', spans]
end Go.Proofs.YtdpbobkcbakpfaaGreatDoor

namespace Go.Proofs.YtdpbobkcbakpfaaGreatDoor
open Go Go.Ab
set_option maxRecDepth 100000

theorem Out2.more {d : D} {h : Hp} {nx nx' did did' : Nat} {acc : List Sp} (ho : Out2 d h nx acc did) (hn : nx ≤ nx') (hd : nx ≤ did' ∨ did' = did) : Out2 d h nx' acc did' := by
  rcases ho with ho | ⟨h1, id, ver, h2, h3, h4⟩
  · exact .inl ho
  · exact .inr ⟨h1, id, ver, by omega, by omega, h4⟩

theorem Out2.set {d : D} {h : Hp} {nx did j : Nat} {o : O} {acc : List Sp} (ho : Out2 d h nx acc did) (hj : nx ≤ j) : Out2 d (h.set j o) nx acc did := by
  rcases ho with ho | ⟨h1, id, ver, h2, h3, h4, h5, h6, h7, h8⟩
  · exact .inl ho
  · have hne : id ≠ j := by omega
    refine .inr ⟨h1, id, ver, h2, h3, h4, ?_, ?_, ?_, ?_⟩
    · unfold Ab.alive Hp.set at *; rw [if_neg hne]; exact h5
    · unfold Hp.rows Hp.set at *; rw [if_neg hne]; exact h6
    · unfold Hp.sz Hp.set at *; rw [if_neg hne]; exact h7
    · unfold Hp.shut Hp.set at *; rw [if_neg hne]; exact h8

/-- Between two rounds of the inner loop. -/
def BIn (x : Sp) (b : List Sp) (bx : Nat) (acc0 : List Sp) (st : St) (k : Nat) (st1 : St) : Prop :=
  ∃ (j : Nat) (acc : List Sp), k = b.length - j ∧ j ≤ b.length ∧ acc = acc0 ++ (b.take j).flatMap (meet x) ∧ acc.length ≤ acc0.length + j ∧ st1.tmps 7 = st.tmps 7 ∧ Data st1.heap bx 0 #[x] ∧ st.nx ≤ st1.nx ∧ st1.tmps 18 = st.tmps 18 ∧ st1.tmps 19 = st.tmps 19 ∧ st1.tmps 20 = .one (.t (I j)) ∧
    Out2 (st1.tmps 5) st1.heap st1.nx acc bx ∧ st1.tmps 0 = st.tmps 0 ∧ st1.tmps 1 = st.tmps 1 ∧ st1.tmps 12 = st.tmps 12 ∧ st1.tmps 13 = st.tmps 13 ∧ st1.tmps 14 = st.tmps 14

theorem take_one {b : List Sp} {j : Nat} (h : j < b.length) : b.take (j + 1) = b.take j ++ [b[j]] := by rw [List.take_add_one, List.getElem?_eq_getElem h]; rfl

theorem bothInner {n : Nat} {A : Exit → St → Prop} {ks : List KF} (x : Sp) (b : List Sp) (bx : Nat) (acc0 : List Sp) (hlen : acc0.length + b.length ≤ 100000) (st : St) (h7 : st.tmps 7 = .one (.ptr ⟨bx, 0, 2, 0, 0⟩)) (hx : Data st.heap bx 0 #[x]) (hbx : bx < st.nx)
    (h18 : st.tmps 18 = .one (.t (spans b))) (h19 : st.tmps 19 = .one (.t (I b.length))) (h20 : st.tmps 20 = .one (.t (I 0))) (h5 : Out2 (st.tmps 5) st.heap st.nx acc0 bx)
    (K : ∀ st' : St, Out2 (st'.tmps 5) st'.heap st'.nx (acc0 ++ b.flatMap (meet x)) bx → st.nx ≤ st'.nx → st'.tmps 0 = st.tmps 0 → st'.tmps 1 = st.tmps 1 → st'.tmps 12 = st.tmps 12 → st'.tmps 13 = st.tmps 13 → st'.tmps 14 = st.tmps 14 → retK Tryz.prog n A ks .normal st') :
    W Tryz.prog n (.loop c132b12) (kont Tryz.prog n A (.blk 2 :: ks)) st := by
  refine W.loopK (fun k st1 => BIn x b bx acc0 st k st1) b.length
    ⟨0, acc0, by simp, by simp, by simp, by simp, rfl, hx, Nat.le_refl _, rfl, rfl, h20, h5, rfl, rfl, rfl, rfl, rfl⟩ ?_
  rintro k st1 ⟨j, acc, hk, hj, hacc, hal, e7, hd, hnx, e18, e19, e20, e5, e0, e1, e12, e13, e14⟩
  rw [h7] at e7; rw [h18] at e18; rw [h19] at e19
  rcases Nat.lt_or_ge j b.length with hlt | hge
  · have hltI : (j : Int) < b.length := by omega
    have hw : IntKind.i64.wrap ((j : Int) + 1) = ((j + 1 : Nat) : Int) := nat_wrap _ (by omega) (by omega)
    have hr : st1.heap.rows bx = [cell x] := by rw [hd.rows]; rfl
    have hn1 : ¬ bx = st1.nx + 1 + 2 := by omega
    have hn1' : ¬ st1.nx + 1 + 2 = bx := by omega
    obtain ⟨y, hy⟩ : ∃ y, y = b[j] := ⟨_, rfl⟩
    have htake : acc0 ++ (b.take (j + 1)).flatMap (meet x) = acc ++ meet x y := by
      rw [hacc, take_one hlt, List.flatMap_append, hy]
      simp
    have hmax : max x.1 y.1 = if x.1 < y.1 then y.1 else x.1 := by rw [Int.max_def]; split <;> split <;> omega
    have hmin : min x.2 y.2 = if y.2 < x.2 then y.2 else x.2 := by rw [Int.min_def]; split <;> split <;> omega
    simp [c132b12, c132r6, c132r7, c132r8, c132r9, e18, e19, e20, spans, hlt, hltI, spr, e7, hd.alive, hd.sz, hr, hn1, cell, ← hy]
    rw [← hmax, ← hmin]
    have hml : (meet x y).length ≤ 1 := by unfold meet; split <;> simp
    have goOn : ∀ st' : St, st'.tmps 7 = .one (.ptr ⟨bx, 0, 2, 0, 0⟩) → Data st'.heap bx 0 #[x] → st1.nx ≤ st'.nx → st'.tmps 18 = st1.tmps 18 → st'.tmps 19 = st1.tmps 19 → st'.tmps 20 = .one (.t (I ((j + 1 : Nat) : Int))) → Out2 (st'.tmps 5) st'.heap st'.nx (acc ++ meet x y) bx →
        st'.tmps 0 = st1.tmps 0 → st'.tmps 1 = st1.tmps 1 → st'.tmps 12 = st1.tmps 12 → st'.tmps 13 = st1.tmps 13 → st'.tmps 14 = st1.tmps 14 → ∃ k', k' < k ∧ BIn x b bx acc0 st k' st' := by
      intro st' u7 ud un u18 u19 u20 u5 u0 u1 u12 u13 u14
      refine ⟨b.length - (j + 1), by omega, j + 1, _, rfl, by omega, htake.symm, by simp; omega, by rw [u7, h7], ud, by omega, by rw [u18, e18, h18], by rw [u19, e19, h19], u20, u5, by rw [u0, e0], by rw [u1, e1], by rw [u12, e12], by rw [u13, e13], by rw [u14, e14]⟩
    have hmt : meet x y = if max x.1 y.1 ≤ min x.2 y.2 then [(max x.1 y.1, min x.2 y.2)] else [] := rfl
    generalize max x.1 y.1 = lo at *
    generalize min x.2 y.2 = hiV at *
    have hd' : ∀ o : O, ∀ o' : O, Data ((st1.heap.set (st1.nx + 1 + 2) o).set (st1.nx + 1 + 2) o') bx 0 #[x] := fun o o' => (hd.set (by omega)).set (by omega)
    constructor
    · intro hle
      rw [if_pos hle] at hmt
      rw [hmt] at goOn
      rcases e5 with ⟨rfl, e5⟩ | ⟨hne, id, ver, h2, h3, h4, h5', h6, h7', h8⟩
      · simp [c132r10, c132r11, e5, hw, e20]
        refine goOn _ (by simp [e7]) ((hd' _ _).set (by omega)) (by simp; omega) (by simp) (by simp) (by simp) (.inr ⟨by simp, _, 0, ?_, ?_, by simp; rfl, by simp, ?_, by simp, by simp⟩) (by simp) (by simp) (by simp) (by simp) (by simp)
        · simp <;> omega
        · omega
        · rw [set_rows, if_pos rfl]; rfl
      · have hid12 : ¬ id = st1.nx + 1 + 2 := by omega
        have hlnO : (st1.heap.rows id).length = acc.length := by rw [h6]; simp
        simp [c132r10, c132r11, h4, hw, e20, h5', h7', hlnO, hid12]
        refine ⟨by omega, goOn _ (by simp [e7]) ((hd' _ _).set (by omega)) (by simp; omega) (by simp) (by simp) (by simp) (.inr ⟨by simp, id, ver + 1, by simp; omega, by omega, by simp, by simp, ?_, by simp, by simp [h8]⟩) (by simp) (by simp) (by simp) (by simp) (by simp)⟩
        rw [set_rows, if_pos rfl, h6]; simp [cell]
    · intro hgt
      rw [if_neg (by omega)] at hmt
      rw [hmt] at goOn
      simp [c132r11, hw, e20]
      exact goOn _ (by simp [e7]) (hd' _ _) (by simp; omega) (by simp) (by simp) (by simp) (by simpa using ((e5.set (by omega)).set (by omega)).more (by omega) (.inr rfl)) (by simp) (by simp) (by simp) (by simp) (by simp)
  · have hj' : j = b.length := by omega
    subst hj'
    have hltI : ¬ (b.length : Int) < b.length := by omega
    simp at hacc
    simp [c132b12, c132r6, e19, e20]
    exact K _ (by rw [← hacc]; exact e5.more (by simp) (.inr rfl)) (by simp; omega) (by simp [e0]) (by simp [e1]) (by simp [e12]) (by simp [e13]) (by simp [e14])

/-- Between two rounds of the outer loop. -/
def BOut (a b : List Sp) (k : Nat) (st1 : St) : Prop :=
  ∃ (i : Nat), k = a.length - i ∧ i ≤ a.length ∧ st1.tmps 0 = .one (.t (spans a)) ∧ st1.tmps 1 = .one (.t (spans b)) ∧ st1.tmps 12 = .one (.t (spans a)) ∧ st1.tmps 13 = .one (.t (I a.length)) ∧ st1.tmps 14 = .one (.t (I i)) ∧
    Out2 (st1.tmps 5) st1.heap st1.nx (bothL (a.take i) b) st1.nx

theorem meet_len {x y : Sp} : (meet x y).length ≤ 1 := by unfold meet; split <;> simp

theorem meets_len (x : Sp) : ∀ b : List Sp, (b.flatMap (meet x)).length ≤ b.length
  | [] => by simp
  | y :: b => by
    have h1 := meets_len x b
    have h2 := meet_len (x := x) (y := y)
    rw [List.flatMap_cons, List.length_append, List.length_cons]; omega

theorem bothL_len (b : List Sp) : ∀ a : List Sp, (bothL a b).length ≤ a.length * b.length
  | [] => by simp [bothL]
  | x :: a => by
    have h1 := bothL_len b a
    have h2 : (b.flatMap fun y => meet x y).length ≤ b.length := meets_len x b
    unfold bothL at *
    rw [List.flatMap_cons, List.length_append, List.length_cons, Nat.add_mul]
    simp only [Nat.one_mul] at *
    omega

theorem bothL_ok {a b : List Sp} (ha : ∀ x ∈ a, bad x = false) (hb : ∀ x ∈ b, bad x = false) : ∀ z ∈ bothL a b, bad z = false := by
  intro z hz
  obtain ⟨x, hx, hz⟩ := List.mem_flatMap.1 hz
  obtain ⟨y, hy, hz⟩ := List.mem_flatMap.1 hz
  have h1 := ha x hx
  have h2 := hb y hy
  unfold meet at hz
  split at hz
  · rename_i h
    simp at hz
    subst hz
    simp [bad] at h1 h2 ⊢
    omega
  · cases hz

theorem bothP (a b : List Sp) (ha : a.length ≤ 300) (hb : b.length ≤ 300) (hoa : ∀ x ∈ a, bad x = false) (hob : ∀ x ∈ b, bad x = false) : PSp Tryz.prog 132 [.one (.t (spans a)), .one (.t (spans b))] (.one (.t (spans (normalL (bothL a b))))) := by
  refine k132.pureK (by simp) rfl rfl ?_
  simp [c132, c132r0, c132r1, c132r2, spans]
  have hbl : ∀ i, i ≤ a.length → (bothL (a.take i) b).length + b.length ≤ 100000 := fun i hi => by
    have h1 := bothL_len b (a.take i)
    have h2 : (a.take i).length * b.length ≤ 300 * 300 := Nat.mul_le_mul (by rw [List.length_take]; omega) hb
    omega
  refine W.loopK (fun k st => BOut a b k st) a.length ⟨0, by simp, by simp, by simp [spans], by simp [spans], by simp [spans], by simp, by simp, .inl ⟨by simp [bothL], by simp⟩⟩ ?_
  rintro k st ⟨i, hk, hi, h0, h1, h12, h13, h14, h5⟩
  rcases Nat.lt_or_ge i a.length with hlt | hge
  · have hltI : (i : Int) < a.length := by omega
    have hw : IntKind.i64.wrap ((i : Int) + 1) = ((i + 1 : Nat) : Int) := nat_wrap _ (by omega) (by omega)
    obtain ⟨x, hx⟩ : ∃ x, x = a[i] := ⟨_, rfl⟩
    simp [c132b14, c132r3, c132r4, c132r5, h1, h12, h13, h14, hlt, hltI, spans, spr, ← hx]
    refine bothInner x b (st.nx + 1 + 2) (bothL (a.take i) b) (hbl i hi) _ (by simp) ⟨by simp, ?_, by simp, by simp⟩ (by simp <;> omega) (by simp [spans]) (by simp) (by simp) (by simpa using ((h5.set (by omega)).set (by omega)).more (by omega) (.inl (by omega))) fun st' u5 un u0 u1 u12 u13 u14 => ?_
    · rw [set_rows, if_pos rfl]; simp [cell]
    simp [h0, h1, h12, h13, h14] at u0 u1 u12 u13 u14
    simp [c132r12, u14, hw]
    refine ⟨a.length - (i + 1), by omega, i + 1, rfl, by omega, by simp [u0], by simp [u1], by simp [u12], by simp [u13], by simp, ?_⟩
    have e : bothL (a.take (i + 1)) b = bothL (a.take i) b ++ b.flatMap (meet x) := by
      rw [take_one hlt]; unfold bothL; rw [List.flatMap_append, hx]; simp
    rw [e]
    simpa using u5.more (by simp) (.inl (by simp))
  · have hi' : i = a.length := by omega
    subst hi'
    have hltI : ¬ (a.length : Int) < a.length := by omega
    simp at h5
    have hN := normalP (bothL a b) (by have := hbl a.length (Nat.le_refl _); simp at this; omega) (bothL_ok hoa hob)
    simp [c132b14, c132r3, h13, h14, c132r13]
    rcases h5 with ⟨e, h5⟩ | ⟨_, id, ver, _, _, h5, q1, q2, q3, q4⟩
    · rw [e] at hN ⊢
      rw [h5]
      refine callK.pure hN (by simp) (by simp [spans]) ?_
      simp [pureEnd, spans]
    · have e1 : ((bothL a b).map spr).length = (bothL a b).length := by simp
      rw [h5, ← e1]
      have q2' : st.heap.rows id = ((bothL a b).map spr).map (·.map .t) := by rw [q2, List.map_map]; rfl
      refine callK.pure hN (by simpa using frzOk_ref_t q1 q3 q2') (by simp only [List.map_cons, List.map_nil, D.frz, frz_ref_t q2', spans]) ?_
      simp [pureEnd, spans]
end Go.Proofs.YtdpbobkcbakpfaaGreatDoor

namespace Go.Proofs.YtdpbobkcbakpfaaGreatDoor
open Go Go.Ab
set_option maxRecDepth 100000

theorem Data.congr {h h' : Hp} {id ver : Nat} {d : Array Sp} (hd : Data h id ver d) (e : h' id = h id) : Data h' id ver d := by
  obtain ⟨a, b, c, f⟩ := hd
  refine ⟨?_, ?_, ?_, ?_⟩
  · unfold Ab.alive at *; rw [e]; exact a
  · unfold Hp.rows at *; rw [e]; exact b
  · unfold Hp.sz at *; rw [e]; exact c
  · unfold Hp.shut at *; rw [e]; exact f

/-- A list that is being collected in an object numbered base at least, not did. -/
def Out3 (d : D) (h : Hp) (nx : Nat) (acc : List Sp) (base did : Nat) : Prop :=
  (acc = [] ∧ d = .one (.tt 2 [])) ∨ (acc ≠ [] ∧ ∃ id ver, base ≤ id ∧ id < nx ∧ id ≠ did ∧ d = .one (.ref id ver 0 acc.length 2 false) ∧ alive h id ver ∧ h.rows id = acc.map cell ∧ h.sz id = 2 ∧ h.shut id = false)

theorem Out3.more {d : D} {h : Hp} {nx nx' base did did' : Nat} {acc : List Sp} (ho : Out3 d h nx acc base did) (hn : nx ≤ nx') (hd : nx ≤ did' ∨ did' < base ∨ did' = did) : Out3 d h nx' acc base did' := by
  rcases ho with ho | ⟨h1, id, ver, h2, h3, h4⟩
  · exact .inl ho
  · exact .inr ⟨h1, id, ver, h2, by omega, by omega, h4.2⟩

theorem Out3.set {d : D} {h : Hp} {nx base did j : Nat} {o : O} {acc : List Sp} (ho : Out3 d h nx acc base did) (hj : nx ≤ j) : Out3 d (h.set j o) nx acc base did := by
  rcases ho with ho | ⟨h1, id, ver, h2, h3, h3', h4, h5, h6, h7, h8⟩
  · exact .inl ho
  · have hne : id ≠ j := by omega
    refine .inr ⟨h1, id, ver, h2, h3, h3', h4, ?_, ?_, ?_, ?_⟩
    · unfold Ab.alive Hp.set at *; rw [if_neg hne]; exact h5
    · unfold Hp.rows Hp.set at *; rw [if_neg hne]; exact h6
    · unfold Hp.sz Hp.set at *; rw [if_neg hne]; exact h7
    · unfold Hp.shut Hp.set at *; rw [if_neg hne]; exact h8

theorem set_other {h : Hp} {j id : Nat} {o : O} (hne : id ≠ j) : (h.set j o) id = h id := by simp [Hp.set, hne]

/-- The two boxes of a round of without's inner loop, and the list. -/
structure CutS (x y : Sp) (bx bY base : Nat) (acc : List Sp) (h : Hp) (nx : Nat) (tm : Nat → D) : Prop where
  t9 : tm 9 = .one (.ptr ⟨bx, 0, 2, 0, 0⟩)
  t6 : tm 6 = .one (.ptr ⟨bY, 0, 2, 0, 0⟩)
  dx : Data h bx 0 #[x]
  dy : Data h bY 0 #[y]
  bxb : base ≤ bx
  bxn : bx < nx
  byb : bY < base
  out : Out3 (tm 7) h nx acc base bx
  len : acc.length ≤ 100000

/-- What stays of the temporaries. -/
def KeepT (tm tm' : Nat → D) : Prop := tm' 1 = tm 1 ∧ tm' 6 = tm 6 ∧ tm' 10 = tm 10 ∧ tm' 11 = tm 11 ∧ tm' 12 = tm 12 ∧ tm' 16 = tm 16 ∧ tm' 17 = tm 17 ∧ tm' 18 = tm 18 ∧ tm' 9 = tm 9

theorem cutA {n : Nat} {A : Exit → St → Prop} {ks : List KF} {x y : Sp} {bx bY base : Nat} {acc : List Sp} {tm : Nat → D} {h : Hp} {nx nx' : Nat} (cs : CutS x y bx bY base acc h nx tm) (hx : bad x = false) (hy : bad y = false) (hnx : nx' = nx + 13)
    (K : ∀ tm' h', CutS x y bx bY base (acc ++ [(x.1, min x.2 (y.1 - 1))]) h' nx' tm' ∨ 100000 < acc.length + 1 → (∀ id, id < base → h' id = h id) → KeepT tm tm' → retK Tryz.prog n A ks .normal ⟨tm', h', nx'⟩) :
    segWP Tryz.prog false nx c102r9 (regK (kont Tryz.prog n A ks) nx') 0 tm h := by
  obtain ⟨t9, t6, dx, dy, bxb, bxn, byb, out, len⟩ := cs
  have rx : h.rows bx = [cell x] := by rw [dx.rows]; rfl
  have ry : h.rows bY = [cell y] := by rw [dy.rows]; rfl
  simp [bad] at hx hy
  have hw : IntKind.i64.wrap (y.1 - 1) = y.1 - 1 := wrap_i64 (by omega) (by omega)
  have hmin : (if y.1 - 1 < x.2 then y.1 - 1 else x.2) = min x.2 (y.1 - 1) := by rw [Int.min_def]; split <;> split <;> omega
  rcases out with ⟨rfl, out⟩ | ⟨hne, id, ver, h2, h3, h3', h4, h5, h6, h7, h8⟩
  · simp [c102r9, t9, t6, dx.alive, dx.sz, rx, dy.alive, dy.sz, ry, cell, hw, hmin, out]
    refine K _ _ (.inl ⟨by simp [t9], by simp [t6], dx.set (by omega), dy.set (by omega), bxb, by omega, byb, .inr ⟨by simp, _, 0, ?_, ?_, ?_, by simp; rfl, by simp, ?_, by simp, by simp⟩, by simp⟩) (fun id hid => set_other (by omega)) (by simp [KeepT])
    · omega
    · omega
    · omega
    · rw [set_rows, if_pos rfl]; rfl
  · have hlnO : (h.rows id).length = acc.length := by rw [h6]; simp
    simp [c102r9, t9, t6, dx.alive, dx.sz, rx, dy.alive, dy.sz, ry, cell, hw, hmin, h4, h5, h7, hlnO]
    refine ⟨by omega, K _ _ ?_ (fun id hid => set_other (by omega)) (by simp [KeepT])⟩
    rcases Nat.lt_or_ge 100000 (acc.length + 1) with hb | hb
    · exact .inr hb
    · refine .inl ⟨by simp [t9], by simp [t6], dx.set (by omega), dy.set (by omega), bxb, by omega, byb, .inr ⟨by simp, id, ver + 1, h2, by omega, h3', by simp, by simp, ?_, by simp, by simp [h8]⟩, by simpa using hb⟩
      rw [set_rows, if_pos rfl, h6]; simp [cell]

theorem cutB {n : Nat} {A : Exit → St → Prop} {ks : List KF} {x y : Sp} {bx bY base : Nat} {acc : List Sp} {tm : Nat → D} {h : Hp} {nx nx' : Nat} (cs : CutS x y bx bY base acc h nx tm) (hx : bad x = false) (hy : bad y = false) (hnx : nx' = nx + 13)
    (K : ∀ tm' h', CutS x y bx bY base (acc ++ [(max x.1 (y.2 + 1), x.2)]) h' nx' tm' ∨ 100000 < acc.length + 1 → (∀ id, id < base → h' id = h id) → KeepT tm tm' → retK Tryz.prog n A ks .normal ⟨tm', h', nx'⟩) :
    segWP Tryz.prog false nx c102r11 (regK (kont Tryz.prog n A ks) nx') 0 tm h := by
  obtain ⟨t9, t6, dx, dy, bxb, bxn, byb, out, len⟩ := cs
  have rx : h.rows bx = [cell x] := by rw [dx.rows]; rfl
  have ry : h.rows bY = [cell y] := by rw [dy.rows]; rfl
  simp [bad] at hx hy
  have hw : IntKind.i64.wrap (y.2 + 1) = y.2 + 1 := wrap_i64 (by omega) (by omega)
  have hmax : (if x.1 < y.2 + 1 then y.2 + 1 else x.1) = max x.1 (y.2 + 1) := by rw [Int.max_def]; split <;> split <;> omega
  rcases out with ⟨rfl, out⟩ | ⟨hne, id, ver, h2, h3, h3', h4, h5, h6, h7, h8⟩
  · simp [c102r11, t9, t6, dx.alive, dx.sz, rx, dy.alive, dy.sz, ry, cell, hw, hmax, out]
    refine K _ _ (.inl ⟨by simp [t9], by simp [t6], dx.set (by omega), dy.set (by omega), bxb, by omega, byb, .inr ⟨by simp, _, 0, ?_, ?_, ?_, by simp; rfl, by simp, ?_, by simp, by simp⟩, by simp⟩) (fun id hid => set_other (by omega)) (by simp [KeepT])
    · omega
    · omega
    · omega
    · rw [set_rows, if_pos rfl]; rfl
  · have hlnO : (h.rows id).length = acc.length := by rw [h6]; simp
    simp [c102r11, t9, t6, dx.alive, dx.sz, rx, dy.alive, dy.sz, ry, cell, hw, hmax, h4, h5, h7, hlnO]
    refine ⟨by omega, K _ _ ?_ (fun id hid => set_other (by omega)) (by simp [KeepT])⟩
    rcases Nat.lt_or_ge 100000 (acc.length + 1) with hb | hb
    · exact .inr hb
    · refine .inl ⟨by simp [t9], by simp [t6], dx.set (by omega), dy.set (by omega), bxb, by omega, byb, .inr ⟨by simp, id, ver + 1, h2, by omega, h3', by simp, by simp, ?_, by simp, by simp [h8]⟩, by simpa using hb⟩
      rw [set_rows, if_pos rfl, h6]; simp [cell]
end Go.Proofs.YtdpbobkcbakpfaaGreatDoor

namespace Go.Proofs.YtdpbobkcbakpfaaGreatDoor
open Go Go.Ab
set_option maxRecDepth 100000

/-- What follows once the two boxes are laid. -/
theorem cutBoth {n : Nat} {A : Exit → St → Prop} {ks : List KF} {J : St → Prop} {x y : Sp} {bx bY base : Nat} {acc : List Sp} {tm : Nat → D} {h : Hp} {nx : Nat} {i : Nat} (cs : CutS x y bx bY base acc h nx tm) (hx : bad x = false) (hy : bad y = false) (hlen : acc.length + 2 ≤ 100000) (hi : i ≤ 100000) (h18 : tm 18 = .one (.t (I i)))
    (K : ∀ st' : St, Out3 (st'.tmps 7) st'.heap st'.nx (acc ++ cutBy y x) base st'.nx → (∀ id, id < base → st'.heap id = h id) → nx ≤ st'.nx → st'.tmps 1 = tm 1 → st'.tmps 6 = tm 6 → st'.tmps 10 = tm 10 → st'.tmps 11 = tm 11 → st'.tmps 12 = tm 12 → st'.tmps 16 = tm 16 → st'.tmps 17 = tm 17 → st'.tmps 18 = .one (.t (I ((i + 1 : Nat) : Int))) → J st') :
    segWP Tryz.prog false nx c102r8 (regK (kont Tryz.prog n A (.thn (.cond (X.tmp 26) (.region 9 false 13 c102r9) .skip) :: .thn (.seq (.region 10 false 5 c102r10) (.cond (X.tmp 43) (.region 11 false 13 c102r11) .skip)) :: .blk 3 :: .thn (.region 12 false 2 c102r12) :: .post J :: ks)) (nx + 5)) 0 tm h := by
  have cs0 := cs
  obtain ⟨t9, t6, dx, dy, bxb, bxn, byb, out, len⟩ := cs
  have rx : h.rows bx = [cell x] := by rw [dx.rows]; rfl
  have ry : h.rows bY = [cell y] := by rw [dy.rows]; rfl
  have hw : IntKind.i64.wrap ((i : Int) + 1) = ((i + 1 : Nat) : Int) := nat_wrap _ (by omega) (by omega)
  -- the second half
  have second : ∀ (acc' : List Sp) (tm' : Nat → D) (h' : Hp) (nx' : Nat), CutS x y bx bY base acc' h' nx' tm' → acc'.length ≤ acc.length + 1 → (acc' ++ (if y.2 < x.2 then [(max x.1 (y.2 + 1), x.2)] else []) = acc ++ cutBy y x) → (∀ id, id < base → h' id = h id) → nx ≤ nx' → KeepT tm tm' →
      segWP Tryz.prog false nx' c102r10 (regK (kont Tryz.prog n A (.thn (.cond (X.tmp 43) (.region 11 false 13 c102r11) .skip) :: .blk 3 :: .thn (.region 12 false 2 c102r12) :: .post J :: ks)) (nx' + 5)) 0 tm' h' := by
    intro acc' tm' h' nx' cs' hl he hk hn kt
    have cs1 := cs'
    obtain ⟨t9', t6', dx', dy', _, bxn', _, out', len'⟩ := cs'
    have rx' : h'.rows bx = [cell x] := by rw [dx'.rows]; rfl
    have ry' : h'.rows bY = [cell y] := by rw [dy'.rows]; rfl
    obtain ⟨k1, k6, k10, k11, k12, k16, k17, k18, k9⟩ := kt
    simp [c102r10, t9', t6', dx'.alive, dx'.sz, rx', dy'.alive, dy'.sz, ry', cell]
    constructor
    · intro hlt
      rw [if_pos hlt] at he
      refine cutB (acc := acc') ⟨by simp [t9'], by simp [t6'], dx', dy', bxb, by omega, byb, by simpa using out'.more (by omega) (.inr (.inr rfl)), len'⟩ hx hy rfl fun tm2 h2 c2 hk2 kt2 => ?_
      obtain ⟨j1, j6, j10, j11, j12, j16, j17, j18, j9⟩ := kt2
      simp at j1 j6 j10 j11 j12 j16 j17 j18
      rcases c2 with c2 | c2
      · simp [c102r12, j18, k18, h18, hw]
        refine K _ ?_ (fun id hid => (hk2 id hid).trans (hk id hid)) (by simp; omega) (by simp [j1, k1]) (by simp [j6, k6]) (by simp [j10, k10]) (by simp [j11, k11]) (by simp [j12, k12]) (by simp [j16, k16]) (by simp [j17, k17]) (by simp)
        rw [← he]
        simpa using c2.out.more (by omega) (.inl (by omega))
      · omega
    · intro hge
      rw [if_neg (by omega)] at he
      simp [c102r12, k18, h18, hw]
      refine K _ ?_ hk (by simp; omega) (by simp [k1]) (by simp [k6]) (by simp [k10]) (by simp [k11]) (by simp [k12]) (by simp [k16]) (by simp [k17]) (by simp)
      rw [← he]
      simpa using out'.more (by omega) (.inl (by omega))
  simp [c102r8, t9, t6, dx.alive, dx.sz, rx, dy.alive, dy.sz, ry, cell]
  constructor
  · intro hlt
    refine cutA (acc := acc) ⟨by simp [t9], by simp [t6], dx, dy, bxb, by omega, byb, by simpa using out.more (by omega) (.inr (.inr rfl)), len⟩ hx hy rfl fun tm2 h2 c2 hk2 kt2 => ?_
    obtain ⟨j1, j6, j10, j11, j12, j16, j17, j18, j9⟩ := kt2
    simp at j1 j6 j10 j11 j12 j16 j17 j18 j9
    rcases c2 with c2 | c2
    · simp
      refine second (acc ++ [(x.1, min x.2 (y.1 - 1))]) tm2 h2 _ c2 (by simp) (by simp [cutBy, hlt]) hk2 (by omega) ⟨j1, j6, j10, j11, j12, j16, j17, j18, j9⟩
    · omega
  · intro hge
    have hng : ¬ x.1 < y.1 := by omega
    exact second acc _ h _ ⟨by simp [t9], by simp [t6], dx, dy, bxb, by omega, byb, by simpa using out.more (by omega) (.inr (.inr rfl)), len⟩ (by omega) (by simp [cutBy, hng]) (fun _ _ => rfl) (by omega) (by simp [KeepT])
end Go.Proofs.YtdpbobkcbakpfaaGreatDoor

namespace Go.Proofs.YtdpbobkcbakpfaaGreatDoor
open Go Go.Ab
set_option maxRecDepth 100000

theorem Asc.left : ∀ {a b : List Sp}, Asc (a ++ b) → Asc a
  | [], _, _ => trivial
  | x :: a, b, h => ⟨h.1, fun y hy => h.2.1 y (by simp [hy]), Asc.left h.2.2⟩

theorem Asc.take {a : List Sp} (h : Asc a) (j : Nat) : Asc (a.take j) := Asc.left (b := a.drop j) (by rw [List.take_append_drop]; exact h)

/-- A list of spans that is read: a tree, or an object of one's own that is older than base. -/
def Cur (d : D) (h : Hp) (base : Nat) (l : List Sp) : Prop :=
  d = .one (.t (spans l)) ∨ (l = [] ∧ d = .one (.tt 2 [])) ∨ ∃ id ver, id < base ∧ d = .one (.ref id ver 0 l.length 2 false) ∧ Data h id ver l.toArray

def CIn (y : Sp) (cur : List Sp) (base : Nat) (st : St) (k : Nat) (st1 : St) : Prop :=
  ∃ j : Nat, k = cur.length - j ∧ j ≤ cur.length ∧ (∀ id, id < base → st1.heap id = st.heap id) ∧ st.nx ≤ st1.nx ∧ Out3 (st1.tmps 7) st1.heap st1.nx (cutL (cur.take j) y) base st1.nx ∧
    st1.tmps 1 = st.tmps 1 ∧ st1.tmps 6 = st.tmps 6 ∧ st1.tmps 10 = st.tmps 10 ∧ st1.tmps 11 = st.tmps 11 ∧ st1.tmps 12 = st.tmps 12 ∧ st1.tmps 16 = st.tmps 16 ∧ st1.tmps 17 = st.tmps 17 ∧ st1.tmps 18 = .one (.t (I j))

theorem cutInner {n : Nat} {A : Exit → St → Prop} {ks : List KF} (y : Sp) (cur : List Sp) (bY base : Nat) (st : St) (hcur : Cur (st.tmps 16) st.heap base cur) (h17 : st.tmps 17 = .one (.t (I cur.length))) (h18 : st.tmps 18 = .one (.t (I 0))) (h7 : st.tmps 7 = .one (.tt 2 []))
    (h6 : st.tmps 6 = .one (.ptr ⟨bY, 0, 2, 0, 0⟩)) (dy : Data st.heap bY 0 #[y]) (byb : bY < base) (hbase : base ≤ st.nx) (hA : Asc cur) (hok : ∀ x ∈ cur, bad x = false) (hy : bad y = false) (hlen : cur.length ≤ 50000)
    (K : ∀ st' : St, Out3 (st'.tmps 7) st'.heap st'.nx (cutL cur y) base st'.nx → (∀ id, id < base → st'.heap id = st.heap id) → st.nx ≤ st'.nx → st'.tmps 1 = st.tmps 1 → st'.tmps 10 = st.tmps 10 → st'.tmps 11 = st.tmps 11 → st'.tmps 12 = st.tmps 12 → retK Tryz.prog n A ks .normal st') :
    W Tryz.prog n (.loop c102b13) (kont Tryz.prog n A (.blk 2 :: ks)) st := by
  have hyv : y.1 ≤ y.2 := by simp [bad] at hy; omega
  refine W.loopK (fun k st1 => CIn y cur base st k st1) cur.length ⟨0, by simp, by simp, fun _ _ => rfl, Nat.le_refl _, .inl ⟨by simp [cutL], h7⟩, rfl, rfl, rfl, rfl, rfl, rfl, rfl, h18⟩ ?_
  rintro k st1 ⟨j, hk, hj, hh, hnx, h7, e1, e6, e10, e11, e12, e16, e17, e18⟩
  rw [h6] at e6; rw [h17] at e17
  rcases Nat.lt_or_ge j cur.length with hlt | hge
  · have hltI : (j : Int) < cur.length := by omega
    obtain ⟨x, hx⟩ : ∃ x, x = cur[j] := ⟨_, rfl⟩
    have hbx : bad x = false := hok x (by rw [hx]; exact List.getElem_mem hlt)
    have hl := cutL_len (hA.take j) hyv
    rw [List.length_take] at hl
    have hstep : cutL (cur.take j) y ++ cutBy y x = cutL (cur.take (j + 1)) y := by
      rw [take_one hlt]; unfold cutL; rw [List.flatMap_append, hx]; simp
    have dy1 : Data st1.heap bY 0 #[y] := dy.congr (hh bY byb)
    have fin : ∀ (st' : St), Out3 (st'.tmps 7) st'.heap st'.nx (cutL (cur.take j) y ++ cutBy y x) base st'.nx → (∀ id, id < base → st'.heap id = st1.heap id) → st1.nx ≤ st'.nx → st'.tmps 1 = st1.tmps 1 → st'.tmps 6 = st1.tmps 6 → st'.tmps 10 = st1.tmps 10 → st'.tmps 11 = st1.tmps 11 → st'.tmps 12 = st1.tmps 12 → st'.tmps 16 = st1.tmps 16 → st'.tmps 17 = st1.tmps 17 → st'.tmps 18 = .one (.t (I ((j + 1 : Nat) : Int))) → ∃ k', k' < k ∧ CIn y cur base st k' st' := by
      intro st' u7 uh un u1 u6 u10 u11 u12 u16 u17 u18
      rw [hstep] at u7
      exact ⟨cur.length - (j + 1), by omega, j + 1, rfl, by omega, fun id hid => (uh id hid).trans (hh id hid), by omega, u7, u1.trans e1, u6.trans (e6.trans h6.symm), u10.trans e10, u11.trans e11, u12.trans e12, u16.trans e16, u17.trans (e17.trans h17.symm), u18⟩
    have boxed : ∀ (d16 : D) (tm : Nat → D), st1.tmps 16 = d16 → tm 9 = .one (.ptr ⟨st1.nx + 1 + 2, 0, 2, 0, 0⟩) → tm 6 = st1.tmps 6 → tm 7 = st1.tmps 7 →
        CutS x y (st1.nx + 1 + 2) bY base (cutL (cur.take j) y) ((st1.heap.set (st1.nx + 1 + 2) (.arr 0 false 2 [[.t (.int .i64 0), .t (.int .i64 0)]])).set (st1.nx + 1 + 2) (.arr 0 false 2 [[.t (I x.1), .t (I x.2)]])) (st1.nx + 1 + 4) tm := by
      intro d16 tm _ t9 t6 t7
      refine ⟨t9, by rw [t6, e6], ⟨by simp, ?_, by simp, by simp⟩, (dy1.set (by omega)).set (by omega), by omega, by omega, byb, ?_, by omega⟩
      · rw [set_rows, if_pos rfl]; simp [cell]
      · rw [t7]
        exact ((h7.set (by omega)).set (by omega)).more (by omega) (.inl (by omega))
    have keep : ∀ id, id < base → ((st1.heap.set (st1.nx + 1 + 2) (.arr 0 false 2 [[.t (.int .i64 0), .t (.int .i64 0)]])).set (st1.nx + 1 + 2) (.arr 0 false 2 [[.t (I x.1), .t (I x.2)]])) id = st1.heap id := fun id hid => by rw [set_other (by omega), set_other (by omega)]
    have hcur1 : Cur (st1.tmps 16) st1.heap base cur := by
      rw [e16]
      rcases hcur with h | h | ⟨id, ver, q1, q2, q3⟩
      · exact .inl h
      · exact .inr (.inl h)
      · exact .inr (.inr ⟨id, ver, q1, q2, q3.congr (hh id q1)⟩)
    rcases hcur1 with h | ⟨h, _⟩ | ⟨id, ver, q1, q2, q3⟩
    · simp [c102b13, c102r6, c102r7, h, e17, e18, spans, hlt, hltI, spr, ← hx]
      refine cutBoth (i := j) (boxed _ _ h (by simp) (by simp) (by simp)) hbx hy (by omega) (by omega) (by simp [e18]) fun st' u7 uh un u1 u6 u10 u11 u12 u16 u17 u18 => ?_
      simp at u1 u6 u10 u11 u12 u16 u17
      exact fin st' u7 (fun id hid => (uh id hid).trans (keep id hid)) (by omega) u1 u6 u10 u11 u12 u16 u17 u18
    · rw [h] at hlt; simp at hlt
    · have hja : j < cur.toArray.size := by simpa using hlt
      have hln : (st1.heap.rows id).length = cur.length := by rw [q3.rows]; simp
      have g1 : ∀ hh, (st1.heap.rows id)[j]'hh = cell x := fun hh => by have := rowAt q3 hja hh; rw [hx]; simpa using this
      simp [c102b13, c102r6, c102r7, q2, e17, e18, hlt, hltI, q3.alive, q3.sz, hln, g1, cell]
      refine cutBoth (i := j) (boxed _ _ q2 (by simp) (by simp) (by simp)) hbx hy (by omega) (by omega) (by simp [e18]) fun st' u7 uh un u1 u6 u10 u11 u12 u16 u17 u18 => ?_
      simp at u1 u6 u10 u11 u12 u16 u17
      exact fin st' u7 (fun id hid => (uh id hid).trans (keep id hid)) (by omega) u1 u6 u10 u11 u12 u16 u17 u18
  · have hj' : j = cur.length := by omega
    subst hj'
    have hltI : ¬ (cur.length : Int) < cur.length := by omega
    simp at h7
    simp [c102b13, c102r6, e17, e18]
    exact K _ (by simpa using h7.more (by simp) (.inl (by simp))) hh (by simp; omega) (by simp [e1]) (by simp [e10]) (by simp [e11]) (by simp [e12])

def CB (b a : List Sp) (k : Nat) (st : St) : Prop :=
  ∃ i : Nat, k = b.length - i ∧ i ≤ b.length ∧ Cur (st.tmps 0) st.heap st.nx (withoutL a (b.take i)) ∧ st.tmps 1 = .one (.t (spans b)) ∧ st.tmps 10 = .one (.t (spans b)) ∧ st.tmps 11 = .one (.t (I b.length)) ∧ st.tmps 12 = .one (.t (I i))

theorem withoutL_ok {a b : List Sp} (hA : Asc a) (hb : ∀ y ∈ b, y.1 ≤ y.2) (hoa : ∀ x ∈ a, bad x = false) : ∀ z ∈ withoutL a b, bad z = false := by
  intro z hz
  obtain ⟨h1, _, h3⟩ := withoutL_asc hA hb
  obtain ⟨x, hx, h4⟩ := h3 z hz
  have h5 := h1.valid z hz
  have h6 := hoa x hx
  simp [bad] at h6 ⊢
  omega

theorem withoutP (a b : List Sp) (ha : a.length ≤ 300) (hb : b.length ≤ 300) (hA : Asc a) (hoa : ∀ x ∈ a, bad x = false) (hob : ∀ x ∈ b, bad x = false) : PSp Tryz.prog 102 [.one (.t (spans a)), .one (.t (spans b))] (.one (.t (spans (normalL (withoutL a b))))) := by
  have hvb : ∀ y ∈ b, y.1 ≤ y.2 := fun y hy => by have := hob y hy; simp [bad] at this; omega
  have hpart : ∀ i, Asc (withoutL a (b.take i)) ∧ (withoutL a (b.take i)).length ≤ 600 ∧ ∀ z ∈ withoutL a (b.take i), bad z = false := fun i => by
    have hv : ∀ y ∈ b.take i, y.1 ≤ y.2 := fun y hy => hvb y (List.mem_of_mem_take hy)
    obtain ⟨h1, h2, _⟩ := withoutL_asc (b := b.take i) hA hv
    refine ⟨h1, ?_, withoutL_ok hA hv hoa⟩
    rw [List.length_take] at h2; omega
  refine k102.pureK (by simp) rfl rfl ?_
  simp [c102, c102r0, c102r1, spans]
  refine W.loopK (fun k st => CB b a k st) b.length ⟨0, by simp, by simp, .inl (by simp [withoutL, spans]), by simp [spans], by simp [spans], by simp, by simp⟩ ?_
  rintro k st ⟨i, hk, hi, hcur, h1, h10, h11, h12⟩
  obtain ⟨pA, pl, pok⟩ := hpart i
  rcases Nat.lt_or_ge i b.length with hlt | hge
  · have hltI : (i : Int) < b.length := by omega
    have hw : IntKind.i64.wrap ((i : Int) + 1) = ((i + 1 : Nat) : Int) := nat_wrap _ (by omega) (by omega)
    obtain ⟨y, hy⟩ : ∃ y, y = b[i] := ⟨_, rfl⟩
    have hby : bad y = false := hob y (by rw [hy]; exact List.getElem_mem hlt)
    have hstep : withoutL a (b.take (i + 1)) = cutL (withoutL a (b.take i)) y := by
      unfold withoutL; rw [take_one hlt, List.foldl_append, hy]; rfl
    obtain ⟨cur, hc⟩ : ∃ cur, cur = withoutL a (b.take i) := ⟨_, rfl⟩
    rw [← hc] at hcur pA pl pok hstep
    have next : ∀ st' : St, Out3 (st'.tmps 7) st'.heap st'.nx (cutL cur y) (st.nx + 1 + 4 + 1 + 3) st'.nx → st'.tmps 1 = .one (.t (spans b)) → st'.tmps 10 = .one (.t (spans b)) → st'.tmps 11 = .one (.t (I b.length)) → st'.tmps 12 = .one (.t (I i)) →
        retK Tryz.prog 61 (pureEnd [.tmp 4] (.one (.t (spans (normalL (withoutL a b)))))) [.thn (.region 13 false 2 c102r13), .blk 1, .thn (.region 14 false 2 c102r14), .post fun st' => ∃ k', k' < k ∧ CB b a k' st', .blk 0, .thn (.seq (.region 15 false 3 c102r15) .ret)] .normal st' := by
      intro st' u7 u1 u10 u11 u12
      simp [c102r13, c102r14, u12, hw]
      refine ⟨b.length - (i + 1), by omega, i + 1, rfl, by omega, ?_, by simp [u1], by simp [u10], by simp [u11], by simp⟩
      rw [hstep]
      rcases u7 with ⟨e, u7⟩ | ⟨_, id, ver, q0, q1, q2, q3, q4, q5, q6, q7⟩
      · exact .inr (.inl ⟨e, by simp [u7]⟩)
      · exact .inr (.inr ⟨id, ver, by simp; omega, by simp [q3], ⟨q4, by simpa using q5, q6, q7⟩⟩)
    have hnx : st.nx + 1 + 4 + 1 + 3 = st.nx + 9 := by omega
    have dyS : ∀ (o : O), Data ((st.heap.set (st.nx + 1 + 2) o).set (st.nx + 1 + 2) (.arr 0 false 2 [[.t (I y.1), .t (I y.2)]])) (st.nx + 1 + 2) 0 #[y] := fun o => ⟨by simp, by rw [set_rows, if_pos rfl]; simp [cell], by simp, by simp⟩
    rcases hcur with h | ⟨h, h'⟩ | ⟨id, ver, q1, q2, q3⟩
    · simp [c102b16, c102r2, c102r3, c102r4, c102r5, h, h10, h11, h12, spans, hlt, hltI, spr, ← hy]
      refine cutInner y cur (st.nx + 1 + 2) (st.nx + 1 + 4 + 1 + 3) _ (.inl (by simp [spans])) (by simp) (by simp) (by simp) (by simp) (dyS _) (by omega) (by simp) pA pok hby (by omega) fun st' u7 uh un u1 u10 u11 u12 => ?_
      exact next st' u7 (by rw [u1]; simp [h1]) (by rw [u10]; simp [h10]) (by rw [u11]; simp [h11]) (by rw [u12]; simp [h12])
    · subst h
      simp [c102b16, c102r2, c102r3, c102r4, c102r5, h', h10, h11, h12, spans, hlt, hltI, spr, ← hy]
      refine cutInner y [] (st.nx + 1 + 2) (st.nx + 1 + 4 + 1 + 3) _ (.inr (.inl ⟨rfl, by simp⟩)) (by simp) (by simp) (by simp) (by simp) (dyS _) (by omega) (by simp) pA pok hby (by simp) fun st' u7 uh un u1 u10 u11 u12 => ?_
      exact next st' u7 (by rw [u1]; simp [h1]) (by rw [u10]; simp [h10]) (by rw [u11]; simp [h11]) (by rw [u12]; simp [h12])
    · simp [c102b16, c102r2, c102r3, c102r4, c102r5, q2, h10, h11, h12, spans, hlt, hltI, spr, ← hy]
      refine cutInner y cur (st.nx + 1 + 2) (st.nx + 1 + 4 + 1 + 3) _ (.inr (.inr ⟨id, ver, by omega, by simp, (q3.set (by omega)).set (by omega)⟩)) (by simp) (by simp) (by simp) (by simp) (dyS _) (by omega) (by simp) pA pok hby (by omega) fun st' u7 uh un u1 u10 u11 u12 => ?_
      exact next st' u7 (by rw [u1]; simp [h1]) (by rw [u10]; simp [h10]) (by rw [u11]; simp [h11]) (by rw [u12]; simp [h12])
  · have hi' : i = b.length := by omega
    subst hi'
    have hltI : ¬ (b.length : Int) < b.length := by omega
    simp at hcur pl pok
    have hN := normalP (withoutL a b) (by omega) (fun x hx => by have := pok x.1 x.2 hx; simpa using this)
    rcases hcur with h | ⟨h, h'⟩ | ⟨id, ver, q1, q2, q3⟩
    · simp [c102b16, c102r2, h11, h12, c102r15, h]
      refine callK.pure hN (by simp) (by simp [spans]) ?_
      simp [pureEnd, spans]
    · rw [h] at hN ⊢
      simp [c102b16, c102r2, h11, h12, c102r15, h']
      refine callK.pure hN (by simp) (by simp [spans]) ?_
      simp [pureEnd, spans]
    · have e1 : ((withoutL a b).map spr).length = (withoutL a b).length := by simp
      simp [c102b16, c102r2, h11, h12, c102r15, q2]
      rw [← e1]
      have q2' : st.heap.rows id = ((withoutL a b).map spr).map (·.map .t) := by rw [q3.rows, List.map_map]; rfl
      refine callK.pure hN (by simpa using frzOk_ref_t q3.alive q3.sz q2') (by simp only [List.map_cons, List.map_nil, D.frz, frz_ref_t q2', spans]) ?_
      simp [pureEnd, spans]
end Go.Proofs.YtdpbobkcbakpfaaGreatDoor

/- Functions that hand back a full slice as a tree that is known to be full ('tt'). -/
namespace Go.Ab
open Go

variable {P : Program} {w w' : World} {F F' : Fix} {ν ν' : Nu} {h : Hp} {nx : Nat} {tm : Nat → D} {a : Act} {n : Nat} {st : St}

def ttEnd (rs : List RV) (r : D) (h' : Hp) (n0 : Nat) (e : Exit) (st : St) : Prop :=
  (e = .normal ∨ e = .ret) ∧ resOk st rs ∧ resD st rs = r ∧ (∃ sz rr, r = .one (.tt sz rr)) ∧
    (∀ id, id < n0 → st.heap id = h' id) ∧ (∀ id, n0 ≤ id → h' id = none) ∧ ∀ id o, h' id = some o → o.below n0 = true

theorem Sim.cut {h h' : Hp} {n0 : Nat} (hs : Sim w F ν h nx) (h8 : ∀ id, id < n0 → h id = h' id) (h9 : ∀ id, n0 ≤ id → h' id = none) (h12 : ∀ id o, h' id = some o → o.below n0 = true) :
    Sim w F (cutNu ν n0) h' (n0 + 1) := by
  refine ⟨hs.fixed, fun id o ho => ?_, fun id bv hn => ?_, fun i j b v1 v2 hi hj => ?_⟩
  · have hlt : id < n0 := by
      rcases Nat.lt_or_ge id n0 with h | h
      · exact h
      · rw [h9 id h] at ho; cases ho
    have hob := hs.obj id o (by rw [h8 id hlt]; exact ho)
    have hbel := h12 id o ho
    cases o with
    | arr ver shut sz rs' =>
      obtain ⟨b, e', m, k1, k2, k3, k4, k5, k6, k7⟩ := hob
      refine ⟨b, e', m, by simp [cutNu, hlt, k1], k2, k3, k4, k5, fun i j rr x hi hj => ?_, k7⟩
      obtain ⟨q1, u, q2, q3⟩ := k6 i j rr x hi hj
      simp only [O.below, List.all_eq_true] at hbel
      exact ⟨q1, u, q2, q3.cut (hbel rr (List.mem_of_getElem? hi) x (List.mem_of_getElem? hj)) fun _ _ h => h⟩
  · obtain ⟨q1, q2⟩ := cutNu_eq hn
    obtain ⟨q3, q4, o, q5⟩ := hs.dom _ _ q2
    exact ⟨by omega, q4, o, by rw [← h8 id q1]; exact q5⟩
  · exact hs.inj _ _ _ _ _ (cutNu_eq hi).2 (cutNu_eq hj).2

theorem ISp.of_tt {f : FuncId} {fn : Func} {c : Code} {ac : ACode} {grow : Nat → Nat → Bool} {rs : List RV} (hf : P.funcs[f]? = some fn) (hb : fn.body = some c) (hc : compileCode P fn.ntmps grow c = some ac)
    (hres : compileRes P fn.results.toList = some rs) {xs : List D} {r : D} {h h' : Hp} {n0 : Nat} (hn : xs.length ≤ fn.ntmps) (hW : W P fn.ntmps ac (ttEnd rs r h' n0) ⟨initTm xs, h, n0⟩) : ISp P f h n0 xs r h' := by
  intro w F ν vs hs hv
  refine callsIn_wide.1 (callsIn_of_wp_marks (n := 9) hf hb trivial (wpIn_mono (hW none 9 grow c (.inl ⟨rfl, Nat.le_refl _⟩) hc _ w F ν (rel_init hs hv hn)) (fun e a' w1 hq => ?_)))
  obtain ⟨st', F', ν', ⟨h1, h2, h3, ⟨sz, rr, h4⟩, h8, h9, h12⟩, hcm⟩ := hq
  refine bodyPostM_of h1 (at_end rfl hcm fun w' h5 h6 => ?_)
  obtain ⟨v, g1, g2⟩ := results_sound h5 hres h2
  refine ⟨v, g1, r, v, h', F', cutNu ν' n0, rfl, ⟨rfl, rfl⟩, h5.sim.cut h8 h9 h12, ?_, ?_⟩
  · rw [h3, h4] at g2
    rw [h4]
    exact g2
  · exact { os := h6.os, tape := h6.tape, output := h6.output, size := h6.size, keep := h6.keep, cell := h6.cell, sub := h6.sub, new := h6.new, shape := h6.shape
            nu := fun id b ver hh => by
              obtain ⟨b', ver', q1, q2⟩ := h6.nu id b ver hh
              have := (hs.dom _ _ hh).1
              exact ⟨b', ver', by simp [cutNu, this, q1], q2⟩
            nu' := fun id b ver hh => h6.nu' id b ver (cutNu_eq hh).2 }

theorem Compiled.ttK {P : Program} {f : FuncId} {n : Nat} {rs : List RV} {ac : ACode} (hc : Compiled P f n rs ac) {xs : List D} {r : D} {h h' : Hp} {n0 : Nat} (hn : xs.length ≤ n) (hW : awpK P n (ttEnd rs r h' n0) ac [] ⟨initTm xs, h, n0⟩) : ISp P f h n0 xs r h' := by
  obtain ⟨fn, c, grow, h1, h2, h3, h4, rfl⟩ := hc.out
  exact ISp.of_tt h1 h2 h3 h4 hn (W.of_awp _ _ _ hW)

end Go.Ab

/- Abstract code of functions of the program, printed by a tool of mine (wip/ab/XDump.lean); each is held against the program by the kernel. -/
namespace Go.Proofs.YtdpbobkcbakpfaaGreatDoor
open Go Go.Ab
set_option maxRecDepth 100000
def c217r0 : List Seg := [(Seg.one (AOper.mk (some 2) (AStep.op (AOp.alloc [(A.t (T.bool false))])) none))]
def c217r1 : List Seg := [(Seg.one (AOper.mk (some 11) (AStep.op (AOp.mv (X.tmp 0))) none)), (Seg.one (AOper.mk (some 12) (AStep.op (AOp.len false (X.tmp 11))) none)), (Seg.one (AOper.mk (some 13) (AStep.op (AOp.bin .gtr false (X.tmp 12) (X.con (D.one (A.t (T.int .i64 20)))))) none))]
def c217r2 : List Seg := [(Seg.one (AOper.mk none (AStep.op (AOp.store 1 (X.tmp 2) (X.con (D.one (A.t (T.bool false)))))) none))]
def c217r3 : List Seg := [(Seg.one (AOper.mk (some 3) (AStep.op (AOp.alloc [(A.tt 1 [])])) none))]
def c217r4 : List Seg := [(Seg.one (AOper.mk (some 14) (AStep.op (AOp.mv (X.tmp 0))) none)), (Seg.one (AOper.mk (some 15) (AStep.op (AOp.len false (X.tmp 14))) none)), (Seg.one (AOper.mk (some 16) (AStep.op (AOp.mv (X.con (D.one (A.t (T.int .i64 0)))))) none))]
def c217r5 : List Seg := [(Seg.one (AOper.mk (some 17) (AStep.op (AOp.bin .lss false (X.tmp 16) (X.tmp 15))) none))]
def c217r6 : List Seg := [(Seg.one (AOper.mk (some 18) (AStep.op (AOp.mv (X.tmp 16))) none)), (Seg.one (AOper.mk (some 19) (AStep.op (AOp.ia 5 (X.tmp 14) (X.tmp 16))) none)), (Seg.one (AOper.mk (some 20) (AStep.op (AOp.load 5 true (X.tmp 19))) none)), (Seg.one (AOper.mk (some 5) (AStep.op (AOp.alloc [(A.t (T.int .i64 0)), (A.t (T.int .i64 0)), (A.t (T.int .i64 0)), (A.t (T.str (bs []))), (A.tt 1 [])])) none)), (Seg.one (AOper.mk (some 4) (AStep.op (AOp.mv (X.tmp 18))) none)), (Seg.one (AOper.mk none (AStep.op (AOp.store 5 (X.tmp 5) (X.tmp 20))) none))]
def c217r7 : List Seg := [(Seg.one (AOper.mk (some 21) (AStep.op (AOp.fa 4 (X.tmp 5))) none)), (Seg.one (AOper.mk (some 22) (AStep.op (AOp.load 1 false (X.tmp 21))) none)), (Seg.one (AOper.mk (some 23) (AStep.op (AOp.len false (X.tmp 22))) none)), (Seg.one (AOper.mk (some 6) (AStep.op (AOp.mv (X.tmp 23))) none))]
def c217r8 : List Seg := [(Seg.one (AOper.mk (some 7) (AStep.op (AOp.mv (X.con (D.one (A.t (T.bool true)))))) none))]
def c217r9 : List Seg := [(Seg.one (AOper.mk (some 24) (AStep.op (AOp.fa 0 (X.tmp 5))) none)), (Seg.one (AOper.mk (some 25) (AStep.op (AOp.load 1 false (X.tmp 24))) none))]
def c217r11 : List Seg := [(Seg.one (AOper.mk (some 27) (AStep.op (AOp.bin .eql false (X.tmp 25) (X.con (D.one (A.t (T.int .i64 0)))))) none)), (Seg.one (AOper.mk (some 26) (AStep.op (AOp.mv (X.tmp 27))) none))]
def c217r12 : List Seg := [(Seg.one (AOper.mk (some 28) (AStep.op (AOp.bin .eql false (X.tmp 25) (X.con (D.one (A.t (T.int .i64 1)))))) none)), (Seg.one (AOper.mk (some 26) (AStep.op (AOp.mv (X.tmp 28))) none))]
def c217r13 : List Seg := [(Seg.one (AOper.mk (some 29) (AStep.op (AOp.mv (X.tmp 6))) none)), (Seg.one (AOper.mk (some 30) (AStep.op (AOp.bin .eql false (X.tmp 29) (X.con (D.one (A.t (T.int .i64 0)))))) none)), (Seg.one (AOper.mk (some 7) (AStep.op (AOp.mv (X.tmp 30))) none))]
def c217r14 : List Seg := [(Seg.one (AOper.mk (some 32) (AStep.op (AOp.bin .eql false (X.tmp 25) (X.con (D.one (A.t (T.int .i64 2)))))) none)), (Seg.one (AOper.mk (some 31) (AStep.op (AOp.mv (X.tmp 32))) none))]
def c217r15 : List Seg := [(Seg.one (AOper.mk (some 33) (AStep.op (AOp.bin .eql false (X.tmp 25) (X.con (D.one (A.t (T.int .i64 3)))))) none)), (Seg.one (AOper.mk (some 31) (AStep.op (AOp.mv (X.tmp 33))) none))]
def c217r16 : List Seg := [(Seg.one (AOper.mk (some 34) (AStep.op (AOp.mv (X.tmp 6))) none)), (Seg.one (AOper.mk (some 35) (AStep.op (AOp.bin .eql false (X.tmp 34) (X.con (D.one (A.t (T.int .i64 1)))))) none)), (Seg.one (AOper.mk (some 7) (AStep.op (AOp.mv (X.tmp 35))) none))]
def c217r17 : List Seg := [(Seg.one (AOper.mk (some 37) (AStep.op (AOp.bin .eql false (X.tmp 25) (X.con (D.one (A.t (T.int .i64 4)))))) none)), (Seg.one (AOper.mk (some 36) (AStep.op (AOp.mv (X.tmp 37))) none))]
def c217r18 : List Seg := [(Seg.one (AOper.mk (some 38) (AStep.op (AOp.bin .eql false (X.tmp 25) (X.con (D.one (A.t (T.int .i64 5)))))) none)), (Seg.one (AOper.mk (some 36) (AStep.op (AOp.mv (X.tmp 38))) none))]
def c217r19 : List Seg := [(Seg.one (AOper.mk (some 39) (AStep.op (AOp.bin .eql false (X.tmp 25) (X.con (D.one (A.t (T.int .i64 6)))))) none)), (Seg.one (AOper.mk (some 36) (AStep.op (AOp.mv (X.tmp 39))) none))]
def c217r20 : List Seg := [(Seg.one (AOper.mk (some 40) (AStep.op (AOp.mv (X.tmp 6))) none)), (Seg.one (AOper.mk (some 41) (AStep.op (AOp.bin .eql false (X.tmp 40) (X.con (D.one (A.t (T.int .i64 2)))))) none)), (Seg.one (AOper.mk (some 7) (AStep.op (AOp.mv (X.tmp 41))) none))]
def c217r21 : List Seg := [(Seg.one (AOper.mk (some 43) (AStep.op (AOp.bin .eql false (X.tmp 25) (X.con (D.one (A.t (T.int .i64 7)))))) none)), (Seg.one (AOper.mk (some 42) (AStep.op (AOp.mv (X.tmp 43))) none))]
def c217r22 : List Seg := [(Seg.one (AOper.mk (some 44) (AStep.op (AOp.mv (X.tmp 6))) none)), (Seg.one (AOper.mk (some 45) (AStep.op (AOp.bin .eql false (X.tmp 44) (X.con (D.one (A.t (T.int .i64 1)))))) none)), (Seg.one (AOper.mk (some 46) (AStep.op (AOp.mv (X.tmp 45))) none)), (Seg.grp 46 false [(AOper.mk (some 47) (AStep.op (AOp.mv (X.tmp 6))) (some (46, false))), (AOper.mk (some 48) (AStep.op (AOp.bin .eql false (X.tmp 47) (X.con (D.one (A.t (T.int .i64 2)))))) (some (46, false)))]), (Seg.one (AOper.mk (some 49) (AStep.op (AOp.pick (X.tmp 46) (X.con (D.one (A.t (T.bool true)))) (X.tmp 48))) none)), (Seg.one (AOper.mk (some 7) (AStep.op (AOp.mv (X.tmp 49))) none))]
def c217r10 : List Seg := [(Seg.one (AOper.mk none (AStep.op (AOp.store 1 (X.tmp 2) (X.con (D.one (A.t (T.bool false)))))) none))]
def c217r23 : List Seg := [(Seg.one (AOper.mk (some 50) (AStep.op (AOp.mv (X.tmp 7))) none)), (Seg.one (AOper.mk (some 51) (AStep.op (AOp.un .not (X.tmp 50))) none)), (Seg.one (AOper.mk (some 52) (AStep.op (AOp.mv (X.tmp 51))) none)), (Seg.grp 52 false [(AOper.mk (some 53) (AStep.op (AOp.fa 0 (X.tmp 5))) (some (52, false))), (AOper.mk (some 54) (AStep.op (AOp.load 1 false (X.tmp 53))) (some (52, false))), (AOper.mk (some 55) (AStep.op (AOp.bin .neq false (X.tmp 54) (X.con (D.one (A.t (T.int .i64 0)))))) (some (52, false))), (AOper.mk (some 56) (AStep.op (AOp.mv (X.tmp 55))) (some (52, false)))]), (Seg.grp 56 true [(AOper.mk (some 57) (AStep.op (AOp.fa 1 (X.tmp 5))) (some (56, true))), (AOper.mk (some 58) (AStep.op (AOp.load 1 false (X.tmp 57))) (some (56, true))), (AOper.mk (some 59) (AStep.op (AOp.bin .neq false (X.tmp 58) (X.con (D.one (A.t (T.int .i64 0)))))) (some (56, true))), (AOper.mk (some 60) (AStep.op (AOp.mv (X.tmp 59))) (some (56, true)))]), (Seg.grp 60 false [(AOper.mk (some 61) (AStep.op (AOp.fa 2 (X.tmp 5))) (some (60, false))), (AOper.mk (some 62) (AStep.op (AOp.load 1 false (X.tmp 61))) (some (60, false))), (AOper.mk (some 63) (AStep.op (AOp.bin .neq false (X.tmp 62) (X.con (D.one (A.t (T.int .i64 0)))))) (some (60, false)))]), (Seg.grp 56 true [(AOper.mk (some 64) (AStep.op (AOp.pick (X.tmp 60) (X.con (D.one (A.t (T.bool true)))) (X.tmp 63))) (some (56, true)))]), (Seg.grp 52 false [(AOper.mk (some 65) (AStep.op (AOp.pick (X.tmp 56) (X.tmp 64) (X.con (D.one (A.t (T.bool false)))))) (some (52, false)))]), (Seg.one (AOper.mk (some 66) (AStep.op (AOp.pick (X.tmp 52) (X.con (D.one (A.t (T.bool true)))) (X.tmp 65))) none)), (Seg.one (AOper.mk (some 67) (AStep.op (AOp.mv (X.tmp 66))) none)), (Seg.grp 67 false [(AOper.mk (some 68) (AStep.op (AOp.fa 0 (X.tmp 5))) (some (67, false))), (AOper.mk (some 69) (AStep.op (AOp.load 1 false (X.tmp 68))) (some (67, false))), (AOper.mk (some 70) (AStep.op (AOp.bin .neq false (X.tmp 69) (X.con (D.one (A.t (T.int .i64 1)))))) (some (67, false))), (AOper.mk (some 71) (AStep.op (AOp.mv (X.tmp 70))) (some (67, false)))]), (Seg.grp 71 true [(AOper.mk (some 72) (AStep.op (AOp.fa 3 (X.tmp 5))) (some (71, true))), (AOper.mk (some 73) (AStep.op (AOp.load 1 false (X.tmp 72))) (some (71, true))), (AOper.mk (some 74) (AStep.op (AOp.bin .neq false (X.tmp 73) (X.con (D.one (A.t (T.str (bs []))))))) (some (71, true)))]), (Seg.grp 67 false [(AOper.mk (some 75) (AStep.op (AOp.pick (X.tmp 71) (X.tmp 74) (X.con (D.one (A.t (T.bool false)))))) (some (67, false)))]), (Seg.one (AOper.mk (some 76) (AStep.op (AOp.pick (X.tmp 67) (X.con (D.one (A.t (T.bool true)))) (X.tmp 75))) none))]
def c217r24 : List Seg := [(Seg.one (AOper.mk none (AStep.op (AOp.store 1 (X.tmp 2) (X.con (D.one (A.t (T.bool false)))))) none))]
def c217r25 : List Seg := [(Seg.one (AOper.mk (some 77) (AStep.op (AOp.mv (X.tmp 4))) none)), (Seg.one (AOper.mk (some 8) (AStep.op (AOp.alloc [(A.t (T.int .i64 0))])) none)), (Seg.one (AOper.mk none (AStep.op (AOp.store 1 (X.tmp 8) (X.tmp 77))) none))]
def c217r26 : List Seg := [(Seg.one (AOper.mk (some 78) (AStep.op (AOp.fa 4 (X.tmp 5))) none)), (Seg.one (AOper.mk (some 79) (AStep.op (AOp.load 1 false (X.tmp 78))) none)), (Seg.one (AOper.mk (some 80) (AStep.call 255 [(X.tmp 79)]) none))]
def c217r27 : List Seg := [(Seg.one (AOper.mk (some 10) (AStep.op (AOp.mv (X.tmp 82))) none))]
def c217r28 : List Seg := [(Seg.one (AOper.mk (some 83) (AStep.op (AOp.load 1 false (X.tmp 8))) none)), (Seg.one (AOper.mk (some 84) (AStep.op (AOp.bin .eql false (X.tmp 83) (X.con (D.one (A.t (T.int .i64 0)))))) none)), (Seg.one (AOper.mk (some 85) (AStep.op (AOp.mv (X.tmp 84))) none)), (Seg.grp 85 false [(AOper.mk (some 86) (AStep.op (AOp.mv (X.tmp 10))) (some (85, false))), (AOper.mk (some 87) (AStep.op (AOp.load 1 false (X.tmp 8))) (some (85, false))), (AOper.mk (some 88) (AStep.op (AOp.bin .sub false (X.tmp 87) (X.con (D.one (A.t (T.int .i64 1)))))) (some (85, false))), (AOper.mk (some 89) (AStep.op (AOp.bin .neq false (X.tmp 86) (X.tmp 88))) (some (85, false)))]), (Seg.one (AOper.mk (some 90) (AStep.op (AOp.pick (X.tmp 85) (X.con (D.one (A.t (T.bool true)))) (X.tmp 89))) none))]
def c217r29 : List Seg := [(Seg.one (AOper.mk none (AStep.op (AOp.store 1 (X.tmp 2) (X.con (D.one (A.t (T.bool false)))))) none))]
def c217r30 : List Seg := [(Seg.one (AOper.mk (some 91) (AStep.op (AOp.load 1 false (X.tmp 3))) none)), (Seg.one (AOper.mk (some 92) (AStep.op (AOp.load 1 false (X.tmp 8))) none)), (Seg.one (AOper.mk (some 93) (AStep.op (AOp.bin .sub false (X.tmp 92) (X.con (D.one (A.t (T.int .i64 1)))))) none)), (Seg.one (AOper.mk (some 94) (AStep.op (AOp.ia 1 (X.tmp 91) (X.tmp 93))) none)), (Seg.one (AOper.mk (some 95) (AStep.op (AOp.load 1 false (X.tmp 94))) none)), (Seg.one (AOper.mk none (AStep.op (AOp.store 1 (X.tmp 8) (X.tmp 95))) none))]
def c217b31 : ACode := (.block 4 (.seq (.seq (.region 28 false 8 c217r28) (.cond (X.tmp 90) (.seq (.region 29 false 1 c217r29) .ret) .skip)) (.region 30 false 6 c217r30)))
def c217r31 : List Seg := [(Seg.one (AOper.mk (some 96) (AStep.op (AOp.load 1 false (X.tmp 3))) none)), (Seg.one (AOper.mk (some 97) (AStep.op (AOp.load 1 false (X.tmp 8))) none)), (Seg.one (AOper.mk (some 98) (AStep.op (AOp.bslice 1 1 [(A.t (T.int .i64 0))] [(0, (1, (X.tmp 97)))])) none)), (Seg.one (AOper.mk (some 99) (AStep.op (AOp.app true 1 8 (X.tmp 96) (X.tmp 98))) none)), (Seg.one (AOper.mk none (AStep.op (AOp.store 1 (X.tmp 3) (X.tmp 99))) none))]
def c217r32 : List Seg := [(Seg.one (AOper.mk (some 100) (AStep.op (AOp.bin .add false (X.tmp 16) (X.con (D.one (A.t (T.int .i64 1)))))) none)), (Seg.one (AOper.mk (some 16) (AStep.op (AOp.mv (X.tmp 100))) none))]
def c217b34 : ACode := (.seq (.region 5 false 1 c217r5) (.seq (.cond (X.tmp 17) .skip (.exit 0)) (.seq (.block 1 (.seq (.region 6 false 6 c217r6) (.seq (.region 7 false 4 c217r7) (.seq (.region 8 false 1 c217r8) (.seq (.seq (.region 9 false 2 c217r9) (.block 2 (.seq (.seq (.region 11 false 2 c217r11) (.cond (X.tmp 26) .skip (.region 12 false 2 c217r12))) (.cond (X.tmp 26) (.region 13 false 3 c217r13) (.seq (.seq (.region 14 false 2 c217r14) (.cond (X.tmp 31) .skip (.region 15 false 2 c217r15))) (.cond (X.tmp 31) (.region 16 false 3 c217r16) (.seq (.seq (.region 17 false 2 c217r17) (.cond (X.tmp 36) .skip (.seq (.region 18 false 2 c217r18) (.cond (X.tmp 36) .skip (.region 19 false 2 c217r19))))) (.cond (X.tmp 36) (.region 20 false 3 c217r20) (.seq (.region 21 false 2 c217r21) (.cond (X.tmp 42) (.region 22 false 7 c217r22) (.seq (.region 10 false 1 c217r10) .ret))))))))))) (.seq (.seq (.region 23 false 27 c217r23) (.cond (X.tmp 76) (.seq (.region 24 false 1 c217r24) .ret) .skip)) (.seq (.region 25 false 3 c217r25) (.seq (.seq (.region 26 false 3 c217r26) (.block 3 (.rng (X.tmp 80) [81, 82] (.region 27 false 1 c217r27) c217b31))) (.region 31 false 5 c217r31))))))))) (.region 32 false 2 c217r32))))
def c217r33 : List Seg := [(Seg.one (AOper.mk (some 101) (AStep.op (AOp.mv (X.tmp 0))) none)), (Seg.one (AOper.mk (some 102) (AStep.op (AOp.len false (X.tmp 101))) none)), (Seg.one (AOper.mk (some 103) (AStep.op (AOp.bin .eql false (X.tmp 102) (X.con (D.one (A.t (T.int .i64 0)))))) none)), (Seg.one (AOper.mk (some 104) (AStep.op (AOp.mv (X.tmp 103))) none)), (Seg.br 104 false [(AOper.mk (some 105) (AStep.op (AOp.load 1 false (X.tmp 3))) (some (104, false))), (AOper.mk (some 106) (AStep.op (AOp.mv (X.tmp 0))) (some (104, false))), (AOper.mk (some 107) (AStep.op (AOp.len false (X.tmp 106))) (some (104, false))), (AOper.mk (some 108) (AStep.op (AOp.bin .sub false (X.tmp 107) (X.con (D.one (A.t (T.int .i64 1)))))) (some (104, false))), (AOper.mk (some 109) (AStep.op (AOp.ia 1 (X.tmp 105) (X.tmp 108))) (some (104, false))), (AOper.mk (some 110) (AStep.op (AOp.load 1 false (X.tmp 109))) (some (104, false))), (AOper.mk (some 111) (AStep.op (AOp.bin .eql false (X.tmp 110) (X.con (D.one (A.t (T.int .i64 0)))))) (some (104, false)))]), (Seg.one (AOper.mk (some 112) (AStep.op (AOp.pick (X.tmp 104) (X.con (D.one (A.t (T.bool true)))) (X.tmp 111))) none)), (Seg.one (AOper.mk none (AStep.op (AOp.store 1 (X.tmp 2) (X.tmp 112))) none))]
def c217 : ACode := (.seq (.region 0 false 1 c217r0) (.seq (.seq (.region 1 false 3 c217r1) (.cond (X.tmp 13) (.seq (.region 2 false 1 c217r2) .ret) .skip)) (.seq (.region 3 false 1 c217r3) (.seq (.seq (.region 4 false 3 c217r4) (.block 0 (.loop c217b34))) (.seq (.region 33 false 13 c217r33) .ret)))))
theorem k217 : Compiled Go.Proofs.Tryz.prog 217 113 [(RV.cell 2 1 false)] c217 := .mk' [] Go.Proofs.Tryz.func217 rfl (by kernel_rfl) (by kernel_rfl)
def c255r0 : List Seg := [(Seg.one (AOper.mk (some 1) (AStep.op (AOp.box 1 (X.tmp 0))) none)), (Seg.one (AOper.mk (some 2) (AStep.op (AOp.mv (X.con (D.one (A.t T.nilf))))) none))]
def c255r1 : List Seg := [(Seg.one (AOper.mk (some 3) (AStep.op (AOp.mkfn 280 [(X.tmp 1)])) none)), (Seg.one (AOper.mk (some 2) (AStep.op (AOp.mv (X.tmp 3))) none))]
def c255 : ACode := (.seq (.region 0 false 2 c255r0) (.seq (.region 1 false 2 c255r1) .ret))
theorem k255 : Compiled Go.Proofs.Tryz.prog 255 4 [(RV.tmp 2)] c255 := .mk' [] Go.Proofs.Tryz.func255 rfl (by kernel_rfl) (by kernel_rfl)
def c280r0 : List Seg := [(Seg.one (AOper.mk (some 4) (AStep.op (AOp.load 1 false (X.tmp 1))) none)), (Seg.one (AOper.mk (some 5) (AStep.op (AOp.len false (X.tmp 4))) none)), (Seg.one (AOper.mk (some 6) (AStep.op (AOp.bin .sub false (X.tmp 5) (X.con (D.one (A.t (T.int .i64 1)))))) none)), (Seg.one (AOper.mk (some 3) (AStep.op (AOp.mv (X.tmp 6))) none))]
def c280r1 : List Seg := [(Seg.one (AOper.mk (some 7) (AStep.op (AOp.mv (X.tmp 3))) none)), (Seg.one (AOper.mk (some 8) (AStep.op (AOp.bin .geq false (X.tmp 7) (X.con (D.one (A.t (T.int .i64 0)))))) none))]
def c280r3 : List Seg := [(Seg.one (AOper.mk (some 11) (AStep.op (AOp.mv (X.tmp 0))) none)), (Seg.one (AOper.mk (some 12) (AStep.op (AOp.mv (X.tmp 3))) none)), (Seg.one (AOper.mk (some 13) (AStep.op (AOp.load 1 false (X.tmp 1))) none)), (Seg.one (AOper.mk (some 14) (AStep.op (AOp.mv (X.tmp 3))) none)), (Seg.one (AOper.mk (some 15) (AStep.op (AOp.ia 1 (X.tmp 13) (X.tmp 14))) none)), (Seg.one (AOper.mk (some 16) (AStep.op (AOp.load 1 false (X.tmp 15))) none)), (Seg.one (AOper.mk (some 17) (AStep.callv (X.tmp 11) [(X.tmp 12), (X.tmp 16)]) none)), (Seg.one (AOper.mk (some 18) (AStep.op (AOp.un .not (X.tmp 17))) none))]
def c280r2 : List Seg := [(Seg.one (AOper.mk (some 9) (AStep.op (AOp.mv (X.tmp 3))) none)), (Seg.one (AOper.mk (some 10) (AStep.op (AOp.bin .sub false (X.tmp 9) (X.con (D.one (A.t (T.int .i64 1)))))) none)), (Seg.one (AOper.mk (some 3) (AStep.op (AOp.mv (X.tmp 10))) none))]
def c280b4 : ACode := (.seq (.seq (.region 1 false 2 c280r1) (.cond (X.tmp 8) .skip (.exit 0))) (.seq (.block 1 (.seq (.region 3 false 8 c280r3) (.cond (X.tmp 18) .ret .skip))) (.region 2 false 3 c280r2)))
def c280 : ACode := (.seq (.region 0 false 4 c280r0) (.block 0 (.loop c280b4)))
theorem k280 : Compiled Go.Proofs.Tryz.prog 280 19 [] c280 := .mk' [] Go.Proofs.Tryz.func280 rfl (by kernel_rfl) (by kernel_rfl)
def c162r0 : List Seg := [(Seg.one (AOper.mk (some 4) (AStep.op (AOp.mv (X.con (D.one (A.tt 2 []))))) none))]
def c162r1 : List Seg := [(Seg.one (AOper.mk (some 5) (AStep.op (AOp.mv (X.tmp 1))) none)), (Seg.one (AOper.mk (some 6) (AStep.op (AOp.bin .lss false (X.tmp 5) (X.con (D.one (A.t (T.int .i64 0)))))) none))]
def c162r2 : List Seg := [(Seg.one (AOper.mk (some 7) (AStep.op AOp.dead) none)), (Seg.one (AOper.mk none (AStep.op AOp.dead) none))]
def c162r3 : List Seg := [(Seg.one (AOper.mk (some 8) (AStep.op (AOp.mv (X.tmp 1))) none)), (Seg.one (AOper.mk (some 9) (AStep.op (AOp.mv (X.tmp 0))) none)), (Seg.one (AOper.mk (some 10) (AStep.op (AOp.cap (X.tmp 9))) none)), (Seg.one (AOper.mk (some 11) (AStep.op (AOp.mv (X.tmp 0))) none)), (Seg.one (AOper.mk (some 12) (AStep.op (AOp.len false (X.tmp 11))) none)), (Seg.one (AOper.mk (some 13) (AStep.op (AOp.bin .sub false (X.tmp 10) (X.tmp 12))) none)), (Seg.one (AOper.mk (some 14) (AStep.op (AOp.bin .sub false (X.tmp 8) (X.tmp 13))) none)), (Seg.one (AOper.mk (some 1) (AStep.op (AOp.mv (X.tmp 14))) none))]
def c162r4 : List Seg := [(Seg.one (AOper.mk (some 15) (AStep.op (AOp.mv (X.tmp 1))) none)), (Seg.one (AOper.mk (some 16) (AStep.op (AOp.bin .gtr false (X.tmp 15) (X.con (D.one (A.t (T.int .i64 0)))))) none))]
def c162r5 : List Seg := [(Seg.one (AOper.mk (some 17) (AStep.op (AOp.mv (X.tmp 0))) none)), (Seg.one (AOper.mk (some 18) (AStep.op (AOp.mv (X.tmp 0))) none)), (Seg.one (AOper.mk (some 19) (AStep.op (AOp.cap (X.tmp 18))) none)), (Seg.one (AOper.mk (some 20) (AStep.op (AOp.sl false 2 (X.tmp 17) none (some (X.tmp 19)) none)) none)), (Seg.one (AOper.mk (some 21) (AStep.op (AOp.mv (X.tmp 1))) none)), (Seg.one (AOper.mk (some 22) (AStep.op (AOp.appn 2 16 [(A.t (T.int .i64 0)), (A.t (T.int .i64 0))] (X.tmp 20) (X.tmp 21))) none)), (Seg.one (AOper.mk (some 23) (AStep.op (AOp.mv (X.tmp 0))) none)), (Seg.one (AOper.mk (some 24) (AStep.op (AOp.len false (X.tmp 23))) none)), (Seg.one (AOper.mk (some 25) (AStep.op (AOp.trunc 2 (X.tmp 22) (X.tmp 24))) none)), (Seg.one (AOper.mk (some 0) (AStep.op (AOp.mv (X.tmp 25))) none))]
def c162r6 : List Seg := [(Seg.one (AOper.mk (some 26) (AStep.op (AOp.mv (X.tmp 0))) none)), (Seg.one (AOper.mk (some 4) (AStep.op (AOp.mv (X.tmp 26))) none))]
def c162 : ACode := (.seq (.region 0 false 1 c162r0) (.seq (.seq (.region 1 false 2 c162r1) (.cond (X.tmp 6) (.region 2 false 2 c162r2) .skip)) (.seq (.seq (.region 3 false 8 c162r3) (.seq (.region 4 false 2 c162r4) (.cond (X.tmp 16) (.region 5 false 10 c162r5) .skip))) (.seq (.region 6 false 2 c162r6) .ret))))
theorem k162 : Compiled Go.Proofs.Tryz.prog 162 27 [(RV.tmp 4)] c162 := .mk' [(5, 8)] Go.Proofs.Tryz.func162 rfl (by kernel_rfl) (by kernel_rfl)

end Go.Proofs.YtdpbobkcbakpfaaGreatDoor

namespace Go.Proofs.YtdpbobkcbakpfaaGreatDoor
open Go Go.Ab
set_option maxRecDepth 100000

/-- slices.Grow of nothing, by some. -/
theorem growP (m : Nat) (hm : 0 < m) (hm2 : m ≤ 100000) (h : Hp) (n0 : Nat) (ho : HeapOk h n0) :
    ISp Tryz.prog 162 h n0 [.one (.tt 2 []), .one (.t (I m))] (.one (.ref n0 1 0 0 2 false)) (putD' h n0 1 #[]) := by
  refine k162.ownK (by simp) ?_
  have w0 : IntKind.i64.wrap (0 : Int) = 0 := wrap_i64 (by omega) (by omega)
  have w1 : IntKind.i64.wrap (m : Int) = m := wrap_i64 (by omega) (by omega)
  have hneg : ¬ (m : Int) < 0 := by omega
  have hpos : (0 : Int) < m := by omega
  simp [c162, c162r0, c162r1, c162r3, c162r4, c162r5, c162r6, hneg, hm, w0, w1, D.isTT, D.truncOk, D.trunc, D.truncEff]
  refine ⟨⟨by omega, by omega⟩, n0 + 1 + 2 + 8 + 2 + 5, .inr rfl, ⟨by simp, by simp⟩, ⟨.ref (n0 + 1 + 2 + 8 + 2 + 5) 1 0 0 2 false, rfl, by simp [A.only], by simp [A.ren, renId]⟩, by omega, fun id hid => ?_, ?_, ⟨.arr 1 false 2 [], by simp [Hp.set]⟩, fun id hid => ?_, fun id o hid => ?_⟩
  · simp only [putD', Hp.set]; rw [if_neg (by omega), if_neg (by omega), if_neg (by omega)]
  · simp only [putD', Hp.set, if_true]; rfl
  · simp only [putD', Hp.set]; rw [if_neg (by omega)]; exact ho.above id (by omega)
  · simp only [putD', Hp.set] at hid
    split at hid
    · simp only [Option.some.injEq] at hid; subst hid
      simp [O.below]
    · exact ho.below id o hid

theorem grow0P (h : Hp) (n0 : Nat) (ho : HeapOk h n0) : ISp Tryz.prog 162 h n0 [.one (.tt 2 []), .one (.t (I 0))] (.one (.tt 2 [])) h := by
  refine k162.ttK (by simp) ?_
  have w0 : IntKind.i64.wrap (0 : Int) = 0 := wrap_i64 (by omega) (by omega)
  simp [c162, c162r0, c162r1, c162r3, c162r4, c162r6, w0, D.isTT]
  exact ⟨.inr rfl, ⟨by simp, by simp⟩, rfl, ⟨2, [], rfl⟩, fun _ _ => rfl, ho.above, ho.below⟩

def lists (ls : List (List Sp)) : T := .rows 1 (ls.map fun l => [spans l])

/-- What slices.Concat has so far. -/
def OutC (d : D) (h : Hp) (nx : Nat) (acc : List Sp) (tot : Nat) : Prop :=
  (tot = 0 ∧ acc = [] ∧ d = .one (.tt 2 [])) ∨ (0 < tot ∧ ∃ id ver, id < nx ∧ d = .one (.ref id ver 0 acc.length 2 false) ∧ Data h id ver acc.toArray)

def CC1 (ls : List (List Sp)) (k : Nat) (st : St) : Prop :=
  ∃ i : Nat, k = ls.length - i ∧ i ≤ ls.length ∧ st.heap = noHp ∧ st.tmps 0 = .one (.t (lists ls)) ∧ st.tmps 9 = .one (.t (lists ls)) ∧ st.tmps 10 = .one (.t (I ls.length)) ∧ st.tmps 11 = .one (.t (I i)) ∧ st.tmps 3 = .one (.t (I ((ls.take i).flatten.length : Nat)))

def CC2 (ls : List (List Sp)) (k : Nat) (st : St) : Prop :=
  ∃ i : Nat, k = ls.length - i ∧ i ≤ ls.length ∧ st.tmps 25 = .one (.t (lists ls)) ∧ st.tmps 26 = .one (.t (I ls.length)) ∧ st.tmps 27 = .one (.t (I i)) ∧ OutC (st.tmps 6) st.heap st.nx (ls.take i).flatten ls.flatten.length

theorem take_oneL {b : List (List Sp)} {j : Nat} (h : j < b.length) : (b.take (j + 1)).flatten = (b.take j).flatten ++ b[j] := by rw [List.take_add_one, List.getElem?_eq_getElem h, List.flatten_append]; simp

theorem part_len (ls : List (List Sp)) (i : Nat) : (ls.take i).flatten.length ≤ ls.flatten.length := by
  have := congrArg List.length (congrArg List.flatten (List.take_append_drop i ls))
  rw [List.flatten_append, List.length_append] at this
  omega

/-- slices.Concat at spans. -/
theorem concatP (ls : List (List Sp)) (hl : ls.flatten.length ≤ 100000) (hl2 : ls.length ≤ 100000) : PSp Tryz.prog 131 [.one (.t (lists ls))] (.one (.t (spans ls.flatten))) := by
  refine k131.pureK (by simp) rfl rfl ?_
  simp [c131, c131r0, c131r1, c131r2, lists]
  refine W.loopK (fun k st => CC1 ls k st) ls.length ⟨0, by simp, by simp, by simp, by simp [lists], by simp [lists], by simp, by simp, by simp⟩ ?_
  rintro k st ⟨i, hk, hi, hh, h0, h9, h10, h11, h3⟩
  have hpi := part_len ls i
  rcases Nat.lt_or_ge i ls.length with hlt | hge
  · have hltI : (i : Int) < ls.length := by omega
    have hpi1 := part_len ls (i + 1)
    have hstep := take_oneL hlt
    obtain ⟨l, hle⟩ : ∃ l, l = ls[i] := ⟨_, rfl⟩
    obtain ⟨t, ht⟩ : ∃ t : Nat, t = (ls.take i).flatten.length := ⟨_, rfl⟩
    obtain ⟨t1, ht1⟩ : ∃ t : Nat, t = (ls.take (i + 1)).flatten.length := ⟨_, rfl⟩
    have hsum : t1 = t + l.length := by rw [ht1, hstep, List.length_append, ht, hle]
    rw [← ht] at h3 hpi
    rw [← ht1] at hpi1
    have hw : IntKind.i64.wrap ((i : Int) + 1) = ((i + 1 : Nat) : Int) := nat_wrap _ (by omega) (by omega)
    have hw2 : IntKind.i64.wrap ((t : Int) + l.length) = (t1 : Int) := nat_wrap _ (by omega) (by omega)
    have hng : ¬ (t1 : Int) < 0 := by omega
    simp [c131b9, c131r3, c131r4, c131r5, c131r6, c131r8, h9, h10, h11, h3, lists, hlt, hltI, ← hle, spans, hw, hw2, hng]
    exact ⟨ls.length - (i + 1), by omega, i + 1, rfl, by omega, by simp [hh], by simp [h0, lists], by simp [h9, lists], by simp [h10], by simp, by simp [ht1]⟩
  · have hi' : i = ls.length := by omega
    subst hi'
    have hltI : ¬ (ls.length : Int) < ls.length := by omega
    rw [List.take_length] at h3
    obtain ⟨t, ht⟩ : ∃ t : Nat, t = ls.flatten.length := ⟨_, rfl⟩
    rw [← ht] at h3 hl
    have ho0 : ∀ n, HeapOk noHp n := fun n => ⟨fun _ _ => rfl, fun id o h => by cases h⟩
    have after : ∀ (d : D) (g : Hp) (tm : Nat → D) (nx : Nat), tm 0 = .one (.t (lists ls)) → tm 6 = d → OutC d g nx [] t →
        awpK Tryz.prog 36 (pureEnd [.tmp 2] (.one (.t (spans ls.flatten)))) (.seq (.seq (.region 10 false 3 c131r10) (.block 2 (.loop c131b16))) (.seq (.region 15 false 2 c131r15) .ret)) [] ⟨tm, g, nx⟩ := by
      intro d g tm nx u0 u6 uo
      simp [c131r10, u0, lists]
      refine W.loopK (fun k st => CC2 ls k st) ls.length ⟨0, by simp, by simp, by simp [lists], by simp, by simp, ?_⟩ ?_
      · rw [← ht]
        rcases uo with ⟨a, b, c⟩ | ⟨a, id, ver, b, c, e⟩
        · exact .inl ⟨a, by simp, by simp [u6, c]⟩
        · exact .inr ⟨a, id, ver, by simp; omega, by simp [u6, c], by simpa using e⟩
      rintro k st2 ⟨i, hk, hi, h25, h26, h27, h6⟩
      have hpi := part_len ls i
      rcases Nat.lt_or_ge i ls.length with hlt | hge
      · have hltI : (i : Int) < ls.length := by omega
        have hpi1 := part_len ls (i + 1)
        have hstep := take_oneL hlt
        obtain ⟨l, hle⟩ : ∃ l, l = ls[i] := ⟨_, rfl⟩
        rw [← hle] at hstep
        obtain ⟨acc, hacc⟩ : ∃ acc, acc = (ls.take i).flatten := ⟨_, rfl⟩
        rw [← hacc] at h6 hstep hpi
        rw [hstep, List.length_append] at hpi1
        have hw : IntKind.i64.wrap ((i : Int) + 1) = ((i + 1 : Nat) : Int) := nat_wrap _ (by omega) (by omega)
        rcases h6 with ⟨a, b, c⟩ | ⟨a, id, ver, b, c, e⟩
        · have hlz : l = [] := List.eq_nil_of_length_eq_zero (by omega)
          rw [hlz] at hle hstep
          simp [c131b16, c131r11, c131r12, c131r13, c131r14, h25, h26, h27, c, lists, hlt, hltI, ← hle, spans, hw]
          exact ⟨ls.length - (i + 1), by omega, i + 1, rfl, by omega, by simp [h25, lists], by simp [h26], by simp, .inl ⟨a, by rw [hstep]; simp [b], by simp⟩⟩
        · have hln : (st2.heap.rows id).length = acc.length := by rw [e.rows]; simp
          simp [c131b16, c131r11, c131r12, c131r13, c131r14, h25, h26, h27, c, lists, hlt, hltI, ← hle, spans, hw, e.alive, e.sz, hln]
          refine ⟨by omega, ls.length - (i + 1), by omega, i + 1, rfl, by omega, by simp [h25, lists], by simp [h26], by simp, .inr ⟨a, id, ver + 1, by simp; omega, by rw [hstep]; simp, ⟨by simp, ?_, by simp, by simp [e.open_]⟩⟩⟩
          rw [set_rows, if_pos rfl, e.rows, hstep]
          simp [cell, spr]
      · have hi' : i = ls.length := by omega
        subst hi'
        have hltI : ¬ (ls.length : Int) < ls.length := by omega
        rw [List.take_length] at h6
        simp [c131b16, c131r11, h26, h27, c131r15, pureEnd]
        rcases h6 with ⟨a, b, c⟩ | ⟨a, id, ver, b, c, e⟩
        · rw [c, b]; simp [spans]
        · have e1 : (ls.flatten.map spr).length = ls.flatten.length := List.length_map _
          rw [c, ← e1]
          have q2' : st2.heap.rows id = (ls.flatten.map spr).map (·.map .t) := by rw [e.rows, List.map_map]; rfl
          refine ⟨frzOk_ref_t e.alive e.sz q2', ?_⟩
          simp only [frz_ref_t q2', spans]
    by_cases ht0 : t = 0
    · subst ht0
      have h3' : st.tmps 3 = .one (.t (I 0)) := by rw [h3]; rfl
      simp [c131b9, c131r3, h10, h11, c131r9, h3', hh]
      refine callK.imp (grow0P noHp _ (ho0 _)) ?_
      simp only [opsK]
      exact after (.one (.tt 2 [])) _ _ _ h0 rfl (.inl ⟨rfl, rfl, rfl⟩)
    · simp [c131b9, c131r3, h10, h11, c131r9, h3, hh]
      refine callK.imp (growP t (by omega) (by omega) noHp _ (ho0 _)) ?_
      simp only [opsK]
      exact after (.one (.ref _ 1 0 0 2 false)) _ _ _ h0 rfl (.inr ⟨by omega, _, 1, by omega, rfl, data_put⟩)
end Go.Proofs.YtdpbobkcbakpfaaGreatDoor

namespace Go.Proofs.YtdpbobkcbakpfaaGreatDoor
open Go Go.Ab
set_option maxRecDepth 100000

theorem withinP (a b c : Int) : PSp Tryz.prog 85 [.one (.t (I a)), .one (.t (I b)), .one (.t (I c))] (.one (.t (.bool (decide (b ≤ a) && decide (a ≤ c))))) := by
  refine k85.pureK (by simp) rfl rfl ?_
  simp [c85, c85r0, c85r1, pureEnd]

theorem firstP (e f : Int) : PSp Tryz.prog 79 [.one (.t (.rows 1 [[I e], [I f]]))] (.one (.t (I (if e ≠ 0 then e else f)))) := by
  refine k79.pureK (by simp) rfl rfl ?_
  have w1 : IntKind.i64.wrap (0 + 1 : Int) = 1 := wrap_i64 (by omega) (by omega)
  have w2 : IntKind.i64.wrap (1 : Int) = 1 := wrap_i64 (by omega) (by omega)
  have w3 : IntKind.i64.wrap (1 + 1 : Int) = 2 := wrap_i64 (by omega) (by omega)
  have w4 : IntKind.i64.wrap (2 : Int) = 2 := wrap_i64 (by omega) (by omega)
  simp [c79, c79r0, c79r1]
  refine W.loopK (fun k st => ∃ i : Nat, k = 2 - i ∧ i ≤ 2 ∧ (1 ≤ i → e = 0) ∧ (2 ≤ i → f = 0) ∧ st.tmps 5 = .one (.t (.rows 1 [[I e], [I f]])) ∧ st.tmps 6 = .one (.t (I 2)) ∧ st.tmps 7 = .one (.t (I i))) 2 ⟨0, rfl, by omega, by omega, by omega, by simp, by simp, by simp⟩ ?_
  rintro k st ⟨i, hk, hi, he, hf, h5, h6, h7⟩
  obtain rfl | rfl | rfl : i = 0 ∨ i = 1 ∨ i = 2 := by omega
  · by_cases h : e = 0
    · simp [c79b7, c79r2, c79r3, c79r4, c79r6, h5, h6, h7, h, w2]
      exact ⟨1, by omega, 1, by omega, by omega, by omega, rfl⟩
    · simp [c79b7, c79r2, c79r3, c79r4, c79r5, h5, h6, h7, h, pureEnd]
  · have h := he (by omega)
    by_cases h' : f = 0
    · simp [c79b7, c79r2, c79r3, c79r4, c79r6, h5, h6, h7, h, h', w4]
      exact ⟨0, by omega, 2, by omega, by omega, rfl⟩
    · simp [c79b7, c79r2, c79r3, c79r4, c79r5, h5, h6, h7, h, h', pureEnd]
  · have h := he (by omega)
    have h' := hf (by omega)
    simp [c79b7, c79r2, c79r7, h6, h7, h, h', pureEnd]

/-- The plain form of combined. -/
def combinedL (op : Int) (a b : List Sp) : List Sp := if op = 0 then normalL (a ++ b) else if op = 1 then normalL (bothL a b) else normalL (withoutL a b)

theorem combinedP (op : Int) (a b : List Sp) (ha : a.length ≤ 40) (hb : b.length ≤ 40) (hA : Asc a) (hoa : ∀ x ∈ a, bad x = false) (hob : ∀ x ∈ b, bad x = false) : PSp Tryz.prog 86 [.one (.t (I op)), .one (.t (spans a)), .one (.t (spans b))] (.one (.t (spans (combinedL op a b)))) := by
  refine k86.pureK (by simp) rfl rfl ?_
  by_cases h0 : op = 0
  · subst h0
    simp [c86, c86r0, c86r1, c86r2, c86r3, spans]
    have hc := concatP [a, b] (by simp; omega) (by simp)
    simp [spans] at hc
    refine callK.pure hc (by simp) (by simp [lists, spans]) ?_
    have hn := normalP (a ++ b) (by simp; omega) (fun x hx => by rcases List.mem_append.1 hx with h | h; exact hoa x h; exact hob x h)
    simp [spans] at hn
    simp
    refine callK.pure hn (by simp) (by simp) ?_
    simp [pureEnd, combinedL]
  · by_cases h1 : op = 1
    · subst h1
      simp [c86, c86r0, c86r1, c86r2, c86r4, c86r5]
      refine callK.pure (bothP a b (by omega) (by omega) hoa hob) (by simp) (by simp) ?_
      simp [pureEnd, combinedL]
    · simp [c86, c86r0, c86r1, c86r2, c86r4, c86r6, h0, h1]
      refine callK.pure (withoutP a b (by omega) (by omega) hA hoa hob) (by simp) (by simp) ?_
      simp [pureEnd, combinedL, h0, h1]

/-- What Combined gives. -/
def combinedR (op : Int) (a b : List Sp) : List Sp × Int :=
  if 0 ≤ op ∧ op ≤ 2 then
    if (spansErr a).2 ≠ 0 then ([], (spansErr a).2) else if (spansErr b).2 ≠ 0 then ([], (spansErr b).2) else
      if 40 < (combinedL op a b).length then ([], 2) else (combinedL op a b, 0)
  else ([], 4)

theorem CombinedP (op : Int) (a b : List Sp) : PSp Tryz.prog 36 [.one (.t (I op)), .one (.t (spans a)), .one (.t (spans b))] (.tup [.one (.t (spans (combinedR op a b).1)), .one (.t (I (combinedR op a b).2))]) := by
  refine k36.pureK (by simp) rfl rfl ?_
  simp [c36, c36r0, c36r1]
  refine callK.pure (withinP op 0 2) (by simp) (by simp) ?_
  by_cases hop : 0 ≤ op ∧ op ≤ 2
  · simp [hop.1, hop.2, c36r3]
    refine callK.pure (CheckSpansP a) (by simp) (by simp) ?_
    simp [c36r4]
    refine callK.pure (CheckSpansP b) (by simp) (by simp) ?_
    simp [c36r5]
    refine callK.pure (firstP (spansErr a).2 (spansErr b).2) (by simp) (by simp) ?_
    by_cases hea : (spansErr a).2 = 0
    · by_cases heb : (spansErr b).2 = 0
      · obtain ⟨a1, a2, a3⟩ := ok_gap hea
        obtain ⟨b1, b2, b3⟩ := ok_gap heb
        simp [c36r6, c36r8, hea, heb]
        refine callK.pure (combinedP op a b a1 b1 a2.asc a3 b3) (by simp) (by simp) ?_
        by_cases hbig : 40 < (combinedL op a b).length
        · have hbI : (40 : Int) < (combinedL op a b).length := by omega
          simp [c36r9, c36r10, spans, hbig, hbI, pureEnd, combinedR, hop, hea, heb]
        · have hbI : ¬ (40 : Int) < (combinedL op a b).length := by omega
          simp [c36r9, c36r11, spans, hbig, hbI, pureEnd, combinedR, hop, hea, heb]
      · simp [c36r6, c36r7, hea, heb, pureEnd, combinedR, hop, spans]
    · simp [c36r6, c36r7, hea, pureEnd, combinedR, hop, spans]
  · have : (decide (0 ≤ op) && decide (op ≤ 2)) = false := by simp; omega
    rw [this]
    simp [c36r2, pureEnd, combinedR, hop, spans]
end Go.Proofs.YtdpbobkcbakpfaaGreatDoor

namespace Go.Proofs.YtdpbobkcbakpfaaGreatDoor
open Go Go.Ab
set_option maxRecDepth 100000

/-- THE PLAIN LAW: what the program makes of two lists of spans is what the document's answer is. -/
theorem combined_plain {op : Int} {a b : List Sp} (hop : 0 ≤ op ∧ op ≤ 2) (ha : Gap a) (hb : Gap b) (hoa : ∀ x ∈ a, bad x = false) (hob : ∀ x ∈ b, bad x = false) : combinedL op a b = combL op a b [] (edgesF (a ++ b)) := by
  obtain ⟨g1, g2⟩ := combL_law op a b
  have h : ∀ l : List Sp, (∀ x ∈ l, x.1 ≤ x.2) → (∀ n, inS l n = selOp op (inS a n) (inS b n)) → normalL l = combL op a b [] (edgesF (a ++ b)) := fun l hv hn => by
    obtain ⟨k1, k2⟩ := normalL_law hv
    exact gap_unique k1 g1 fun n => by rw [k2, g2, hn]
  obtain rfl | rfl | rfl : op = 0 ∨ op = 1 ∨ op = 2 := by omega
  · simp only [combinedL, if_true]
    refine h _ (fun x hx => ?_) fun n => by simp [inS_append, selOp]
    rcases List.mem_append.1 hx with hx | hx
    · exact ha.valid x hx
    · exact hb.valid x hx
  · simp only [combinedL, if_true]
    refine h _ (fun x hx => ?_) fun n => by simp [bothL_in, selOp]
    have := bothL_ok hoa hob x hx
    simp [bad] at this; omega
  · simp only [combinedL]
    refine h _ (fun x hx => ?_) fun n => by rw [withoutL_in ha.valid hb.valid]; simp [selOp]
    exact (withoutL_asc ha.asc hb.valid).1.valid x hx

theorem limitsSpansP (hawake : PSp Tryz.prog 12 [] (.one (.t (.bool true)))) (op : Int) (a b : List Sp) : PSp Tryz.prog 6 [.one (.t (I op)), .one (.t (spans a)), .one (.t (spans b))] (.one (.t (.bool true))) := by
  refine k6.pureK (by simp) rfl rfl ?_
  simp [c6, c6r0, c6r1]
  refine callK.pure hawake (by simp) (by simp) ?_
  simp [c6r3]
  refine callK.pure (fewP a) (by simp) (by simp) ?_
  by_cases ha : a.length ≤ 60
  · simp [ha]
    refine callK.pure (fewP b) (by simp) (by simp) ?_
    by_cases hb : b.length ≤ 60
    · simp [hb, c6r5]
      refine callK.pure (OwnSpansP a (by omega)) (by simp) (by simp) ?_
      simp
      refine callK.pure (CheckSpansP a) (by simp) (by simp) ?_
      simp [c6r6]
      refine callK.pure (SpansErrP a) (by simp) (by simp) ?_
      simp [c6r7, c6r9]
      refine callK.pure (OwnSpansP a (by omega)) (by simp) (by simp) ?_
      simp
      refine callK.pure (OwnSpansP b (by omega)) (by simp) (by simp) ?_
      simp
      refine callK.pure (CombinedP op a b) (by simp) (by simp) ?_
      have last : ∀ (c : Int) (tm : Nat → D) (h : Hp) (nx : Nat), tm 0 = .one (.t (I op)) → tm 1 = .one (.t (spans a)) → tm 2 = .one (.t (spans b)) → tm 10 = .one (.t (I c)) → tm 11 = .one (.t (spans (combinedR op a b).1)) → tm 12 = .one (.t (I (combinedR op a b).2)) →
          c = (if (spansErr a).2 ≠ 0 then (spansErr a).2 else (spansErr b).2) →
          awpK Tryz.prog 93 (pureEnd [.tmp 6] (.one (.t (.bool true)))) (.seq (.seq (.region 12 false 3 c6r12) (.cond (X.tmp 61) (.region 13 false 1 c6r13) .skip)) (.seq (.seq (.region 14 false 2 c6r14) (.cond (X.tmp 63) (.seq (.region 15 false 9 c6r15) .ret) .skip)) (.seq (.region 16 false 5 c6r16) (.seq (.seq (.region 17 false 3 c6r17) (.cond (X.tmp 78) (.seq (.region 18 false 8 c6r18) .ret) .skip)) (.seq (.region 19 false 8 c6r19) .ret))))) [] ⟨tm, h, nx⟩ := by
        intro c tm h nx u0 u1 u2 u10 u11 u12 hc
        simp [c6r12, u0]
        refine callK.pure (WithinP op 0 2) (by simp) (by simp) ?_
        by_cases hop : 0 ≤ op ∧ op ≤ 2
        · by_cases hea : (spansErr a).2 = 0
          · by_cases heb : (spansErr b).2 = 0
            · obtain ⟨a1, a2, a3⟩ := ok_gap hea
              obtain ⟨b1, b2, b3⟩ := ok_gap heb
              have hc0 : c = 0 := by rw [hc]; simp [hea, heb]
              have hR : combinedR op a b = if 40 < (combinedL op a b).length then ([], 2) else (combinedL op a b, 0) := by simp [combinedR, hop, hea, heb]
              have hpl := combined_plain hop a2 b2 a3 b3
              simp [hop.1, hop.2, c6r14, c6r16, u0, u1, u2, u10, hc0]
              refine callK.pure (CombineP op a b (by omega) (by omega) (fun x hx => by rcases List.mem_append.1 hx with h | h; exact a3 x h; exact b3 x h)) (by simp) (by simp) ?_
              rw [← hpl]
              by_cases hbig : 40 < (combinedL op a b).length
              · have hbI : (40 : Int) < (combinedL op a b).length := by omega
                rw [if_pos hbig] at hR
                simp [c6r17, c6r18, spans, hbI, u11, u12, hR, pureEnd]
              · have hbI : ¬ (40 : Int) < (combinedL op a b).length := by omega
                rw [if_neg hbig] at hR
                simp [c6r17, c6r19, spans, hbI, u11, u12, hR]
                refine callK.pure (SameSpansP (combinedL op a b) (combinedL op a b) (by omega)) (by simp) (by simp [spans]) ?_
                simp [pureEnd]
            · have hR : combinedR op a b = ([], (spansErr b).2) := by simp [combinedR, hop, hea, heb]
              have hc0 : c = (spansErr b).2 := by rw [hc]; simp [hea]
              simp [hop.1, hop.2, c6r14, c6r15, u10, u11, u12, hc0, heb, hR, pureEnd, spans]
          · have hR : combinedR op a b = ([], (spansErr a).2) := by simp [combinedR, hop, hea]
            have hc0 : c = (spansErr a).2 := by rw [hc]; simp [hea]
            simp [hop.1, hop.2, c6r14, c6r15, u10, u11, u12, hc0, hea, hR, pureEnd, spans]
        · have : (decide (0 ≤ op) && decide (op ≤ 2)) = false := by simp; omega
          have hR : combinedR op a b = ([], 4) := by simp [combinedR, hop]
          rw [this]
          simp [c6r13, c6r14, c6r15, u11, u12, hR, pureEnd, spans]
      by_cases hea : (spansErr a).2 = 0
      · simp [c6r10, c6r11, hea]
        refine callK.pure (SpansErrP b) (by simp) (by simp) ?_
        simp
        exact last (spansErr b).2 _ _ _ rfl rfl rfl rfl rfl rfl (by simp [hea])
      · simp [c6r10, hea]
        exact last (spansErr a).2 _ _ _ rfl rfl rfl rfl rfl rfl (by simp [hea])
    · simp [hb, c6r4, pureEnd]
  · simp [ha, c6r4, pureEnd]
end Go.Proofs.YtdpbobkcbakpfaaGreatDoor

