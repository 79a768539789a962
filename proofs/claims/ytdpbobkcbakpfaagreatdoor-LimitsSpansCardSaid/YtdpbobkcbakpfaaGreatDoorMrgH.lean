/- For every input the law LimitsSpans answers true and leaves its arguments as they were (the row lists two tables of package utf8; the card ties them). -/
import Derived.Carry
import Derived.ReadAgain
import Derived.ChangeArms
import Derived.OpenShut
import Derived.ProofKit
import Derived.Deep.DeepHandedRow
import Derived.Test.YtdpbobkcbakpfaaGreatDoorCards
import Derived.Test.YtdpbobkcbakpfaaGreatDoorTie
import Derived.Lay
import Derived.JoinedCond
import Derived.Test.YtdpbobkcbakpfaaGreatDoorMrgG
/- What a row's argument reads as, told as trees; a law that answers true, told as its row asks. -/
namespace Go.Ab
open Go Go.ChangeShapes Go.WideShapes Go.RowKit

/-- Trees of a type. -/
inductive Shape (P : Program) : TypeId → List T → Prop
  | bool {t : TypeId} (b : Bool) (h : P.underlying t = some .bool) : Shape P t [.bool b]
  | int {t : TypeId} {k : IntKind} (n : Int) (h : P.underlying t = some (.int k)) (hw : (Lit.int k n).wf = true) : Shape P t [.int k n]
  | str {t : TypeId} (s : ByteArray) (h : P.underlying t = some .string) (hw : s.size ≤ maxLen) : Shape P t [.str s]
  | slice {t e : TypeId} (rs : List (List T)) (h : P.underlying t = some (.slice e)) (hl : rs.length ≤ maxLen) (hr : ∀ r ∈ rs, Shape P e r) : Shape P t [.rows (P.cellsOf e) rs]
  | strct {t : TypeId} {fs : Array Field} (pss : List (List T)) (h : P.underlying t = some (.struct fs)) (hl : pss.length = fs.size)
      (hp : ∀ (i : Nat) f ps, fs[i]? = some f → pss[i]? = some ps → Shape P f.type ps) : Shape P t pss.flatten

def fieldsOk (P : Program) (l : List TypeId) : List Field → Nat → Option Nat
  | [], off => some off
  | f :: r, off => if f.offset = off ∧ l.contains f.type = true then fieldsOk P l r (off + P.cellsOf f.type) else none

/-- Types that are trees all through. -/
def treeTypes (P : Program) (l : List TypeId) : Bool :=
  l.all fun t => match P.underlying t with
    | some .bool => decide (P.cellsOf t = 1)
    | some (.int _) => decide (P.cellsOf t = 1)
    | some .string => decide (P.cellsOf t = 1)
    | some (.slice e) => l.contains e && decide (P.cellsOf t = 1) && decide (0 < P.cellsOf e)
    | some (.struct fs) => match fieldsOk P l fs.toList 0 with
      | some n => decide (n = P.cellsOf t)
      | none => false
    | _ => false

def oldFix (w : World) : Fix := fun b _ => b < w.heap.size

section
variable {H : Type} {enc : TypeId × Value → H} {P : Program} {w : World} {base : Nat} {sp : Nat → Bool} {held : Bool} {l : List TypeId}

def Reads (w : World) (ts : List T) (cs : List Value) : Prop := ts.length = cs.length ∧ ∀ (j : Nat) a v, ts[j]? = some a → cs[j]? = some v → VT w (oldFix w) a v

theorem cells?_get {a : Addr} {n : Nat} {cs : List Value} (h : w.cells? base a n = some cs) : cs.length = n ∧ ∀ i, i < n → w.cell? (a.add i) = cs[i]? := by
  unfold World.cells? at h
  split at h
  · exact ⟨by simpa using mapM_some_length h, fun i hi => mapM_some_get h i i (by simp [hi])⟩
  · cases h

theorem cell?_lt {a : Addr} {v : Value} (h : w.cell? a = some v) : a.block < w.heap.size ∧ a.spot = none := by
  unfold World.cell? at h
  split at h
  · rename_i c t f hb
    split at h
    · cases h
    · rename_i hs
      refine ⟨(Array.getElem?_eq_some_iff.1 hb).1, ?_⟩
      cases hx : a.spot with
      | none => rfl
      | some _ => rw [hx] at hs; simp at hs
  · cases h

theorem collect {α : Type} (Q : Nat → α → Prop) : ∀ n, (∀ i, i < n → ∃ x, Q i x) → ∃ rs : List α, rs.length = n ∧ ∀ (i : Nat) r, rs[i]? = some r → Q i r
  | 0, _ => ⟨[], rfl, fun i r hr => by simp at hr⟩
  | n + 1, h => by
    obtain ⟨rs, r1, r2⟩ := collect Q n fun i hi => h i (by omega)
    obtain ⟨x, hx⟩ := h n (Nat.lt_succ_self _)
    refine ⟨rs ++ [x], by simp [r1], fun i r hr => ?_⟩
    rcases Nat.lt_or_ge i rs.length with g | g
    · rw [List.getElem?_append_left g] at hr; exact r2 i r hr
    · rw [List.getElem?_append_right g] at hr
      have : i = n := by
        rcases Nat.eq_zero_or_pos (i - rs.length) with q | q
        · omega
        · rw [List.getElem?_eq_none (by simp; omega)] at hr; cases hr
      subst this
      rw [r1, Nat.sub_self] at hr
      simp at hr; subst hr
      exact hx

theorem fields_conv (hl : treeTypes P l = true) {n : Nat} (ih : ∀ (t : TypeId) (cs : List Value) x, l.contains t = true → DataW.trod enc P w base sp held n t cs = some x → ∃ ts, ts.length = P.cellsOf t ∧ Shape P t ts ∧ Reads w ts cs) (cs : List Value) :
    ∀ (fs : List Field) (off tot : Nat), fieldsOk P l fs off = some tot → tot ≤ cs.length → (∀ (i : Nat) f, fs[i]? = some f → ∃ x, DataW.trod enc P w base sp held n f.type ((cs.drop f.offset).take (P.cellsOf f.type)) = some x) →
      ∃ pss : List (List T), pss.length = fs.length ∧ pss.flatten.length = tot - off ∧ off ≤ tot ∧ (∀ (i : Nat) f ps, fs[i]? = some f → pss[i]? = some ps → Shape P f.type ps) ∧ ∀ (j : Nat) a v, pss.flatten[j]? = some a → cs[off + j]? = some v → VT w (oldFix w) a v
  | [], off, tot, h, _, _ => by
    simp only [fieldsOk, Option.some.injEq] at h
    subst h
    exact ⟨[], rfl, by simp, Nat.le_refl _, fun i f ps hf => by simp at hf, fun j a v ha => by simp at ha⟩
  | f :: r, off, tot, h, hc, hx => by
    simp only [fieldsOk] at h
    split at h
    · rename_i hf
      obtain ⟨pss, q1, q2, q3, q4, q5⟩ := fields_conv hl ih cs r _ tot h hc fun i f' hf' => hx (i + 1) f' (by simpa using hf')
      obtain ⟨x, hx0⟩ := hx 0 f rfl
      obtain ⟨ts, t1, t2, t3, t4⟩ := ih _ _ _ hf.2 hx0
      refine ⟨ts :: pss, by simp [q1], by simp [q2, t1]; omega, by omega, fun i f' ps hf' hp => ?_, fun j a v ha hv => ?_⟩
      · rcases i with - | i
        · simp at hf' hp; subst hf'; subst hp; exact t2
        · exact q4 i f' ps (by simpa using hf') (by simpa using hp)
      · simp only [List.flatten_cons] at ha
        rcases Nat.lt_or_ge j ts.length with g | g
        · rw [List.getElem?_append_left g] at ha
          refine t4 j a v ha ?_
          rw [hf.1, List.getElem?_take, if_pos (by omega), List.getElem?_drop]; exact hv
        · rw [List.getElem?_append_right g] at ha
          refine q5 (j - ts.length) a v ha ?_
          rw [show off + P.cellsOf f.type + (j - ts.length) = off + j by omega]; exact hv
    · cases h

theorem conv (hl : treeTypes P l = true) : ∀ (n : Nat) (t : TypeId) (cs : List Value) x, l.contains t = true → DataW.trod enc P w base sp held n t cs = some x → ∃ ts, ts.length = P.cellsOf t ∧ Shape P t ts ∧ Reads w ts cs := by
  intro n
  induction n with
  | zero => intro t cs x _ h; simp [DataW.trod] at h
  | succ n ih =>
    intro t cs x ht h
    have hk := List.all_eq_true.1 hl t (by simpa using ht)
    have one : ∀ (a : T) (v : Value), VT w (oldFix w) a v → Reads w [a] [v] := fun a v hv => ⟨rfl, fun j a' v' ha hv' => by
      rcases j with - | j
      · simp at ha hv'; subst ha; subst hv'; exact hv
      · simp at ha⟩
    split at hk
    · rename_i hu
      obtain ⟨b, rfl, _⟩ := DataW.trod_bool hu h
      exact ⟨[.bool b], by simpa using (of_decide_eq_true hk).symm, .bool b hu, one _ _ (.bool b)⟩
    · rename_i k hu
      obtain ⟨m, rfl, _, hw⟩ := DataW.trod_int hu h
      exact ⟨[.int k m], by simpa using (of_decide_eq_true hk).symm, .int m hu hw, one _ _ (.int k m)⟩
    · rename_i hu
      obtain ⟨s, rfl, _, hw⟩ := DataW.trod_string hu h
      exact ⟨[.str s], by simpa using (of_decide_eq_true hk).symm, .str s hu hw, one _ _ (.str s)⟩
    · rename_i e hu
      simp only [Bool.and_eq_true, decide_eq_true_eq] at hk
      obtain ⟨⟨he, h1⟩, h0⟩ := hk
      rcases DataW.trod_slice hu h with ⟨rfl, _⟩ | ⟨a, len, cap, elems, rest, n', hn, rfl, _, _, hlc, hcm, hel, hev, _, _⟩
      · exact ⟨[.rows (P.cellsOf e) []], by simp [h1], .slice [] hu (by simp) (by simp), one _ _ (.nils _ _ _)⟩
      · obtain rfl : n' = n := by omega
        have hrow : ∀ i, i < len → ∃ ts cs', ts.length = P.cellsOf e ∧ Shape P e ts ∧ Reads w ts cs' ∧ w.cells? base (a.add (i * P.cellsOf e)) (P.cellsOf e) = some cs' := fun i hi => by
          have := hev i hi
          rw [List.getElem?_eq_getElem (by omega), Option.bind_eq_some_iff] at this
          obtain ⟨cs', c1, c2⟩ := this
          obtain ⟨ts, t1, t2, t3⟩ := ih _ _ _ he c2
          exact ⟨ts, cs', t1, t2, t3, c1⟩
        obtain ⟨rs, r1, r2⟩ : ∃ rs : List (List T), rs.length = len ∧ ∀ (i : Nat) r, rs[i]? = some r → r.length = P.cellsOf e ∧ Shape P e r ∧ ∃ cs', Reads w r cs' ∧ w.cells? base (a.add (i * P.cellsOf e)) (P.cellsOf e) = some cs' := by
          obtain ⟨rs, r1, r2⟩ := collect (fun i ts => ts.length = P.cellsOf e ∧ Shape P e ts ∧ ∃ cs', Reads w ts cs' ∧ w.cells? base (a.add (i * P.cellsOf e)) (P.cellsOf e) = some cs') len fun i hi => by
            obtain ⟨ts, cs', t1, t2, t3, t4⟩ := hrow i hi
            exact ⟨ts, t1, t2, cs', t3, t4⟩
          exact ⟨rs, r1, fun i r hr => r2 i r hr⟩
        refine ⟨[.rows (P.cellsOf e) rs], by simp [h1], .slice rs hu (by omega) (fun r hr => ?_), one _ _ ?_⟩
        · obtain ⟨i, hi, rfl⟩ := List.getElem_of_mem hr
          exact (r2 i _ (List.getElem?_eq_getElem hi)).2.1
        · rcases Nat.eq_zero_or_pos len with hz | hp
          · subst hz
            have : rs = [] := List.length_eq_zero_iff.1 r1
            subst this
            exact .nils _ _ _
          · have cellAt : ∀ i j, i < rs.length → j < P.cellsOf e → ∃ v, w.cell? ((a.add (i * P.cellsOf e)).add j) = some v ∧ ∀ (r : List T) x, rs[i]? = some r → r[j]? = some x → VT w (oldFix w) x v := fun i j hi hj => by
              obtain ⟨k1, _, cs', k3, k4⟩ := r2 i _ (List.getElem?_eq_getElem hi)
              obtain ⟨c1, c2⟩ := cells?_get k4
              have hjl : j < cs'.length := by omega
              refine ⟨cs'[j], by rw [c2 j hj]; exact List.getElem?_eq_getElem hjl, fun r x hr hx => ?_⟩
              rw [List.getElem?_eq_getElem hi] at hr
              simp only [Option.some.injEq] at hr; subst hr
              exact k3.2 j x _ hx (List.getElem?_eq_getElem hjl)
            obtain ⟨v0, hv0, _⟩ := cellAt 0 0 (by omega) h0
            have hspot : a.spot = none := by
              have := (cell?_lt hv0).2
              simpa [Addr.add] using this
            obtain ⟨b, off, sp'⟩ := a
            simp only at hspot
            subst hspot
            have hadd : ∀ i j, ((⟨b, off, none⟩ : Addr).add (i * P.cellsOf e)).add j = ⟨b, off + i * P.cellsOf e + j, none⟩ := fun i j => by
              unfold Addr.add
              split <;> split <;> simp_all
            rw [← r1]
            refine .rows (P.cellsOf e) rs b off cap (fun i j => (w.cell? ⟨b, off + i * P.cellsOf e + j, none⟩).getD undef) (by omega) (fun r hr => ?_) (fun i j hi hj => ?_) (fun i j r x hi hj => ?_)
            · obtain ⟨i, hi, rfl⟩ := List.getElem_of_mem hr
              exact (r2 i _ (List.getElem?_eq_getElem hi)).1
            · obtain ⟨v, hv, _⟩ := cellAt i j hi hj
              rw [hadd] at hv
              exact ⟨by rw [hv]; rfl, (cell?_lt hv).1⟩
            · have hi' : i < rs.length := (List.getElem?_eq_some_iff.1 hi).1
              have hj' : j < P.cellsOf e := by
                have := (r2 i r hi).1
                have := (List.getElem?_eq_some_iff.1 hj).1
                omega
              obtain ⟨v, hv, hvv⟩ := cellAt i j hi' hj'
              rw [hadd] at hv
              rw [hv]
              exact hvv r x hi hj
    · rename_i fs hu
      obtain ⟨xs, n', hn, _, hcl, hxl, hxs⟩ := DataW.trod_struct hu h
      obtain rfl : n' = n := by omega
      split at hk
      · rename_i tot htot
        have ht0 : tot = P.cellsOf t := of_decide_eq_true hk
        obtain ⟨pss, q1, q2, _, q4, q5⟩ := fields_conv hl ih cs fs.toList 0 tot htot (by omega) fun i f hf => by
          have hf' : fs[i]? = some f := by simpa using hf
          have hi : i < xs.length := by rw [hxl]; exact (Array.getElem?_eq_some_iff.1 hf').1
          exact ⟨xs[i], by rw [hxs i f hf']; exact List.getElem?_eq_getElem hi⟩
        refine ⟨pss.flatten, by omega, .strct pss hu (by simpa using q1) (fun i f ps hf hp => q4 i f ps (by simpa using hf) hp), by omega, fun j a v ha hv => q5 j a v ha (by rw [Nat.zero_add]; exact hv)⟩
      · cases hk
    · cases hk
end
end Go.Ab

/- A law that answers true, told as its row asks. -/
namespace Go.Ab
open Go Go.ChangeShapes Go.WideShapes Go.RowKit

variable {H : Type} {enc : TypeId × Value → H} {P : Program} {l : List TypeId}

def argD (P : Program) (t : TypeId) (ts : List T) : D :=
  match P.underlying t with
  | some (.struct _) => .agg (ts.map .t)
  | _ => .one (.t (ts.headD .nilp))

def argsD (P : Program) : List TypeId → List (List T) → List D
  | t :: ts, x :: xs => argD P t x :: argsD P ts xs
  | _, _ => []

def ShapeAll (P : Program) : List TypeId → List (List T) → Prop
  | [], [] => True
  | t :: ts, x :: xs => Shape P t x ∧ ShapeAll P ts xs
  | _, _ => False

theorem VL_of {w : World} {F : Fix} {ν : Nu} {ts : List T} {cs : List Value} (h : ts.length = cs.length) (hv : ∀ (j : Nat) a v, ts[j]? = some a → cs[j]? = some v → VT w F a v) : VL (VA w F ν) (ts.map .t) cs := by
  refine ⟨by simp [h], fun k x u hx hu => ?_⟩
  rw [List.getElem?_map, Option.map_eq_some_iff] at hx
  obtain ⟨a, ha, rfl⟩ := hx
  exact hv k a u ha hu

theorem trodAll_len {w : World} {base : Nat} {sp : Nat → Bool} {held : Bool} : ∀ {ts : List TypeId} {vs : List Value} {ds : List (DataW H)} {ps : List MemPlace}, DataW.TrodAll enc P w base sp held ts vs ds ps → ds.length = ts.length
  | [], _, _, _, h => by
    obtain ⟨_, rfl, _⟩ := trodAll_nil h
    rfl
  | _ :: _, _, _, _, h => by
    obtain ⟨_, _, _, _, _, _, rfl, rfl, _, _, h2⟩ := trodAll_cons h
    simp [trodAll_len h2]

theorem arg_conv {w : World} {sp : Nat → Bool} {held : Bool} (hl : treeTypes P l = true) {t : TypeId} {v : Value} {d : DataW H} {p : List MemPlace} {b0 : Nat} (ht : l.contains t = true) (h : DataW.Trod enc P w 0 sp held t v d p) (hval : Value.okWide P w .any b0 t v) :
    ∃ ts, Shape P t ts ∧ VD w (oldFix w) noNu (argD P t ts) v := by
  obtain ⟨n, hn⟩ := h
  obtain ⟨ts, h1, h2, h3⟩ := conv hl n t _ _ ht hn
  refine ⟨ts, h2, ?_⟩
  have hk := List.all_eq_true.1 hl t (by simpa using ht)
  unfold argD
  split
  · rename_i fs hu
    simp only [Value.okWide, hu] at hval
    obtain ⟨cs, rfl, _, _⟩ := hval
    exact ⟨cs, rfl, VL_of h3.1 h3.2⟩
  · rename_i hns
    have hone : v.cells = #[v] := by
      split at hk
      all_goals first
        | (rename_i hu; cases v <;> simp_all [Value.okWide, Cell.okWide, Cell.ok, Value.cells])
        | skip
      all_goals first
        | (rename_i _ hu; cases v <;> simp_all [Value.okWide, Cell.okWide, Cell.ok, Value.cells])
        | skip
    rw [hone] at h3
    have hl1 := h3.1
    simp only [List.length_cons, List.length_nil] at hl1
    obtain ⟨a, rfl⟩ := List.length_eq_one_iff.1 hl1
    exact h3.2 0 a v rfl rfl

theorem args_conv {w : World} {sp : Nat → Bool} {held : Bool} (hl : treeTypes P l = true) {b0 : Nat} : ∀ {ts : List TypeId} {vs : List Value} {ds : List (DataW H)} {p : List MemPlace}, DataW.TrodAll enc P w 0 sp held ts vs ds p → (∀ t ∈ ts, l.contains t = true) →
    (∀ (j : Nat) t v, ts[j]? = some t → vs[j]? = some v → Value.okWide P w .any b0 t v) →
    ∃ tss, ShapeAll P ts tss ∧ (argsD P ts tss).length = vs.length ∧ ∀ (k : Nat) x u, (argsD P ts tss)[k]? = some x → vs[k]? = some u → VD w (oldFix w) noNu x u
  | [], vs, ds, p, h, _, _ => by
    obtain ⟨rfl, _, _⟩ := trodAll_nil h
    exact ⟨[], trivial, rfl, fun k x u hx => by simp [argsD] at hx⟩
  | t :: ts, vs, ds, p, h, hc, hv => by
    obtain ⟨v, vs1, d, ds1, a, b, rfl, rfl, rfl, h1, h2⟩ := trodAll_cons h
    obtain ⟨x, x1, x2⟩ := arg_conv hl (hc t (List.mem_cons_self ..)) h1 (hv 0 t v rfl rfl)
    obtain ⟨tss, q1, q2, q3⟩ := args_conv hl h2 (fun t ht => hc t (List.mem_cons_of_mem _ ht)) fun j t' v' ht' hv' => hv (j + 1) t' v' (by simpa using ht') (by simpa using hv')
    refine ⟨x :: tss, ⟨x1, q1⟩, by simp [argsD, q2], fun k y u hy hu => ?_⟩
    rcases k with - | k
    · simp [argsD] at hy hu; subst hy; subst hu; exact x2
    · exact q3 k y u (by simpa [argsD] using hy) (by simpa using hu)

theorem below_trodAll (hl : laidOutB P = true) {W W' : World} (hb : Below W.heap.size W W') : ∀ {ts : List TypeId} {vs : List Value} {ds : List (DataW H)} {p : List MemPlace}, DataW.TrodAll enc P W 0 (fun _ => true) true ts vs ds p →
    (∀ t ∈ ts, P.readableRec t = true ∧ t < P.types.size) → (∀ x ∈ p, x.block < W.heap.size) → DataW.TrodAll enc P W' 0 (fun b => decide (b < W.heap.size)) true ts vs ds p
  | [], vs, ds, p, h, _, _ => by
    obtain ⟨rfl, rfl, rfl⟩ := trodAll_nil h
    exact trodAll_mk0
  | t :: ts, vs, ds, p, h, hc, hp => by
    obtain ⟨v, vs1, d, ds1, a, b, rfl, rfl, rfl, h1, h2⟩ := trodAll_cons h
    exact trodAll_cons_mk (Below.trod hl (hc t (List.mem_cons_self ..)).1 (hc t (List.mem_cons_self ..)).2 h1 hb fun x hx => hp x (List.mem_append_left _ hx))
      (below_trodAll hl hb h2 (fun t ht => hc t (List.mem_cons_of_mem _ ht)) fun x hx => hp x (List.mem_append_right _ hx))

theorem Frame.below {w w' : World} {F F' : Fix} {ν' : Nu} (h : Frame w F noNu w' F' ν') : Below w.heap.size w w' :=
  ⟨h.os, h.tape, h.output, h.size, fun k hk => h.keep k hk fun _ _ e => by cases e⟩

/-- A law: whatever it is handed, it answers true and leaves all as it was. -/
theorem law_contract {f : FuncId} {fn : Func} {s : ChangeSpec} {tb : TypeId} (hl : treeTypes P l = true) (hps : fn.params.toList.all (fun t => l.contains t) = true) (hlaid : laidOutB P = true)
    (hrd : fn.params.toList.all (fun t => P.readableRec t && decide (t < P.types.size)) = true) (hP : ∀ tss, ShapeAll P fn.params.toList tss → PSp P f (argsD P fn.params.toList tss) (.one (.t (.bool true))))
    (hres : fn.resultTypes = #[tb]) (hb : P.underlying tb = some .bool) (hs : s.vars = []) (hfn : ∀ (H : Type) (ds : List (DataW H)), ds.length = fn.params.toList.length → s.fn H ds = { results := [.lit (.bool true)], args := ds })
    (W : World) (base : Nat) (args : Array Value) (ds gs : List (DataW H)) (before : List MemPlace)
    (hval : ∀ (j : Nat) t v, fn.params[j]? = some t → args[j]? = some v → Value.okWide P W .any base t v)
    (hW : DataW.Whole enc P fn.params.toList s.vars false W args.toList ds gs before) :
    Calls P f args W fun e W' => ∃ v, e = .returned v ∧ s.post enc P fn false true false false W args v W' := by
  have hW' := hW
  have hlt : ∀ x ∈ before, x.block < W.heap.size := hW.lt
  obtain ⟨p, q, hA, hV, rfl, hfz, hnd⟩ := hW
  rw [hs] at hV
  obtain ⟨rfl, rfl⟩ := trodVars_none hV
  obtain ⟨tss, q1, q2, q3⟩ := args_conv (b0 := base) hl hA (fun t ht => List.all_eq_true.1 hps t ht) fun j t v ht hv => hval j t v (by simpa using ht) (by simpa using hv)
  refine (hP tss q1 noHp 0 W (oldFix W) noNu args (Sim.bare (fun _ _ h => h) 0) ⟨by simpa using q2, fun k x u hx hu => q3 k x u hx (by simpa using hu)⟩).mono ?_
  rintro e W' ⟨r, v, h', F', ν', rfl, ⟨rfl, _⟩, _, hv, hfr⟩
  have hbel := Frame.below hfr
  have ev : v = .bool true := by
    have hv' : VT W' F' (.bool true) v := hv
    cases hv'; rfl
  subst ev
  have hlen := trodAll_len hA
  have hfn' := hfn H (ds ++ []) (by simpa using hlen)
  refine ⟨_, rfl, ds, [], p ++ [], [], p, [], hW', ?_, ?_, ?_, hbel.frame _, fun h => by cases h⟩
  · rw [hfn', hres]
    exact trodAll_mk1 (shut_bool hb true)
  · rw [hfn', List.append_nil]
    exact below_trodAll hlaid hbel hA (fun t ht => by simpa using List.all_eq_true.1 hrd t ht) fun x hx => hlt x (by simpa using hx)
  · rw [hfn', hs]; exact rfl
/-! ### Shapes opened -/

theorem Shape.int_inv {t : TypeId} {k : IntKind} {ts : List T} (h : Shape P t ts) (hu : P.underlying t = some (.int k)) : ∃ n, ts = [.int k n] ∧ (Lit.int k n).wf = true := by
  cases h with
  | int n h hw => rw [hu] at h; cases h; exact ⟨n, rfl, hw⟩
  | _ _ h => rw [hu] at h; cases h

theorem Shape.bool_inv {t : TypeId} {ts : List T} (h : Shape P t ts) (hu : P.underlying t = some .bool) : ∃ b, ts = [.bool b] := by
  cases h with
  | bool b h => exact ⟨b, rfl⟩
  | _ _ h => rw [hu] at h; cases h

theorem Shape.str_inv {t : TypeId} {ts : List T} (h : Shape P t ts) (hu : P.underlying t = some .string) : ∃ s, ts = [.str s] ∧ s.size ≤ maxLen := by
  cases h with
  | str s h hw => exact ⟨s, rfl, hw⟩
  | _ _ h => rw [hu] at h; cases h

theorem Shape.slice_inv {t e : TypeId} {ts : List T} (h : Shape P t ts) (hu : P.underlying t = some (.slice e)) : ∃ rs, ts = [.rows (P.cellsOf e) rs] ∧ rs.length ≤ maxLen ∧ ∀ r ∈ rs, Shape P e r := by
  cases h with
  | slice rs h hl hr => rw [hu] at h; cases h; exact ⟨rs, rfl, hl, hr⟩
  | _ _ h => rw [hu] at h; cases h

theorem Shape.strct_inv {t : TypeId} {fs : Array Field} {ts : List T} (h : Shape P t ts) (hu : P.underlying t = some (.struct fs)) :
    ∃ pss : List (List T), ts = pss.flatten ∧ pss.length = fs.size ∧ ∀ (i : Nat) f ps, fs[i]? = some f → pss[i]? = some ps → Shape P f.type ps := by
  cases h with
  | strct pss h hl hp => rw [hu] at h; cases h; exact ⟨pss, rfl, hl, hp⟩
  | _ _ h => rw [hu] at h; cases h

theorem rows_map {α : Type} (g : α → List T) : ∀ {rs : List (List T)}, (∀ r ∈ rs, ∃ x, r = g x) → ∃ l : List α, rs = l.map g
  | [], _ => ⟨[], rfl⟩
  | r :: rs, h => by
    obtain ⟨x, rfl⟩ := h r (List.mem_cons_self ..)
    obtain ⟨l, rfl⟩ := rows_map g fun r hr => h r (List.mem_cons_of_mem _ hr)
    exact ⟨x :: l, rfl⟩
end Go.Ab

/- Facts of the program that each row of the seat asks. -/
namespace Go.Proofs.YtdpbobkcbakpfaaGreatDoor
open Go Go.Ab Go.ChangeShapes Go.WideShapes Go.ChangeAt Go.RowKit
set_option maxRecDepth 100000

theorem cells73 : Tryz.prog.cellsOf 73 = 2 := by kernel_rfl

theorem shape_span {ts : List T} (h : Shape Tryz.prog 73 ts) : ∃ x : Sp, ts = spr x := by
  obtain ⟨pss, rfl, hl, hp⟩ := h.strct_inv Tryz.underlying73
  match pss, hl, hp with
  | [p0, p1], _, hp =>
    obtain ⟨a, rfl, _⟩ := (hp 0 _ p0 rfl rfl).int_inv Tryz.underlying3
    obtain ⟨b, rfl, _⟩ := (hp 1 _ p1 rfl rfl).int_inv Tryz.underlying3
    exact ⟨(a, b), rfl⟩

theorem shape_spans {ts : List T} (h : Shape Tryz.prog 37 ts) : ∃ l : List Sp, ts = [spans l] := by
  obtain ⟨rs, rfl, _, hr⟩ := h.slice_inv Tryz.underlying37
  obtain ⟨l, rfl⟩ := rows_map spr fun r hr' => shape_span (hr r hr')
  exact ⟨l, by rw [cells73]; rfl⟩

theorem band {a b : Bool} (ha : a = true) (hb : b = true) : (a && b) = true := by rw [ha, hb]; rfl

noncomputable abbrev PG : Program := Tryz.pinned.checked.prog
theorem own : ownKnob Tryz.prog.godebug = none := by kernel_rfl
theorem laidOut : laidOutB Tryz.prog = true := by kernel_rfl
theorem pLaidOut : laidOutB PG = true := laidOut
theorem pMapsRowed : mapsRowed PG = true := by kernel_rfl
theorem pStops : (PG.stops == []) = true := by kernel_rfl
theorem pStopKnobs : (PG.stopKnobs == []) = true := by kernel_rfl
theorem pPlainKeys : PG.plainKeys = true := by kernel_rfl
theorem pHeard : PG.stopsHeard = true := by kernel_rfl
theorem pMayEnter : PG.mayEnter = true := by kernel_rfl
theorem pLifts : (Rows.limitsSpansRow.lifted == PG.liftsFinal) = true := by kernel_rfl
theorem pMake : (PG.make == some Rows.limitsSpansRow.make) = true := by kernel_rfl
end Go.Proofs.YtdpbobkcbakpfaaGreatDoor

namespace Go.Proofs.YtdpbobkcbakpfaaGreatDoor
open Go Go.Ab Go.ChangeShapes Go.WideShapes Go.ChangeAt Go.RowKit
set_option maxRecDepth 100000
namespace lawSpans
theorem trees : treeTypes Tryz.prog [3, 37, 73] = true := by kernel_rfl
theorem reads6 : (Tryz.f6.params.toList.all fun t => Tryz.prog.readableRec t && decide (t < Tryz.prog.types.size)) = true := by kernel_rfl

theorem shapes (tss : List (List T)) (h : ShapeAll Tryz.prog Tryz.f6.params.toList tss) : PSp Tryz.prog 6 (argsD Tryz.prog Tryz.f6.params.toList tss) (.one (.t (.bool true))) := by
  rw [Tryz.params6] at h ⊢
  match tss, h with
  | [x, y, z], h =>
    obtain ⟨h1, h2, h3, _⟩ := h
    obtain ⟨op, rfl, _⟩ := h1.int_inv Tryz.underlying3
    obtain ⟨a, rfl⟩ := shape_spans h2
    obtain ⟨b, rfl⟩ := shape_spans h3
    have e : argsD Tryz.prog [3, 37, 37] [[T.int .i64 op], [spans a], [spans b]] = [.one (.t (I op)), .one (.t (spans a)), .one (.t (spans b))] := by
      simp [argsD, argD, Tryz.underlying3, Tryz.underlying37]
    show PSp Tryz.prog 6 (argsD Tryz.prog [3, 37, 37] [[T.int .i64 op], [spans a], [spans b]]) _
    rw [e]
    exact limitsSpansP awakeP op a b

theorem contract (H : Type) (enc : TypeId × Value → H) (W : World) (base : Nat) (args : Array Value) (ds gs : List (DataW H)) (before : List MemPlace)
    (hval : ∀ (j : Nat) t v, Tryz.f6.params[j]? = some t → args[j]? = some v → Value.okWide Tryz.prog W .any base t v)
    (hW : DataW.Whole enc Tryz.prog Tryz.f6.params.toList Rows.limitsSpansSpec.vars false W args.toList ds gs before) :
    Calls Tryz.prog 6 args W fun e W' => ∃ v, e = .returned v ∧ Rows.limitsSpansSpec.post enc Tryz.prog Tryz.f6 false true false false W args v W' :=
  law_contract (l := [3, 37, 73]) trees (by kernel_rfl) laidOut reads6 shapes rfl Tryz.underlying4 rfl (fun H ds hl => by
    match ds, hl with
    | [d1, d2, d3], _ => rfl) W base args ds gs before hval hW

noncomputable def world (os : Os) : World := World.laidAll Tryz.prog os Rows.limitsSpansRow.laid
def args0 : Array Value := #[.int .i64 0, .slice none 0 0, .slice none 0 0]
theorem laid_met (os : Os) : laidMetH Tryz.prog Rows.limitsSpansRow.laid ((world os).forCall (fun _ _ => 0) ⟨#[], args0, []⟩).memory := by
  rw [MakeChecks.laidMetH_plain _ _ _ (by kernel_rfl)]
  exact laidMet_laidAll _ (by kernel_rfl) (by kernel_rfl)
theorem reads (os : Os) {H : Type} (enc : TypeId × Value → H) : DataW.whole enc Tryz.prog ((world os).forCall (fun _ _ => 0) ⟨#[], args0, []⟩).memory Tryz.f6.params.toList (OpenSpec.ofChange Rows.limitsSpansSpec).vars false args0.toList 8 = some ([.lit (.int .i64 0), .nil, .nil], [], []) := by kernel_rfl
theorem witness1 (os : Os) : ((world os).forCall (fun _ _ => 0) ⟨#[], args0, []⟩).Shaped Tryz.prog := World.shaped_of_ZipB (by kernel_rfl) (by kernel_rfl)

theorem pre (os : Os) (H : Type) (enc : TypeId × Value → H) : (OpenSpec.ofChange Rows.limitsSpansSpec).preRow enc Tryz.prog Tryz.f6 Rows.limitsSpansRow.domain false Rows.limitsSpansRow.laid ((world os).forCall (fun _ _ => 0) ⟨#[], args0, []⟩).memory args0 :=
  OpenSpec.preRow_of_cond 8 (reads os enc) (by kernel_rfl) (fun k hk => by cases hk) (by kernel_rfl) (laid_met os)

theorem okIn (os : Os) : Input.okWideB Tryz.prog ((world os).forCall (fun _ _ => 0) ⟨#[], args0, []⟩) 6 ⟨#[], args0, []⟩ = true := by kernel_rfl

theorem lifted (os : Os) (started : os.Started) (H : Type) (enc : TypeId × Value → H) (F : Stop.Interp) :
    ReturnsInHanded {} Tryz.checked os 6 .any ((OpenSpec.ofChange Rows.limitsSpansSpec).preRow enc Tryz.prog Tryz.f6 Rows.limitsSpansRow.domain false Rows.limitsSpansRow.laid) (((OpenSpec.ofChange Rows.limitsSpansSpec).at F).post enc Tryz.prog Tryz.f6 false true false false) := by
  refine returnsInHanded_of_row (C := Tryz.checked) (s := OpenSpec.ofChange Rows.limitsSpansSpec) own started (by kernel_rfl) Tryz.func6
    ⟨world os, fun _ _ => 0, ⟨#[], args0, []⟩, World.laidAll_os _ _ _, witness1 os, rfl, (Input.okWide_of_okWideB (okIn os)).2, pre os H enc, by
      simp only [Assume.holds]
      refine ⟨?_, ?_, ?_, ?_, ?_, ?_⟩ <;> first | (intro h; cases h; done) | (intro d h; cases h; done)⟩ ?_
  intro W base args ds gs before hval hW _ _ _ _ _ _
  exact contract H enc W base args ds gs before hval hW

theorem wf : Rows.limitsSpansRow.wf (OpenSpec.ofChange (OpenSpec.ofChange Rows.limitsSpansSpec).bare) = true := by kernel_rfl
theorem inPlace : (Rows.limitsSpansRow.inPlace == PG.inPlace 6) = true := by kernel_rfl
theorem unfollowed : (Rows.limitsSpansRow.unfollowed == PG.unfollowed 6) = true := by kernel_rfl
theorem recurses : (Rows.limitsSpansRow.recurses == PG.recurses 6) = true := by kernel_rfl
theorem named : (Rows.limitsSpansRow.named == PG.varsNamed 6) = true := by kernel_rfl
theorem tie6 : namedTie PG Rows.limitsSpansRow.named (OpenSpec.ofChange Rows.limitsSpansSpec).bare.vars = true := by kernel_rfl

theorem closed : joinedFacts PG 6 Tryz.f6 (OpenSpec.ofChange Rows.limitsSpansSpec).bare Rows.limitsSpansRow = true := by
  unfold joinedFacts
  refine band (band (band (band (band (band (band (band (band (band (band (band (band (band (band (band (band (band (band (band (band (band (band (band (band (band (band (band (band (band (band wf pLaidOut) pMapsRowed) ?_) tie6) ?_) pStops) ?_) pStopKnobs) inPlace) unfollowed) recurses) named) ?_) ?_) ?_) ?_) ?_) ?_) ?_) ?_) ?_) ?_) ?_) pHeard) pMayEnter) pLifts) pMake) ?_) ?_) ?_) ?_
  all_goals kernel_rfl

theorem said : Rows.LimitsSpansSaid :=
  OpenClaim.holds_of_cond 6 Tryz.f6 rfl rfl rfl rfl rfl rfl rfl ⟨rfl, rfl, rfl, rfl, rfl⟩ rfl rfl rfl rfl rfl (by kernel_rfl) Tryz.func6 closed
    (of_decide_eq_true (by kernel_rfl)) (by unfold Func.isWrapper; first | (rw [if_pos (by decide +kernel)]; kernel_rfl) | (rw [if_neg (by decide +kernel)]; exact ⟨rfl, rfl⟩))
    (fun os started H enc _ F => by rw [OpenClaim.pre_eq_preRow]; exact lifted os started H enc F)

theorem plain (f : FuncId) (fn : Func) (hf : Tryz.pinned.checked.prog.funcNamed "examiner/examinerlaw04.LimitsSpans" = some f) (hfn : Tryz.pinned.checked.prog.funcs[f]? = some fn) :
    false = Tryz.pinned.checked.prog.looks [] ∧ ∀ (j : Nat) t, fn.params[j]? = some t → Tryz.pinned.checked.prog.wantsStandIn t = false := by
  obtain rfl : f = 6 := Option.some.inj ((show Tryz.prog.funcNamed "examiner/examinerlaw04.LimitsSpans" = some 6 by kernel_rfl).symm.trans hf) |>.symm
  obtain rfl : fn = Tryz.f6 := (Option.some.inj (Tryz.func6.symm.trans hfn)).symm
  refine ⟨by kernel_rfl, fun j t ht => ?_⟩
  rw [Tryz.params6] at ht
  have : t = 3 ∨ t = 37 := by simpa using Array.mem_of_getElem? ht
  rcases this with rfl | rfl
  · exact (show Tryz.prog.wantsStandIn 3 = false by kernel_rfl)
  · exact (show Tryz.prog.wantsStandIn 37 = false by kernel_rfl)

/-- The card. -/
theorem card : Rows.LimitsSpansCardSaid :=
  Claim7.holds_tied_plain_at .later [] _ _ _ _ said (fun _ h => by cases h) (by kernel_rfl) (fun _ h => by cases h) limitsSpans_row_tie rfl ⟨rfl, rfl⟩ (by kernel_rfl) rfl plain (by kernel_rfl)
end lawSpans
#print axioms lawSpans.card
end Go.Proofs.YtdpbobkcbakpfaaGreatDoor

