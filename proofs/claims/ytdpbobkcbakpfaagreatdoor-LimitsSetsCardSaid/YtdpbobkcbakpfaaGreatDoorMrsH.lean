/- Texts of this proof, laid one behind the other (Ck, Tp, Tq, Li1, Li2, Li3, Li4, Li5, Li6, Li7, Li8, Ab188, Ab189, Ab190, RoS, Ro1, CO, Sa, Sd, Pd, Na2, Sg, Sg2, Nb2). -/
import Derived.Carry
import Derived.ReadAgain
import Derived.ChangeArms
import Derived.OpenShut
import Derived.ProofKit
import Derived.Deep.DeepHandedRow
import Derived.Test.YtdpbobkcbakpfaaGreatDoorCards
import Derived.Test.YtdpbobkcbakpfaaGreatDoorTie
import Derived.Lay
import Derived.JoinedCond
import Derived.Shelf.Vars
import Derived.Test.YtdpbobkcbakpfaaGreatDoorProg
import Derived.Sort.AssemblyPlain
import Derived.Sort.LotD5
import Derived.Test.YtdpbobkcbakpfaaGreatDoorMrsG
namespace Go.Proofs.YtdpbobkcbakpfaaGreatDoor
open Go Go.Ab
set_option maxRecDepth 100000
set_option maxHeartbeats 4000000
attribute [local simp] bL aM aS aK aY aO bI tyC fdC vlC ndC aP D.dQ D.pt
structure CK (t : Ty) (ab : List Int) (id sid ver : Nat) (h : Hp) : Prop where
 obj : h id = some (.arr 0 false 9 [tyC t ++ [.ref sid ver 0 ab.length 1 true]])
 abs : h sid = some (.arr ver false 1 (ab.map fun a => [.t (I a)]))
 len : ab.length = t.limits.length
def dZ (tk k a : Int) : Bool := if k == 0 then a == 0 || a == 3 || a == 4 else if k == 1 then a == 1 || a == 4 else if k == 2 then a == 1 || a == 2 else if k == 3 then a == 1 && tk == 6 else true
theorem eL {α : Type} {l : List α} {g : α → List A} {i : Nat} {y : α} (h : l[i]? = some y) : ∀ hh, (l.map g)[i]'hh = g y := fun hh => by
 rw [List.getElem_map]; congr 1
 have := List.getElem?_eq_some_iff.1 h
 exact this.2
attribute [local simp] c108 in
theorem aVB (t : Ty) (ab : List Int) (id sid ver : Nat) (h : Hp) (hc : CK t ab id sid ver h) (i : Nat) (x : Nd) (a : Int) (hx : t.limits[i]? = some x) (ha : ab[i]? = some a) (n : Nat) :
  ISp Tryz.prog 108 h n [.one (.ptr ⟨id, 0, 9, 0, 0⟩), .one (.t (I i))] (.one (.t (.bool (dZ t.kind x.k a)))) h := by
 obtain ⟨R0, hR0⟩ : ∃ R, dZ t.kind x.k a = R := ⟨_, rfl⟩
 rw [hR0]
 refine ISp.ok fun ho => ?_
 have h1 := fK ho hc.obj
 have h2 := fK ho hc.abs
 refine k108.kU (by simp) ?_
 obtain ⟨o1, o2, o3, o4⟩ := aF hc.obj
 obtain ⟨p1, p2, p3, p4⟩ := aF hc.abs
 obtain ⟨hi, _⟩ := List.getElem?_eq_some_iff.1 hx
 have hiI : (i : Int) < (t.limits.length : Int) := by omega
 have hia : i < ab.length := by rw [hc.len]; exact hi
 have nO : (i : Int) < (ab.length : Int) := by omega
 obtain ⟨a0, e0⟩ : ∃ y, (a == 0) = y := ⟨_, rfl⟩
 obtain ⟨a1, e1⟩ : ∃ y, (a == 1) = y := ⟨_, rfl⟩
 obtain ⟨a2, e2⟩ : ∃ y, (a == 2) = y := ⟨_, rfl⟩
 obtain ⟨a3, e3⟩ : ∃ y, (a == 3) = y := ⟨_, rfl⟩
 obtain ⟨a4, e4⟩ : ∃ y, (a == 4) = y := ⟨_, rfl⟩
 have fin : ∀ (R : Bool) (st : St), dZ t.kind x.k a = R → st.tmps 4 = .one (.t (.bool R)) → st.heap = h → jF [.tmp 4] (.one (.t (.bool R0))) h n .ret st := fun R st hR hs hh => by
  rw [← hR0, hR]
  exact dG (.inr rfl) hs (fun j hj => by rw [hh]) ho
 rcases eqCases x.k 0 with q0 | q0
 ·cases a0 <;> cases a3 <;> cases a4
  all_goals simp -implicitDefEqProofs [-aA, -gval, o1, o2, o3, p1, p2, p3, hi, hiI, hia, nO, eL ha, aE hx, Nd.row, q0, e0, e3, e4, -List.getElem_map]
  all_goals
   refine fin _ _ ?_ (by exact rfl) (by exact rfl)
   simp [dZ, q0, e0, e3, e4]
 ·rcases eqCases x.k 1 with q1 | q1
  ·cases a1 <;> cases a4
   all_goals simp -implicitDefEqProofs [-aA, -gval, o1, o2, o3, p1, p2, p3, hi, hiI, hia, nO, eL ha, aE hx, Nd.row, q1, e1, e4, -List.getElem_map]
   all_goals
    refine fin _ _ ?_ (by exact rfl) (by exact rfl)
    simp [dZ, q1, e1, e4]
  ·rcases eqCases x.k 2 with q2 | q2
   ·cases a1 <;> cases a2
    all_goals simp -implicitDefEqProofs [-aA, -gval, o1, o2, o3, p1, p2, p3, hi, hiI, hia, nO, eL ha, aE hx, Nd.row, q2, e1, e2, -List.getElem_map]
    all_goals
     refine fin _ _ ?_ (by exact rfl) (by exact rfl)
     simp [dZ, q2, e1, e2]
   ·rcases eqCases x.k 3 with q3 | q3
    ·obtain ⟨w, ew⟩ : ∃ w, (t.kind == 6) = w := ⟨_, rfl⟩
     cases a1 <;> cases w
     all_goals simp -implicitDefEqProofs [-aA, -gval, o1, o2, o3, p1, p2, p3, hi, hiI, hia, nO, eL ha, aE hx, Nd.row, q3, e1, ew, -List.getElem_map]
     all_goals
      refine fin _ _ ?_ (by exact rfl) (by exact rfl)
      simp [dZ, q3, e1, ew]
    ·simp -implicitDefEqProofs [-aA, -gval, o1, o2, o3, p1, p2, p3, hi, hiI, hia, nO, eL ha, aE hx, Nd.row, q0, q1, q2, q3, -List.getElem_map]
     refine fin _ _ ?_ (by exact rfl) (by exact rfl)
     simp [dZ, q0, q1, q2, q3]
end Go.Proofs.YtdpbobkcbakpfaaGreatDoor

namespace Go.Proofs.YtdpbobkcbakpfaaGreatDoor
open Go Go.Ab
set_option maxRecDepth 100000
set_option maxHeartbeats 4000000
structure yI (bg : List Nat) (i : Nat) (args : List Int) : Prop where
 le : bg.getD i 0 ≤ i
 cover : ∀ j, bg.getD i 0 ≤ j → j < i → ∃ a : Nat, (a : Int) ∈ args ∧ bg.getD a 0 ≤ j ∧ j ≤ a
 arg : ∀ a ∈ args, ∃ c : Nat, a = (c : Int) ∧ c < i ∧ bg.getD i 0 ≤ bg.getD c 0
 apart : args.Pairwise fun a b => a < (bg.getD b.toNat 0 : Int)
theorem yJ (bg : List Nat) (hb : ∀ j, bg.getD j 0 ≤ j) : ∀ (r : List Int) (n m : Nat), jI bg r n = some m →
  m ≤ n ∧ (∀ j, m ≤ j → j < n → ∃ a : Nat, (a : Int) ∈ r ∧ bg.getD a 0 ≤ j ∧ j ≤ a) ∧ (∀ a ∈ r, ∃ c : Nat, a = (c : Int) ∧ c < n ∧ m ≤ bg.getD c 0) ∧ r.Pairwise fun a b => b < (bg.getD a.toNat 0 : Int)
 | [], n, m, h => by
  simp only [jI, Option.some.injEq] at h
  subst h
  exact ⟨Nat.le_refl _, fun j h1 h2 => by omega, by simp, by simp⟩
 | a :: r, n, m, h => by
  rw [jI] at h
  split at h
  ·exact absurd h (by simp)
  ·rename_i hc
   have h0 : ¬ n = 0 := fun e => hc (.inl e)
   have ha : a = (n : Int) - 1 := Classical.byContradiction fun e => hc (.inr e)
   obtain ⟨i1, i2, i3, i4⟩ := yJ bg hb r _ m h
   have hn := hb (n - 1)
   have hac : a = ((n - 1 : Nat) : Int) := by omega
   refine ⟨by omega, fun j h1 h2 => ?_, fun x hx => ?_, ?_⟩
   ·by_cases hj : bg.getD (n - 1) 0 ≤ j
    ·exact ⟨n - 1, by rw [hac]; simp, hj, by omega⟩
    ·obtain ⟨c, c1, c2, c3⟩ := i2 j h1 (by omega)
     exact ⟨c, List.mem_cons_of_mem _ c1, c2, c3⟩
   ·rcases List.mem_cons.1 hx with e | e
    ·exact ⟨n - 1, by rw [e]; exact hac, by omega, i1⟩
    ·obtain ⟨c, c1, c2, c3⟩ := i3 x e
     exact ⟨c, c1, by omega, c3⟩
   ·refine List.pairwise_cons.2 ⟨fun x hx => ?_, i4⟩
    obtain ⟨c, c1, c2, c3⟩ := i3 x hx
    rw [hac, c1]
    have : ((n - 1 : Nat) : Int).toNat = n - 1 := by simp
    rw [this]
    omega
theorem aHU {α : Type} (l : List α) (x : α) (d : α) (i : Nat) (h : i < l.length) : (l ++ [x]).getD i d = l.getD i d := by
 simp only [List.getD_eq_getElem?_getD, List.getElem?_append_left h]
theorem aHV {α : Type} (l : List α) (x : α) (d : α) : (l ++ [x]).getD l.length d = x := by
 simp [List.getD_eq_getElem?_getD]
theorem sX : ∀ (r p : List Nd) (bg out : List Nat), bg.length = p.length → (∀ j, bg.getD j 0 ≤ j) → (∀ i x, p[i]? = some x → yI bg i x.args) → eP r bg = some out →
  out.length = (p ++ r).length ∧ (∀ j, out.getD j 0 ≤ j) ∧ ∀ i x, (p ++ r)[i]? = some x → yI out i x.args
 | [], p, bg, out, hl, hb, hp, h => by
  simp only [eP, Option.some.injEq] at h
  subst h
  simp only [List.append_nil]
  exact ⟨hl, hb, hp⟩
 | x :: r, p, bg, out, hl, hb, hp, h => by
  rw [eP] at h
  split at h
  ·split at h
   ·exact absurd h (by simp)
   ·rename_i hx n hn
    obtain ⟨b1, b2, b3, b4⟩ := yJ bg hb _ _ _ hn
    have hout : (bg ++ [n]).length = (p ++ [x]).length := by simp [hl]
    have old : ∀ j, j < bg.length → (bg ++ [n]).getD j 0 = bg.getD j 0 := fun j hj => aHU bg n 0 j hj
    have new : (bg ++ [n]).getD bg.length 0 = n := aHV bg n 0
    have hbn : ∀ j, (bg ++ [n]).getD j 0 ≤ j := fun j => by
     rcases Nat.lt_trichotomy j bg.length with q | q | q
     ·rw [old j q]; exact hb j
     ·rw [q, new]; omega
     ·have : (bg ++ [n]).getD j 0 = 0 := by
       simp only [List.getD_eq_getElem?_getD]
       rw [List.getElem?_eq_none (by simp; omega)]; rfl
      omega
    have := sX r (p ++ [x]) (bg ++ [n]) out hout hbn ?_ h
    ·simpa [List.append_assoc] using this
    ·intro i y hy
     by_cases hi : i < p.length
     ·rw [List.getElem?_append_left hi] at hy
      obtain ⟨q1, q2, q3, q4⟩ := hp i y hy
      have ei := old i (by omega)
      refine ⟨by rw [ei]; exact q1, fun j j1 j2 => ?_, fun a ha => ?_, ?_⟩
      ·rw [ei] at j1
       obtain ⟨c, c1, c2, c3⟩ := q2 j j1 j2
       obtain ⟨c', d1, d2, d3⟩ := q3 c c1
       exact ⟨c, c1, by rw [old c (by omega)]; exact c2, c3⟩
      ·obtain ⟨c', d1, d2, d3⟩ := q3 a ha
       exact ⟨c', d1, d2, by rw [ei, old c' (by omega)]; exact d3⟩
      ·refine List.Pairwise.imp_of_mem ?_ q4
       intro a b ha hbm hab
       obtain ⟨c', d1, d2, d3⟩ := q3 b hbm
       have : b.toNat = c' := by omega
       rw [this] at hab ⊢
       rw [old c' (by omega)]
       exact hab
     ·have hi2 : i = p.length := by
       have := (List.getElem?_eq_some_iff.1 hy).1
       simp at this; omega
      subst hi2
      have : y = x := by simpa using hy.symm
      subst this
      have en : (bg ++ [n]).getD p.length 0 = n := by rw [← hl]; exact new
      refine ⟨by rw [en]; omega, fun j j1 j2 => ?_, fun a ha => ?_, ?_⟩
      ·rw [en] at j1
       obtain ⟨c, c1, c2, c3⟩ := b2 j j1 (by omega)
       obtain ⟨c', d1, d2, d3⟩ := b3 c c1
       exact ⟨c, by simpa using c1, by rw [old c (by omega)]; exact c2, c3⟩
      ·obtain ⟨c', d1, d2, d3⟩ := b3 a (by simpa using ha)
       exact ⟨c', d1, by omega, by rw [en, old c' (by omega)]; exact d3⟩
      ·have := List.pairwise_reverse.1 b4
       refine List.Pairwise.imp_of_mem ?_ this
       intro a b ha hbm hab
       obtain ⟨c', d1, d2, d3⟩ := b3 b (by simpa using hbm)
       have : b.toNat = c' := by omega
       rw [this] at hab ⊢
       rw [old c' (by omega)]
       exact hab
  ·exact absurd h (by simp)
structure iG (l : List Nd) (bg : List Nat) : Prop where
 node : ∀ i x, l[i]? = some x → yI bg i x.args
 root : bg.getD (l.length - 1) 0 = 0
theorem cZ {l : List Nd} (h : bE l = true) : l.length ≤ 20 ∧ ∃ bg, iG l bg := by
 simp only [bE, Bool.and_eq_true, decide_eq_true_eq] at h
 refine ⟨h.1, ?_⟩
 obtain ⟨_, h⟩ := h
 split at h
 ·exact absurd h (by simp)
 ·rename_i bg hbg
  obtain ⟨_, _, h3⟩ := sX l [] [] bg rfl (by simp) (by simp) hbg
  rw [decide_eq_true_eq] at h
  rcases h with h | h
  ·have : l = [] := List.length_eq_zero_iff.1 h
   subst this
   exact ⟨[], by simp, by simp⟩
  ·exact ⟨bg, by simpa using h3, h⟩
theorem iG.nest {l : List Nd} {bg : List Nat} (h : iG l bg) : ∀ (i : Nat) (x : Nd), l[i]? = some x → ∀ p, bg.getD i 0 ≤ p → p ≤ i → bg.getD i 0 ≤ bg.getD p 0 := by
 intro i
 induction i using Nat.strongRecOn with
 | _ i ih =>
  intro x hx p h1 h2
  rcases Nat.lt_or_eq_of_le h2 with q | q
  ·obtain ⟨c, c1, c2, c3⟩ := (h.node i x hx).cover p h1 q
   obtain ⟨c', d1, d2, d3⟩ := (h.node i x hx).arg c c1
   have e : c' = c := by omega
   subst e
   have hlt := (List.getElem?_eq_some_iff.1 hx).1
   have hc : l[c']? = some (l[c']'(by omega)) := List.getElem?_eq_getElem _
   exact Nat.le_trans d3 (ih c' d2 _ hc p c2 c3)
  ·subst q; exact Nat.le_refl _
theorem iG.parent {l : List Nd} {bg : List Nat} (h : iG l bg) : ∀ (i : Nat) (x : Nd), l[i]? = some x → ∀ j, bg.getD i 0 ≤ j → j < i → ∃ p y, p ≤ i ∧ j < p ∧ l[p]? = some y ∧ (j : Int) ∈ y.args := by
 intro i
 induction i using Nat.strongRecOn with
 | _ i ih =>
  intro x hx j h1 h2
  obtain ⟨c, c1, c2, c3⟩ := (h.node i x hx).cover j h1 h2
  obtain ⟨c', d1, d2, d3⟩ := (h.node i x hx).arg c c1
  have e : c' = c := by omega
  subst e
  rcases Nat.lt_or_eq_of_le c3 with q | q
  ·have hlt := (List.getElem?_eq_some_iff.1 hx).1
   have hc : l[c']? = some (l[c']'(by omega)) := List.getElem?_eq_getElem _
   obtain ⟨p, y, e1, e2, e3, e4⟩ := ih c' d2 _ hc j c2 q
   exact ⟨p, y, by omega, e2, e3, e4⟩
  ·subst q
   exact ⟨i, x, Nat.le_refl _, h2, hx, c1⟩
theorem aK9 {bg : List Nat} {args : List Int} (h : args.Pairwise fun a b => a < (bg.getD b.toNat 0 : Int)) (c d : Nat) (hc : (c : Int) ∈ args) (hd : (d : Int) ∈ args) (hne : c ≠ d) : c < bg.getD d 0 ∨ d < bg.getD c 0 := by
 induction h with
 | nil => cases hc
 | cons h1 _ ih =>
  rcases List.mem_cons.1 hc with e | e <;> rcases List.mem_cons.1 hd with f | f
  ·omega
  ·left
   have := h1 _ f
   rw [← e] at this
   have t : ((d : Nat) : Int).toNat = d := by simp
   rw [t] at this
   omega
  ·right
   have := h1 _ e
   rw [← f] at this
   have t : ((c : Nat) : Int).toNat = c := by simp
   rw [t] at this
   omega
  ·exact ih e f
theorem iG.only {l : List Nd} {bg : List Nat} (h : iG l bg) {p q : Nat} {x y : Nd} (hp : l[p]? = some x) (hq : l[q]? = some y) {c : Nat} (hcx : (c : Int) ∈ x.args) (hcy : (c : Int) ∈ y.args) : ¬ p < q := by
 intro hpq
 obtain ⟨c1, d1, d2, d3⟩ := (h.node p x hp).arg c hcx
 obtain ⟨c2, e1, e2, e3⟩ := (h.node q y hq).arg c hcy
 have : c1 = c := by omega
 subst this
 have : c2 = c1 := by omega
 subst this
 have hlt := (List.getElem?_eq_some_iff.1 hq).1
 have hlc : l[c2]? = some (l[c2]'(by omega)) := List.getElem?_eq_getElem _
 have hle := (h.node c2 _ hlc).le
 obtain ⟨d, f1, f2, f3⟩ := (h.node q y hq).cover p (by omega) hpq
 obtain ⟨d', g1, g2, g3⟩ := (h.node q y hq).arg d f1
 have : d' = d := by omega
 subst this
 have hld : l[d']? = some (l[d']'(by omega)) := List.getElem?_eq_getElem _
 have n1 := h.nest d' _ hld p f2 f3
 rcases aK9 (h.node q y hq).apart c2 d' hcy f1 (by omega) with a | a <;> omega
theorem iG.one {l : List Nd} {bg : List Nat} (h : iG l bg) {p q : Nat} {x y : Nd} (hp : l[p]? = some x) (hq : l[q]? = some y) {c : Nat} (hcx : (c : Int) ∈ x.args) (hcy : (c : Int) ∈ y.args) : p = q := by
 have a := h.only hp hq hcx hcy
 have b := h.only hq hp hcy hcx
 omega
structure Lab (l : List Nd) (f : Int → Int → Int) (L : Nat → Int) (i b : Nat) : Prop where
 edge : ∀ p x, b ≤ p → p ≤ i → l[p]? = some x → ∀ c : Nat, (c : Int) ∈ x.args → L c = f x.k (L p)
theorem Lab.rel {l : List Nd} {bg : List Nat} (h : iG l bg) {f g : Int → Int → Int} {L M : Nat → Int} (R : Int → Int → Prop) (hL : Lab l f L (l.length - 1) 0) (hM : Lab l g M (l.length - 1) 0)
  (hr : R (L (l.length - 1)) (M (l.length - 1))) (hs : ∀ (p : Nat) (x : Nd), l[p]? = some x → ∀ a b, R a b → R (f x.k a) (g x.k b)) : ∀ i, i < l.length → R (L i) (M i) := by
 have : ∀ d i, i < l.length → l.length - 1 - i ≤ d → R (L i) (M i) := by
  intro d
  induction d with
  | zero =>
   intro i hi hd
   have : i = l.length - 1 := by omega
   rw [this]; exact hr
  | succ d ih =>
   intro i hi hd
   by_cases e : i = l.length - 1
   ·rw [e]; exact hr
   ·have hroot : l[l.length - 1]? = some (l[l.length - 1]'(by omega)) := List.getElem?_eq_getElem _
    obtain ⟨p, y, e1, e2, e3, e4⟩ := h.parent _ _ hroot i (by rw [h.root]; omega) (by omega)
    rw [hL.edge p y (by omega) e1 e3 i e4, hM.edge p y (by omega) e1 e3 i e4]
    exact hs p y e3 _ _ (ih p (by omega) (by omega))
 exact fun i hi => this _ i hi (Nat.le_refl _)
def lk (L : List Int) (i : Nat) : Int := L.getD i 0
theorem rX (L : List Int) (i j : Nat) (v : Int) (hi : i < L.length) : lk (L.set i v) j = if j = i then v else lk L j := by
 simp only [lk, List.getD_eq_getElem?_getD, List.getElem?_set]
 by_cases e : i = j
 ·subst e; simp [hi]
 ·have q : ¬ j = i := fun q => e q.symm
  simp [e, q]
def dE (f : Int → Int → Int) (l : List Nd) : Nat → Nat → Int → List Int → List Int
 | 0, _, _, ab => ab
 | n + 1, i, a, ab => match l[i]? with
  | none => ab
  | some x => x.args.foldl (fun b (c : Int) => dE f l n c.toNat (f x.k a) b) (ab.set i a)
theorem kH (f : Int → Int → Int) (l : List Nd) : ∀ (n i : Nat) (a : Int) (ab : List Int), (dE f l n i a ab).length = ab.length := by
 intro n
 induction n with
 | zero => intro i a ab; rfl
 | succ n ih =>
  intro i a ab
  rw [dE]
  split
  ·rfl
  ·rename_i x _
   have : ∀ (cs : List Int) (b : List Int), (cs.foldl (fun b (c : Int) => dE f l n c.toNat (f x.k a) b) b).length = b.length := by
    intro cs
    induction cs with
    | nil => intro b; rfl
    | cons c cs ihc => intro b; rw [List.foldl_cons, ihc, ih]
   rw [this, List.length_set]
theorem sY {f : Int → Int → Int} {l : List Nd} {bg : List Nat} (h : iG l bg) : ∀ (n i : Nat) (a : Int) (ab : List Int), i < n → i < l.length → ab.length = l.length →
  (∀ j, ¬ (bg.getD i 0 ≤ j ∧ j ≤ i) → lk (dE f l n i a ab) j = lk ab j) ∧ lk (dE f l n i a ab) i = a ∧ Lab l f (lk (dE f l n i a ab)) i (bg.getD i 0) := by
 intro n
 induction n with
 | zero => intro i a ab hi; omega
 | succ n ih =>
  intro i a ab hn hi hab
  have hx : l[i]? = some (l[i]'hi) := List.getElem?_eq_getElem _
  generalize l[i]'hi = x at hx
  have N := h.node i x hx
  rw [dE, hx]
  simp only
  -- the arguments one after another
  have key : ∀ (cs : List Int) (b : List Int), cs.Pairwise (fun a b => a < (bg.getD b.toNat 0 : Int)) → (∀ c ∈ cs, c ∈ x.args) → b.length = l.length →
    (∀ j : Nat, (∀ c ∈ cs, ¬ ((bg.getD c.toNat 0 : Int) ≤ j ∧ (j : Int) ≤ c)) → lk (cs.foldl (fun b (c : Int) => dE f l n c.toNat (f x.k a) b) b) j = lk b j) ∧
    (∀ c ∈ cs, lk (cs.foldl (fun b (c : Int) => dE f l n c.toNat (f x.k a) b) b) c.toNat = f x.k a ∧ Lab l f (lk (cs.foldl (fun b (c : Int) => dE f l n c.toNat (f x.k a) b) b)) c.toNat (bg.getD c.toNat 0)) := by
   intro cs
   induction cs with
   | nil => intro b _ _ _; exact ⟨fun j _ => rfl, fun c hc => by cases hc⟩
   | cons c cs ihc =>
    intro b hp hm hb
    obtain ⟨hp1, hp2⟩ := List.pairwise_cons.1 hp
    obtain ⟨c', k1, k2, k3⟩ := N.arg c (hm c (by simp))
    have kc : c.toNat = c' := by omega
    obtain ⟨s1, s2, s3⟩ := ih c' (f x.k a) b (by omega) (by omega) hb
    obtain ⟨t1, t2⟩ := ihc (dE f l n c' (f x.k a) b) hp2 (fun z hz => hm z (by simp [hz])) (by rw [kH]; exact hb)
    rw [List.foldl_cons, kc]
    refine ⟨fun j hj => ?_, fun z hz => ?_⟩
    ·rw [t1 j (fun z hz => hj z (by simp [hz]))]
     refine s1 j ?_
     have := hj c (by simp)
     rw [kc, k1] at this
     omega
    ·rcases List.mem_cons.1 hz with e | e
     ·subst e
      -- the others do not touch this range
      have same : ∀ j, bg.getD c' 0 ≤ j → j ≤ c' → lk (cs.foldl (fun b (c : Int) => dE f l n c.toNat (f x.k a) b) (dE f l n c' (f x.k a) b)) j = lk (dE f l n c' (f x.k a) b) j := fun j j1 j2 => by
       refine t1 j (fun w hw => ?_)
       have := hp1 w hw
       omega
      have hlc : l[c']? = some (l[c']'(by omega)) := List.getElem?_eq_getElem _
      have hle := (h.node c' _ hlc).le
      rw [kc]
      refine ⟨by rw [same c' hle (Nat.le_refl _)]; exact s2, ⟨fun p y p1 p2 py d hd => ?_⟩⟩
      obtain ⟨d', e1, e2, e3⟩ := (h.node p y py).arg d hd
      have ed : d' = d := by omega
      subst ed
      have hld : l[d']? = some (l[d']'(by have := (List.getElem?_eq_some_iff.1 py).1; omega)) := List.getElem?_eq_getElem _
      have hled := (h.node d' _ hld).le
      have hn := h.nest c' _ hlc p p1 p2
      rw [same d' (by omega) (by omega), same p p1 p2]
      exact s3.edge p y p1 p2 py d' hd
     ·exact t2 z e
  obtain ⟨t1, t2⟩ := key x.args (ab.set i a) N.apart (fun c hc => hc) (by simp [hab])
  have outside : ∀ j : Nat, i ≤ j → ∀ c ∈ x.args, ¬ ((bg.getD c.toNat 0 : Int) ≤ j ∧ (j : Int) ≤ c) := fun j hj c hc => by
   obtain ⟨c', k1, k2, k3⟩ := N.arg c hc
   omega
  have ei := t1 i (outside i (Nat.le_refl _))
  rw [rX _ _ _ _ (by omega), if_pos rfl] at ei
  refine ⟨fun j hj => ?_, ei, ⟨fun p y p1 p2 py d hd => ?_⟩⟩
  ·have hle := N.le
   rw [t1 j, rX _ _ _ _ (by omega), if_neg (by omega)]
   intro c hc
   obtain ⟨c', k1, k2, k3⟩ := N.arg c hc
   have : c.toNat = c' := by omega
   rw [this]
   omega
  ·rcases Nat.lt_or_eq_of_le p2 with q | q
   ·obtain ⟨c, c1, c2, c3⟩ := N.cover p p1 q
    have := (t2 c c1).2
    have ec : ((c : Nat) : Int).toNat = c := by simp
    rw [ec] at this
    exact this.edge p y c2 c3 py d hd
   ·subst q
    have e : y = x := Option.some.inj (py.symm.trans hx)
    subst e
    have := (t2 d hd).1
    have ec : ((d : Nat) : Int).toNat = d := by simp
    rw [ec] at this
    rw [this, ei]
def dT (f : Int → Int → Int) (x : Nd) (i : Nat) (ab : List Int) : List Int := x.args.foldl (fun b (c : Int) => b.set c.toNat (f x.k (lk b i))) ab
def eW (f : Int → Int → Int) (l : List Nd) : Nat → List Int → List Int
 | 0, ab => ab
 | i + 1, ab => eW f l i (match l[i]? with | none => ab | some x => dT f x i ab)
theorem nP {f : Int → Int → Int} {x : Nd} {i : Nat} {ab : List Int} (hi : i < ab.length) (ha : ∀ a ∈ x.args, ∃ c : Nat, a = (c : Int) ∧ c < i) :
  (dT f x i ab).length = ab.length ∧ (∀ j : Nat, ¬ (j : Int) ∈ x.args → lk (dT f x i ab) j = lk ab j) ∧ ∀ c : Nat, (c : Int) ∈ x.args → lk (dT f x i ab) c = f x.k (lk ab i) := by
 have : ∀ (cs : List Int) (b : List Int), (∀ a ∈ cs, ∃ c : Nat, a = (c : Int) ∧ c < i) → i < b.length →
   (cs.foldl (fun b (c : Int) => b.set c.toNat (f x.k (lk b i))) b).length = b.length ∧ (∀ j : Nat, ¬ (j : Int) ∈ cs → lk (cs.foldl (fun b (c : Int) => b.set c.toNat (f x.k (lk b i))) b) j = lk b j) ∧
    (∀ c : Nat, (c : Int) ∈ cs → lk (cs.foldl (fun b (c : Int) => b.set c.toNat (f x.k (lk b i))) b) c = f x.k (lk b i)) := by
  intro cs
  induction cs with
  | nil => intro b _ _; exact ⟨rfl, fun j _ => rfl, fun c hc => by cases hc⟩
  | cons a cs ih =>
   intro b hcs hb
   obtain ⟨c, c1, c2⟩ := hcs a (by simp)
   have ec : a.toNat = c := by omega
   obtain ⟨t1, t2, t3⟩ := ih (b.set c (f x.k (lk b i))) (fun z hz => hcs z (by simp [hz])) (by simpa using hb)
   have ei : lk (b.set c (f x.k (lk b i))) i = lk b i := by rw [rX _ _ _ _ (by omega), if_neg (by omega)]
   rw [List.foldl_cons, ec]
   refine ⟨by rw [t1]; simp, fun j hj => ?_, fun d hd => ?_⟩
   ·rw [t2 j (fun q => hj (by simp [q])), rX _ _ _ _ (by omega), if_neg]
    intro q
    exact hj (by rw [c1, q]; simp)
   ·by_cases hm : (d : Int) ∈ cs
    ·rw [t3 d hm, ei]
    ·rcases List.mem_cons.1 hd with q | q
     ·rw [t2 d hm, rX _ _ _ _ (by omega), if_pos (by omega)]
     ·exact absurd q hm
 exact this x.args ab ha hi
theorem oS {f : Int → Int → Int} {l : List Nd} {bg : List Nat} (h : iG l bg) : ∀ (n : Nat) (ab : List Int), n ≤ l.length → ab.length = l.length → Lab l f (lk ab) (l.length - 1) n →
  (eW f l n ab).length = l.length ∧ (∀ j, n ≤ j + 1 → lk (eW f l n ab) j = lk ab j) ∧ Lab l f (lk (eW f l n ab)) (l.length - 1) 0 := by
 intro n
 induction n with
 | zero => intro ab _ hab hL; exact ⟨hab, fun j _ => rfl, hL⟩
 | succ n ih =>
  intro ab hn hab hL
  have hx : l[n]? = some (l[n]'(by omega)) := List.getElem?_eq_getElem _
  generalize l[n]'(by omega) = x at hx
  have N := h.node n x hx
  rw [eW, hx]
  simp only
  obtain ⟨s1, s2, s3⟩ := nP (f := f) (x := x) (i := n) (ab := ab) (by omega) (fun a ha => by obtain ⟨c, c1, c2, _⟩ := N.arg a ha; exact ⟨c, c1, c2⟩)
  have up : ∀ j, n ≤ j → lk (dT f x n ab) j = lk ab j := fun j hj => s2 j fun hm => by
   obtain ⟨c, c1, c2, _⟩ := N.arg _ hm
   omega
  have hnew : Lab l f (lk (dT f x n ab)) (l.length - 1) n := ⟨fun p y p1 p2 py c hc => ?_⟩
  ·obtain ⟨t1, t2, t3⟩ := ih (dT f x n ab) (by omega) (by rw [s1]; exact hab) hnew
   exact ⟨t1, fun j hj => by rw [t2 j (by omega), up j (by omega)], t3⟩
  ·by_cases e : p = n
   ·subst e
    have : y = x := Option.some.inj (py.symm.trans hx)
    subst this
    rw [s3 c hc, up p (Nat.le_refl _)]
   ·have hnc : ¬ (c : Int) ∈ x.args := fun hm => e (h.one py hx hc hm)
    rw [s2 c hnc, up p (by omega)]
    exact hL.edge p y (by omega) p2 py c hc
theorem aAZ {l : List Nd} (h : bE l = true) (hne : l ≠ []) {f g : Int → Int → Int} (R : Int → Int → Prop) (a b : Int) (hr : R a b) (hs : ∀ (p : Nat) (x : Nd), l[p]? = some x → ∀ a b, R a b → R (f x.k a) (g x.k b)) (ab bb : List Int)
  (ha : ab.length = l.length) (hb : bb.length = l.length) (hl : lk bb (l.length - 1) = b) :
  ∀ i, i < l.length → R (lk (dE f l l.length (l.length - 1) a ab) i) (lk (eW g l l.length bb) i) := by
 obtain ⟨_, bg, T⟩ := cZ h
 have hpos : 0 < l.length := List.length_pos_iff.2 hne
 obtain ⟨_, p2, p3⟩ := sY (f := f) T l.length (l.length - 1) a ab (by omega) (by omega) ha
 rw [T.root] at p3
 obtain ⟨_, q2, q3⟩ := oS (f := g) T l.length bb (Nat.le_refl _) hb ⟨fun p y p1 p2 py c hc => by
  have := (List.getElem?_eq_some_iff.1 py).1
  omega⟩
 refine Lab.rel T R p3 q3 ?_ hs
 rw [p2, q2 _ (by omega), hl]
 exact hr
end Go.Proofs.YtdpbobkcbakpfaaGreatDoor

namespace Go.Proofs.YtdpbobkcbakpfaaGreatDoor
open Go Go.Ab
set_option maxRecDepth 100000
set_option maxHeartbeats 4000000
def eC (k : Int) : Int := if k == 6 || k == 4 || k == 5 then 1 else if k == 11 || k == 12 then 2 else 0
def gD (k : Int) : Int := if k == 2 then 1 else if k == 6 then 2 else if k == 4 || k == 5 then 3 else if k == 11 || k == 12 then 4 else 0
def gX (k a : Int) : Int := if k == 2 then 3 else if k == 3 then 4 else a
def mV (k a : Int) : Int := if k == 2 then 5 else if k == 3 then 6 else a
def jR (k a : Int) : Bool := if k == 0 then (a == 1 || a == 5 || a == 6) else if k == 1 then (a == 2 || a == 3 || a == 6) else if k == 2 then (a == 2 || a == 3 || a == 4) else if k == 3 then a == 2 else true
def Same (tk a b : Int) : Prop := (a = 0 ∧ b = 1) ∨ (a = 1 ∧ ((tk = 6 ∧ b = 2) ∨ ((tk = 4 ∨ tk = 5) ∧ b = 3))) ∨ (a = 2 ∧ b = 4) ∨ (a = 3 ∧ b = 5) ∨ (a = 4 ∧ b = 6)
theorem aRU (k : Int) (h : gD k ≠ 0) : Same k (eC k) (gD k) := by
 simp only [gD, eC, Same] at *
 by_cases h2 : k = 2
 ·subst h2; simp
 ·by_cases h6 : k = 6
  ·subst h6; simp
  ·by_cases h4 : k = 4
   ·subst h4; simp
   ·by_cases h5 : k = 5
    ·subst h5; simp
    ·by_cases h11 : k = 11
     ·subst h11; simp
     ·by_cases h12 : k = 12
      ·subst h12; simp
      ·simp [h2, h6, h4, h5, h11, h12] at h
theorem aMN (tk k a b : Int) (h : Same tk a b) : Same tk (gX k a) (mV k b) := by
 simp only [gX, mV]
 by_cases h2 : k = 2
 ·subst h2; simp [Same]
 ·by_cases h3 : k = 3
  ·subst h3; simp [Same]
  ·simpa [h2, h3] using h
theorem aD9 (tk k a b : Int) (h : Same tk a b) : dZ tk k a = jR k b := by
 rcases h with ⟨rfl, rfl⟩ | ⟨rfl, ⟨rfl, rfl⟩ | ⟨rfl | rfl, rfl⟩⟩ | ⟨rfl, rfl⟩ | ⟨rfl, rfl⟩ | ⟨rfl, rfl⟩ <;> simp [dZ, jR]
def jC (k a : Int) : Int × Int := if a == 3 then (0, jH k) else if a == 4 then (0, 127) else (-1152921504606846976, 1152921504606846976)
def nQ (x : Nd) (b : Int × Int) : Bool := decide (x.lo ≤ x.hi) && decide (b.1 ≤ x.lo) && decide (x.hi ≤ b.2)
theorem aFH (x : Nd) (tk a b : Int) (h : Same tk a b) : nQ x (jC tk a) = !iL x b tk := by
 have key : ∀ lo hi : Int, (decide (x.lo ≤ x.hi) && decide (lo ≤ x.lo) && decide (x.hi ≤ hi)) = !(decide (x.lo > x.hi) || decide (x.lo < lo) || decide (x.hi > hi)) := fun lo hi => by
  rw [Bool.eq_iff_iff]
  simp
 rcases h with ⟨rfl, rfl⟩ | ⟨rfl, ⟨rfl, rfl⟩ | ⟨rfl | rfl, rfl⟩⟩ | ⟨rfl, rfl⟩ | ⟨rfl, rfl⟩ | ⟨rfl, rfl⟩
 all_goals exact key _ _
theorem aHW : alpha nN = [⟨0, 127⟩] := by kernel_rfl
def bN (t : Ty) (s : ByteArray) (a : Int) : Bool :=
 if a == 4 then !bF s (bs []) && !(chars s).any (fun c => decide (127 < c)) else if t.kind == 4 then !(chars s).any (fun c => !(c == 48 || c == 49))
 else if t.kind == 6 then !(chars s).any (fun c => !inS (alpha t.name) c) else true
theorem any_congr {α : Type} {l : List α} {p q : α → Bool} (h : ∀ x ∈ l, p x = q x) : l.any p = l.any q := by
 induction l with
 | nil => rfl
 | cons a r ih => rw [List.any_cons, List.any_cons, h a (by simp), ih fun x hx => h x (by simp [hx])]
theorem aKA {s : ByteArray} {c : Int} (h : c ∈ chars s) : 0 ≤ c := by
 obtain ⟨b, _, rfl⟩ := List.mem_map.1 h
 omega
theorem aHX (t : Ty) (s : ByteArray) (a b : Int) (h : Same t.kind a b) (ha : a = 1 ∨ a = 4) : lK t s b = bW [if bN t s a then 0 else 17, if s.size ≤ 200 then 0 else 2] := by
 have fin : ∀ u : Bool, u = !bN t s a → (if u = true then (17 : Int) else if 200 < s.size then 2 else 0) = bW [if bN t s a then 0 else 17, if s.size ≤ 200 then 0 else 2] := fun u hu => by
  subst hu
  have e : (200 < s.size) ↔ ¬ s.size ≤ 200 := by omega
  cases bN t s a <;> by_cases q : s.size ≤ 200 <;> simp [bV, eQ, q, e]
 refine fin _ ?_
 rcases h with ⟨rfl, rfl⟩ | ⟨rfl, ⟨hk, rfl⟩ | ⟨hk, rfl⟩⟩ | ⟨rfl, rfl⟩ | ⟨rfl, rfl⟩ | ⟨rfl, rfl⟩
 ·omega
 ·have e : bN t s 1 = !(chars s).any (fun c => !inS (alpha t.name) c) := by simp [bN, hk]
  have e2 : cS t 2 = fun c => !inS (alpha t.name) c := by funext c; simp [cS]
  rw [e, e2]; simp
 ·rcases hk with hk | hk
  ·have e : bN t s 1 = !(chars s).any (fun c => !(c == 48 || c == 49)) := by simp [bN, hk]
   have e2 : cS t 3 = fun c => !(c == 48 || c == 49) := by funext c; simp [cS, hk, bne]
   rw [e, e2]; simp
  ·have e : bN t s 1 = true := by simp [bN, hk]
   have e2 : cS t 3 = fun c => false := by funext c; simp [cS, hk]
   rw [e, e2]; simp
 ·omega
 ·omega
 ·have e : bN t s 4 = (!bF s (bs []) && !(chars s).any (fun c => decide (127 < c))) := by simp [bN]
  have e2 : (chars s).any (cS t 6) = (chars s).any (fun c => decide (127 < c)) := any_congr fun c hc => by
   have := aKA hc
   have e3 : cS t 6 c = !inS (alpha nN) c := by simp [cS]
   rw [e3, aHW, Bool.eq_iff_iff]
   simp [inS]
   omega
  rw [e, e2]
  cases bF s (bs []) <;> cases (chars s).any (fun c => decide (127 < c)) <;> rfl
def nR (t : Ty) (x : Nd) (root : Bool) (a : Int) : Int :=
 let e := bW [if x.k != 7 || root then 0 else 28, if dZ t.kind x.k a then 0 else 17]
 if e != 0 then e else if x.k == 0 then (if nQ x (jC t.kind a) then 0 else 3)
 else if x.k == 1 then bW [if bN t x.s a then 0 else 17, if x.s.size ≤ 200 then 0 else 2] else 0
def mS (t : Ty) (x : Nd) (root : Bool) (b : Int) : Int :=
 if x.k == 7 && !root then 28 else if !jR x.k b then 17 else if x.k == 0 && iL x b t.kind then 3
 else if x.k == 1 then lK t x.s b else 0
theorem aHY (t : Ty) (x : Nd) (root : Bool) (a b : Int) (h : Same t.kind a b) : nR t x root a = mS t x root b := by
 have hs := aD9 t.kind x.k a b h
 have hr := aFH x t.kind a b h
 simp only [nR, mS, hs, hr]
 cases hst : jR x.k b
 ·cases root <;> by_cases h7 : x.k = 7 <;> simp [bV, h7]
 ·by_cases h0 : x.k = 0
  ·cases iL x b t.kind <;> simp [bV, eQ, h0]
  ·by_cases h1 : x.k = 1
   ·have ha : a = 1 ∨ a = 4 := by
     rw [hst, h1] at hs
     simpa [dZ] using hs
    rw [aHX t x.s a b h ha]
    simp [bV, eQ, h1]
   ·cases root <;> by_cases h7 : x.k = 7 <;> simp [bV, eQ, h0, h1, h7]
def cK : List Int → Int × Int
 | [] => (0, 0)
 | e :: r => if e == 0 then ((cK r).1 + 1, (cK r).2) else (0, e)
def lL (t : Ty) (f : Nat → Int) : List Int := t.limits.mapIdx fun i x => nR t x (i + 1 == t.limits.length) (f i)
def mT (t : Ty) (f : Nat → Int) : List Int := t.limits.mapIdx fun i x => mS t x (i + 1 == t.limits.length) (f i)
def cL (t : Ty) : List Int := dE gX t.limits t.limits.length (t.limits.length - 1) (eC t.kind) (List.replicate t.limits.length 0)
def eT (t : Ty) : List Int := eW mV t.limits t.limits.length ((List.replicate t.limits.length 0).set (t.limits.length - 1) (gD t.kind))
def aB0 (t : Ty) : Int × Int := if t.limits.length == 0 then (0, 0) else if eC t.kind == 0 && t.kind != 2 then (0, 4) else cK (lL t (lk (cL t)))
def wV (t : Ty) : Int × Int := if t.limits.length != 0 && gD t.kind == 0 then (0, 4) else cK (mT t (lk (eT t)))
theorem vL (k : Int) : (gD k == 0) = (eC k == 0 && k != 2) := by
 simp only [gD, eC]
 by_cases h2 : k = 2
 ·subst h2; decide
 ·by_cases h6 : k = 6
  ·subst h6; decide
  ·by_cases h4 : k = 4
   ·subst h4; decide
   ·by_cases h5 : k = 5
    ·subst h5; decide
    ·by_cases h11 : k = 11
     ·subst h11; decide
     ·by_cases h12 : k = 12
      ·subst h12; decide
      ·simp [h2, h6, h4, h5, h11, h12]
theorem aKB (t : Ty) (h : bE t.limits = true) : aB0 t = wV t := by
 simp only [aB0, wV, vL]
 by_cases hz : t.limits.length = 0
 ·have e : t.limits = [] := List.length_eq_zero_iff.1 hz
  simp [mT, e, cK]
 ·cases hk : (eC t.kind == 0 && t.kind != 2)
  ·have ha : gD t.kind ≠ 0 := by
    have := vL t.kind
    rw [hk] at this
    simpa using this
   simp only [beq_iff_eq, hz, if_false, Bool.and_false, Bool.false_eq_true]
   congr 1
   refine List.mapIdx_eq_mapIdx_iff.2 fun i hi => ?_
   refine aHY t _ _ _ _ ?_
   refine aAZ h (fun e => hz (by rw [e]; rfl)) (Same t.kind) (eC t.kind) (gD t.kind) (aRU _ ha) (fun p x _ a b hab => aMN _ _ _ _ hab) _ _ (by simp) (by simp) ?_ i hi
   rw [rX _ _ _ _ (by simp; omega), if_pos rfl]
  ·simp [hz]
end Go.Proofs.YtdpbobkcbakpfaaGreatDoor

namespace Go.Proofs.YtdpbobkcbakpfaaGreatDoor
open Go Go.Ab
set_option maxRecDepth 100000
set_option maxHeartbeats 4000000
attribute [local simp] bL aM aS aK aY aO bI tyC fdC vlC ndC aP D.dQ D.pt
attribute [local simp] c85r0 c85r1 c85 in
theorem P85 (a b c : Int) : PSp Tryz.prog 85 [.one (.t (I a)), .one (.t (I b)), .one (.t (I c))] (.one (.t (.bool (decide (b ≤ a) && decide (a ≤ c))))) := by
 refine k85.aG (by simp) rfl rfl ?_
 obtain ⟨u, eu⟩ : ∃ y, decide (b ≤ a) = y := ⟨_, rfl⟩
 obtain ⟨v, ev⟩ : ∃ y, decide (a ≤ c) = y := ⟨_, rfl⟩
 rw [eu, ev]
 cases u <;> simp -implicitDefEqProofs [-aA, -gval, eu, ev, aC]
attribute [local simp] c155r0 c155r1 c155 in
theorem aVC (x : Sp) (n : Int) (h : Hp) (id : Nat) (e : h id = some (.arr 0 false 1 [[.t (I n)]])) (n0 : Nat) :
  ISp Tryz.prog 155 h n0 [.agg ((spr x).map .t), .one (.ptr ⟨id, 0, 1, 0, 0⟩)] (.one (.t (.bool (decide (x.1 ≤ n) && decide (n ≤ x.2))))) h := by
 refine ISp.ok fun ho => ?_
 have h1 := fK ho e
 have p85 := P85 n x.1 x.2
 generalize (decide (x.1 ≤ n) && decide (n ≤ x.2)) = R at *
 refine k155.kU (by simp) ?_
 obtain ⟨o1, o2, o3, o4⟩ := aF e
 have hne : ¬ id = n0 := by omega
 simp -implicitDefEqProofs [-aA, -gval, spr, o1, o2, o3, hne]
 refine aD.tree p85 rfl ?_
 simp -implicitDefEqProofs [-aA, -gval]
 exact dG (.inr rfl) (by exact rfl) (fun j hj => by simp [Hp.set]; omega) ho
attribute [local simp] c120r0 c120r1 c120 in
theorem aVD (l : List Sp) (n : Int) (hl : short l) : PSp Tryz.prog 120 [.one (.t (spans l)), .one (.t (I n))] (.one (.t (.bool (inS l n)))) := by
 refine k120.aG (by simp) rfl rfl ?_
 simp -implicitDefEqProofs [-aA, -gval]
 refine aD.imp (aTG l hl (fun x => decide (x.1 ≤ n) && decide (n ≤ x.2)) 155 [⟨0, 0, 1, 0, 0⟩] _ _ (by kernel_rfl) fun x hx new K hn hK => aD.imp (aVC x n _ 0 (by simp [Hp.set]) new) hK) ?_
 simp -implicitDefEqProofs [-aA, -gval, aC]
 rfl
attribute [local simp] c150 in
theorem aVE (c : Int) : PSp Tryz.prog 150 [.one (.t (.int .u8 c))] (.one (.t (.bool (decide (127 < c))))) := by
 refine k150.aG (by simp) rfl rfl ?_
 simp -implicitDefEqProofs [-aA, -gval, aC]
attribute [local simp] c194 in
theorem aVF (l : List Sp) (c : Int) (hl : l.length ≤ 1000000) (hc : 0 ≤ c ∧ c ≤ 255) (h : Hp) (id : Nat) (e : h id = some (.arr 0 false 1 [[.t (spans l)]])) (n0 : Nat) :
  ISp Tryz.prog 194 h n0 [.one (.t (.int .u8 c)), .one (.ptr ⟨id, 0, 1, 0, 0⟩)] (.one (.t (.bool (!inS l c)))) h := by
 refine ISp.ok fun ho => ?_
 have h1 := fK ho e
 have aVG := aVD l c (by simp only [short]; omega)
 refine k194.kU (by simp) ?_
 obtain ⟨o1, o2, o3, o4⟩ := aF e
 have hcv : D.eH .i64 (.one (.t (.int .u8 c))) = .one (.t (I c)) := by
  have : IntKind.i64.wrap c = c := wrap_i64 (by omega) (by omega)
  simp [D.eH, this]
 simp -implicitDefEqProofs [-aA, -gval, o1, o2, o3, hcv]
 refine aD.tree aVG rfl ?_
 simp -implicitDefEqProofs [-aA, -gval]
 exact dG (.inr rfl) (by exact rfl) (fun j hj => by simp) ho
attribute [local simp] c152 in
theorem aVH (s : ByteArray) (x : ByteArray) (hx : x.size ≤ 9223372036854775807) : PSp Tryz.prog 152 [.one (.t (.str s)), .one (.t (.str x))] (.one (.t (.bool (!(chars x).any fun c => !inS (alpha s) c)))) := by
 refine k152.aG (by simp) rfl rfl ?_
 have hal := rW s
 simp -implicitDefEqProofs [-aA, -gval]
 refine aD.tree (P17 s) rfl ?_
 simp -implicitDefEqProofs [-aA, -gval]
 refine aD.imp (aQG x hx (fun c => !inS (alpha s) c) 194 [⟨6, 0, 1, 0, 0⟩] _ _ (by kernel_rfl) fun c hc new K hn hK => aD.imp (aVF (alpha s) c (by omega) (by have := rS hc; omega) _ 6 (by simp [Hp.set]) new) hK) ?_
 simp -implicitDefEqProofs [-aA, -gval, aC]
end Go.Proofs.YtdpbobkcbakpfaaGreatDoor

namespace Go.Proofs.YtdpbobkcbakpfaaGreatDoor
open Go Go.Ab
set_option maxRecDepth 100000
set_option maxHeartbeats 4000000
attribute [local simp] bL aM aS aK aY aO bI tyC fdC vlC ndC aP D.dQ D.pt
theorem mI {k c n0 : Nat} {x y : T} {st : St} {h' : Hp} (hr : st.tmps k = .one (.ptr ⟨c, 0, 2, 0, 0⟩)) (hc : st.heap c = some (.arr 0 false 2 [[.t x, .t y]])) (hh : ∀ id, id < n0 → st.heap id = h' id) (ho : aN h' n0) :
  jF [.cell k 2 true] (.agg [.t x, .t y]) h' n0 .ret st := by
 obtain ⟨o1, o2, o3, o4⟩ := aF hc
 have e : jN st [.cell k 2 true] = .agg [.t x, .t y] := by
  simp [jN, RV.val, hr, D.loadAt, D.of, o2]
 refine ⟨.inr rfl, ⟨?_, by simp⟩, ?_, ?_, ?_, hh, ho.above, ho.below⟩
 ·simp [RV.ok, hr, D.lR, o1, o2, o3]
 ·rw [e]; simp [D.bT]
 ·rw [e]; simp [D.frz]
 ·rw [e]; simp [D.ids]
attribute [local simp] c109 in
theorem aVI (t : Ty) (ab : List Int) (id sid ver : Nat) (h : Hp) (hc : CK t ab id sid ver h) (i : Nat) (a : Int) (ha : ab[i]? = some a) (n0 : Nat) :
  ISp Tryz.prog 109 h n0 [.one (.ptr ⟨id, 0, 9, 0, 0⟩), .one (.t (I i))] (.agg [.t (I (jC t.kind a).1), .t (I (jC t.kind a).2)]) h := by
 refine ISp.ok fun ho => ?_
 have h1 := fK ho hc.obj
 have h2 := fK ho hc.abs
 refine k109.kU (by simp) ?_
 obtain ⟨o1, o2, o3, o4⟩ := aF hc.obj
 obtain ⟨p1, p2, p3, p4⟩ := aF hc.abs
 have hia : i < ab.length := (List.getElem?_eq_some_iff.1 ha).1
 have nO : (i : Int) < (ab.length : Int) := by omega
 have p91 := P91 t
 have hne : ¬ id = n0 := by omega
 have uY : ¬ sid = n0 := by omega
 rcases eqCases a 3 with q3 | q3
 ·have e : jC t.kind a = (0, jH t.kind) := by simp [jC, q3]
  rw [e]
  generalize jH t.kind = m at *
  simp -implicitDefEqProofs [-aA, -gval, hne, uY, o1, o2, o3, p1, p2, p3, hia, nO, eL ha, q3, -List.getElem_map]
  refine aD.tree p91 rfl ?_
  simp -implicitDefEqProofs [-aA, -gval]
  exact mI (c := n0) (by exact rfl) (by simp [Hp.set]) (fun j hj => by simp [Hp.set]; omega) ho
 ·rcases eqCases a 4 with q4 | q4
  ·have e : jC t.kind a = (0, 127) := by simp [jC, q4]
   rw [e]
   simp -implicitDefEqProofs [-aA, -gval, hne, uY, o1, o2, o3, p1, p2, p3, hia, nO, eL ha, q4, -List.getElem_map]
   exact mI (c := n0) (by exact rfl) (by simp [Hp.set]) (fun j hj => by simp [Hp.set]; omega) ho
  ·have e : jC t.kind a = (-1152921504606846976, 1152921504606846976) := by simp [jC, q3, q4]
   rw [e]
   simp -implicitDefEqProofs [-aA, -gval, hne, uY, o1, o2, o3, p1, p2, p3, hia, nO, eL ha, q3, q4, -List.getElem_map]
   exact mI (c := n0) (by exact rfl) (by simp [Hp.set]) (fun j hj => by simp [Hp.set]; omega) ho
attribute [local simp] c110t8 c110t9 c110t10 c110t12 c110t13 c110 in
theorem aVJ (t : Ty) (ab : List Int) (id sid ver : Nat) (h : Hp) (hc : CK t ab id sid ver h) (i : Nat) (x : Nd) (a : Int) (hx : t.limits[i]? = some x) (hxs : x.s.size ≤ 9223372036854775807) (ha : ab[i]? = some a) (n0 : Nat) :
  ISp Tryz.prog 110 h n0 [.one (.ptr ⟨id, 0, 9, 0, 0⟩), .one (.t (I i))] (.one (.t (.bool (bN t x.s a)))) h := by
 obtain ⟨R0, hR0⟩ : ∃ R, bN t x.s a = R := ⟨_, rfl⟩
 rw [hR0]
 refine ISp.ok fun ho => ?_
 have h1 := fK ho hc.obj
 have h2 := fK ho hc.abs
 refine k110.kU (by simp) ?_
 obtain ⟨o1, o2, o3, o4⟩ := aF hc.obj
 obtain ⟨p1, p2, p3, p4⟩ := aF hc.abs
 have hi : i < t.limits.length := (List.getElem?_eq_some_iff.1 hx).1
 have hiI : (i : Int) < (t.limits.length : Int) := by omega
 have hia : i < ab.length := (List.getElem?_eq_some_iff.1 ha).1
 have nO : (i : Int) < (ab.length : Int) := by omega
 have fin : ∀ (R : Bool) (st : St), R = R0 → st.tmps 4 = .one (.t (.bool R)) → st.heap = h → jF [.tmp 4] (.one (.t (.bool R0))) h n0 .ret st := fun R st hR hs hh => by
  subst hR
  exact dG (.inr rfl) hs (fun j hj => by rw [hh]) ho
 rcases eqCases a 4 with q4 | q4
 ·obtain ⟨b, eb⟩ : ∃ b, (x.s.toList == (bs []).toList) = b := ⟨_, rfl⟩
  have eb' : bF x.s (bs []) = b := eb
  have hR1 : (!b && !(chars x.s).any fun c => decide (127 < c)) = R0 := by rw [← hR0]; simp [bN, q4, eb']
  cases b
  ·simp -implicitDefEqProofs [-aA, -gval, o1, o2, o3, p1, p2, p3, hi, hiI, hia, nO, eL ha, aE hx, Nd.row, q4, eb, -List.getElem_map]
   refine aD.imp (aQG x.s hxs (fun c => decide (127 < c)) 150 [] _ _ (by kernel_rfl) fun c hc new K hn hK => aD.tree (aVE c) rfl hK) ?_
   simp -implicitDefEqProofs [-aA, -gval]
   exact fin (!(chars x.s).any fun c => decide (127 < c)) _ (by rw [← hR1]; rfl) (by exact rfl) (by exact rfl)
  ·simp -implicitDefEqProofs [-aA, -gval, o1, o2, o3, p1, p2, p3, hi, hiI, hia, nO, eL ha, aE hx, Nd.row, q4, eb, -List.getElem_map]
   exact fin false _ (by rw [← hR1]; rfl) (by exact rfl) (by exact rfl)
 ·rcases eqCases t.kind 4 with k4 | k4
  ·have hR1 : (!(chars x.s).any fun c => !(c == 48 || c == 49)) = R0 := by rw [← hR0]; simp [bN, q4, k4]
   have tr := aJO x.s hxs
   have te := vC x.s
   simp -implicitDefEqProofs [-aA, -gval, o1, o2, o3, p1, p2, p3, hi, hiI, hia, nO, eL ha, aE hx, Nd.row, q4, k4, -List.getElem_map]
   refine aD.tree tr rfl ?_
   simp -implicitDefEqProofs [-aA, -gval]
   exact fin _ _ (by rw [← hR1, ← te]) (by exact rfl) (by exact rfl)
  ·rcases eqCases t.kind 6 with k6 | k6
   ·have hR1 : (!(chars x.s).any fun c => !inS (alpha t.name) c) = R0 := by rw [← hR0]; simp [bN, q4, k6]
    have aRV := aVH t.name x.s hxs
    rw [hR1] at aRV
    simp -implicitDefEqProofs [-aA, -gval, o1, o2, o3, p1, p2, p3, hi, hiI, hia, nO, eL ha, aE hx, Nd.row, q4, k6, -List.getElem_map]
    refine aD.tree aRV rfl ?_
    simp -implicitDefEqProofs [-aA, -gval]
    exact fin _ _ rfl (by exact rfl) (by exact rfl)
   ·have hR1 : true = R0 := by rw [← hR0]; simp [bN, q4, k4, k6]
    simp -implicitDefEqProofs [-aA, -gval, o1, o2, o3, p1, p2, p3, hi, hiI, hia, nO, eL ha, aE hx, Nd.row, q4, k4, k6, -List.getElem_map]
    exact fin _ _ hR1 (by exact rfl) (by exact rfl)
end Go.Proofs.YtdpbobkcbakpfaaGreatDoor

namespace Go.Proofs.YtdpbobkcbakpfaaGreatDoor
open Go Go.Ab
set_option maxRecDepth 100000
set_option maxHeartbeats 4000000
attribute [local simp] bL aM aS aK aY aO bI tyC fdC vlC ndC aP D.dQ D.pt
def fL (h : Hp) (sid ver : Nat) (ab : List Int) : Hp := h.set sid (.arr ver false 1 (ab.map fun a => [.t (I a)]))
theorem CK.ne {t : Ty} {ab : List Int} {id sid ver : Nat} {h : Hp} (hc : CK t ab id sid ver h) : id ≠ sid := fun e => by
 subst e
 have := hc.obj.symm.trans hc.abs
 simp at this
theorem CK.put {t : Ty} {ab : List Int} {id sid ver : Nat} {h : Hp} (hc : CK t ab id sid ver h) {ab' : List Int} (hl : ab'.length = ab.length) : CK t ab' id sid ver (fL h sid ver ab') := by
 refine ⟨?_, by simp [fL, Hp.set], by rw [hl]; exact hc.len⟩
 simp only [fL, Hp.set]
 rw [if_neg hc.ne, hc.obj, hl]
theorem aHZ {h : Hp} {sid ver : Nat} {ab ab' : List Int} : fL (fL h sid ver ab) sid ver ab' = fL h sid ver ab' := funext fun j => by
 simp only [fL, Hp.set]; split <;> rfl
theorem aOX {t : Ty} {ab : List Int} {id sid ver : Nat} {h : Hp} (hc : CK t ab id sid ver h) : fL h sid ver ab = h := funext fun j => by
 simp only [fL, Hp.set]
 split
 ·rename_i e; rw [e, hc.abs]
 ·rfl
theorem aPJ {_t : Ty} {ab : List Int} {_id sid ver i : Nat} {a : Int} {h : Hp} : h.set sid (.arr ver false 1 ((ab.map fun a => [A.t (I a)]).set i [A.t (I a)])) = fL h sid ver (ab.set i a) := by
 simp [fL, List.map_set]
theorem aKC {h : Hp} {n sid ver : Nat} {ab : List Int} (ho : aN h n) (hs : sid < n) : aN (fL h sid ver ab) n := by
 refine ⟨fun j hj => ?_, fun j o hj => ?_⟩
 ·simp only [fL, Hp.set]; rw [if_neg (by omega)]; exact ho.above j hj
 ·simp only [fL, Hp.set] at hj
  split at hj
  ·cases hj
   simp [O.below, A.below]
  ·exact ho.below j o hj
attribute [local simp] c62t10 c62t11 c62t12 c62t14 c62t15 c62t17 c62t18 c62b19 c62t20 c62t21 c62 in
theorem P62 (t : Ty) (bg : List Nat) (T : iG t.limits bg) (_hn : t.limits.length ≤ 20) (hargs : ∀ x ∈ t.limits, short x.args) (id sid ver : Nat) : ∀ (fuel i : Nat) (a : Int) (ab : List Int) (h : Hp) (n0 : Nat), i < fuel → i < t.limits.length → CK t ab id sid ver h →
  ISp Tryz.prog 62 h n0 [.one (.ptr ⟨id, 0, 9, 0, 0⟩), .one (.t (I i)), .one (.t (I a))] (.tup []) (fL h sid ver (dE gX t.limits fuel i a ab)) := by
 intro fuel
 induction fuel with
 | zero => intro i a ab h n0 hi; omega
 | succ fuel ih =>
  intro i a ab h n0 hif hil hc
  have hx : t.limits[i]? = some (t.limits[i]'hil) := List.getElem?_eq_getElem _
  generalize t.limits[i]'hil = x at hx
  have N := T.node i x hx
  have hsa := hargs x (List.mem_of_getElem? hx)
  refine ISp.ok fun ho => ?_
  have h1 := fK ho hc.obj
  have h2 := fK ho hc.abs
  have hne := hc.ne
  have hne' : ¬ sid = id := fun e => hne e.symm
  obtain ⟨o1, o2, o3, o4⟩ := aF hc.obj
  obtain ⟨p1, p2, p3, p4⟩ := aF hc.abs
  have hiI : (i : Int) < (t.limits.length : Int) := by omega
  have hia : i < ab.length := by rw [hc.len]; exact hil
  have nO : (i : Int) < (ab.length : Int) := by omega
  have ep : dE gX t.limits (fuel + 1) i a ab = x.args.foldl (fun b (c : Int) => dE gX t.limits fuel c.toNat (gX x.k a) b) (ab.set i a) := by
   rw [dE, hx]
  rw [ep]
  refine k62.kU (by simp) ?_
  have ha0 : ab[i]? = some (ab[i]'hia) := List.getElem?_eq_getElem hia
  simp -implicitDefEqProofs [-aA, -gval, o1, o2, o3, p1, p2, p3, p4, aE hx, eL ha0, hil, hiI, hia, nO, hne, Nd.row, -List.getElem_map]
  refine uX x.args (fun b (c : Int) => dE gX t.limits fuel c.toNat (gX x.k a) b) (ab.set i a) [0, 1, 2, 24, 25] [] (fun k s st => st.tmps 26 = .one (.t (I k)) ∧ st.heap = fL h sid ver s ∧ s.length = ab.length ∧ n0 ≤ st.nx) hsa ?_ ?_ ?_
  ·exact ⟨⟨by simp, by simp [fL, List.map_set], by simp, by simp; omega⟩, by simp, by simp⟩
  ·rintro k y s st hk hkI hw hg hy hs ⟨aDA, hh, hsl, hnx⟩ hkt hkh
   simp at hkt
   have hc' : CK t s id sid ver st.heap := by rw [hh]; exact hc.put hsl
   obtain ⟨o1, o2, o3, o4⟩ := aF hc'.obj
   obtain ⟨c, rfl, hci, _⟩ := N.arg y hy
   have hcl : c < t.limits.length := by omega
   have call := fun n => ih c (gX x.k a) s st.heap n (by omega) hcl hc'
   have ph : fL st.heap sid ver (dE gX t.limits fuel c (gX x.k a) s) = fL h sid ver (dE gX t.limits fuel c (gX x.k a) s) := by rw [hh, aHZ]
   have tn : ((c : Nat) : Int).toNat = c := by simp
   rcases eqCases x.k 2 with q2 | q2
   ·have ei : gX x.k a = 3 := by simp [gX, q2]
    rw [ei] at call ph
    simp -implicitDefEqProofs [-aA, -gval, aDA, hkt, hk, hkI, aE hg, aE hx, hil, hiI, o1, o2, o3, Nd.row, q2, -List.getElem_map]
    refine aD.imp (call _) ?_
    simp -implicitDefEqProofs [-aA, -gval, aDA, hkt, hw, ph, kH, hsl]
    exact ⟨by rw [show gX 2 a = 3 by simp [gX]], by omega⟩
   ·rcases eqCases x.k 3 with q3 | q3
    ·have ei : gX x.k a = 4 := by simp [gX, q3]
     rw [ei] at call ph
     simp -implicitDefEqProofs [-aA, -gval, aDA, hkt, hk, hkI, aE hg, aE hx, hil, hiI, o1, o2, o3, Nd.row, q3, -List.getElem_map]
     refine aD.imp (call _) ?_
     simp -implicitDefEqProofs [-aA, -gval, aDA, hkt, hw, ph, kH, hsl]
     exact ⟨by rw [show gX 3 a = 4 by simp [gX]], by omega⟩
    ·have ei : gX x.k a = a := by simp [gX, q2, q3]
     rw [ei] at call ph
     simp -implicitDefEqProofs [-aA, -gval, aDA, hkt, hk, hkI, aE hg, aE hx, hil, hiI, o1, o2, o3, Nd.row, q2, q3, -List.getElem_map]
     refine aD.imp (call _) ?_
     simp -implicitDefEqProofs [-aA, -gval, aDA, hkt, hw, ei, ph, kH, hsl]
     omega
  ·rintro st ⟨aDA, hh, hsl, hnx⟩ hkt hkh
   simp at hkt
   simp -implicitDefEqProofs [-aA, -gval, aDA, hkt]
   exact dM (.inl rfl) (fun j hj => by simp [hh]) (aKC ho h2)
end Go.Proofs.YtdpbobkcbakpfaaGreatDoor

namespace Go.Proofs.YtdpbobkcbakpfaaGreatDoor
open Go Go.Ab
set_option maxRecDepth 100000
set_option maxHeartbeats 4000000
attribute [local simp] bL aM aS aK aY aO bI tyC fdC vlC ndC aP D.dQ D.pt
attribute [local simp] c81r0 c81r1 c81r2 c81r3 c81 in
theorem P81 (b : Bool) (e : Int) : PSp Tryz.prog 81 [.one (.t (.bool b)), .one (.t (I e))] (.one (.t (I (if b then 0 else e)))) := by
 refine k81.aG (by simp) rfl rfl ?_
 cases b <;> simp -implicitDefEqProofs [-aA, -gval, aC]
theorem CK.of {t : Ty} {ab : List Int} {id sid ver : Nat} {h h' : Hp} (hc : CK t ab id sid ver h) (h1 : h' id = h id) (h2 : h' sid = h sid) : CK t ab id sid ver h' :=
 ⟨h1.trans hc.obj, h2.trans hc.abs, hc.len⟩
theorem aMO (t : Ty) : ∀ x ∈ tyC t, (D.one x).top = [] := by
 intro x hx
 simp only [tyC, List.mem_cons, List.not_mem_nil, or_false] at hx
 rcases hx with rfl | rfl | rfl | rfl | rfl | rfl | rfl | rfl <;> rfl
theorem CK.look {t : Ty} {ab : List Int} {id sid ver : Nat} {h : Hp} (hc : CK t ab id sid ver h) {f : FuncId} {y : T} {r : D} (hs : ∀ h', CK t ab id sid ver h' → ∀ n', ISp Tryz.prog f h' n' [.one (.ptr ⟨id, 0, 9, 0, 0⟩), .one (.t y)] r h') :
  xD Tryz.prog f [.one (.ptr ⟨id, 0, 9, 0, 0⟩), .one (.t y)] h r := by
 obtain ⟨o1, o2, o3, o4⟩ := aF hc.obj
 obtain ⟨p1, p2, p3, p4⟩ := aF hc.abs
 have hr : ∀ j, Ab.Reach h [.one (.ptr ⟨id, 0, 9, 0, 0⟩), .one (.t y)] j → j = id ∨ j = sid := by
  intro j hj
  induction hj with
  | top hx hid =>
   rename_i x j
   simp only [List.mem_cons, List.not_mem_nil, or_false] at hx
   rcases hx with rfl | rfl
   ·left; simpa [D.top] using hid
   ·simp [D.top] at hid
  | cell hj hrow hx hid ih =>
   rename_i j j' rr x
   rcases ih with rfl | rfl
   ·rw [o2] at hrow
    simp only [List.mem_singleton] at hrow
    subst hrow
    rcases List.mem_append.1 hx with hx | hx
    ·rw [aMO t x hx] at hid; cases hid
    ·simp only [List.mem_singleton] at hx
     subst hx
     right; simpa [D.top] using hid
   ·rw [p2] at hrow
    obtain ⟨a, _, rfl⟩ := List.mem_map.1 hrow
    simp only [List.mem_singleton] at hx
    subst hx
    simp [D.top] at hid
 have r1 : Ab.Reach h [.one (.ptr ⟨id, 0, 9, 0, 0⟩), .one (.t y)] id := .top (List.mem_cons_self ..) (by simp [D.top])
 have r2 : Ab.Reach h [.one (.ptr ⟨id, 0, 9, 0, 0⟩), .one (.t y)] sid := .cell r1 (by rw [o2]; exact List.mem_singleton.2 rfl) (List.mem_append.2 (.inr (List.mem_singleton.2 rfl))) (by simp [D.top])
 refine ⟨fun j hj => ?_, fun h' n' hh => hs h' (hc.of (hh id r1) (hh sid r2)) n'⟩
 rcases hr j hj with rfl | rfl
 ·rw [hc.obj]; simp
 ·rw [hc.abs]; simp
attribute [local simp] c63t6 c63t7 c63t14 c63t15 c63t16 c63t18 c63t19 c63t20 c63t21 c63 in
theorem P63 (t : Ty) (ab : List Int) (id sid ver : Nat) (h : Hp) (hc : CK t ab id sid ver h) (i : Nat) (x : Nd) (a : Int) (hx : t.limits[i]? = some x) (hxs : x.s.size ≤ 9223372036854775807) (hl : t.limits.length ≤ 20) (ha : ab[i]? = some a) (n0 : Nat) :
  ISp Tryz.prog 63 h n0 [.one (.ptr ⟨id, 0, 9, 0, 0⟩), .one (.t (I i))] (.one (.t (I (nR t x (i + 1 == t.limits.length) a)))) h := by
 obtain ⟨rt, hrt⟩ : ∃ b, (i + 1 == t.limits.length) = b := ⟨_, rfl⟩
 rw [hrt]
 have aMP : ((i : Int) == (t.limits.length : Int) - 1) = rt := by
  rw [← hrt, Bool.eq_iff_iff]; simp; omega
 have hw : IntKind.i64.wrap ((t.limits.length : Int) - 1) = (t.limits.length : Int) - 1 := wrap_i64 (by omega) (by omega)
 obtain ⟨R0, hR0⟩ : ∃ R, nR t x rt a = R := ⟨_, rfl⟩
 rw [hR0]
 refine ISp.ok fun ho => ?_
 have h1 := fK ho hc.obj
 have h2 := fK ho hc.abs
 refine k63.kU (by simp) ?_
 obtain ⟨o1, o2, o3, o4⟩ := aF hc.obj
 obtain ⟨p1, p2, p3, p4⟩ := aF hc.abs
 have hi : i < t.limits.length := (List.getElem?_eq_some_iff.1 hx).1
 have hiI : (i : Int) < (t.limits.length : Int) := by omega
 obtain ⟨b7, e7⟩ : ∃ b, (x.k != 7) = b := ⟨_, rfl⟩
 have fin : ∀ (R : Int) (st : St), R = R0 → st.tmps 4 = .one (.t (I R)) → (∀ j, j < n0 → st.heap j = h j) → jF [.tmp 4] (.one (.t (I R0))) h n0 .ret st := fun R st hR hs hh => by
  subst hR
  exact dG (.inr rfl) hs hh ho
 have hne : ¬ id = n0 + 1 + 8 := by omega
 have uY : ¬ sid = n0 + 1 + 8 := by omega
 obtain ⟨sb, es⟩ : ∃ b, dZ t.kind x.k a = b := ⟨_, rfl⟩
 obtain ⟨E, hE⟩ : ∃ E, bW [if b7 || rt then 0 else 28, if sb then 0 else 17] = E := ⟨_, rfl⟩
 have p79 := P79 [if b7 || rt then 0 else 28, if sb then 0 else 17] (by simp [short])
 rw [hE] at p79
 obtain ⟨b0, hb0⟩ : ∃ b, (b7 || rt) = b := ⟨_, rfl⟩
 have hR1 : (if E != 0 then E else if x.k == 0 then (if nQ x (jC t.kind a) then 0 else 3) else if x.k == 1 then bW [if bN t x.s a then 0 else 17, if x.s.size ≤ 200 then 0 else 2] else 0) = R0 := by
  rw [← hR0, ← hE]; simp only [nR, e7, es]
 rw [hb0] at p79
 simp -implicitDefEqProofs [-aA, -gval, hne, o1, o2, o3, hi, hiI, aE hx, Nd.row, e7, aMP, hw, hb0, -List.getElem_map]
 refine aD.tree (P81 b0 28) rfl ?_
 simp -implicitDefEqProofs [-aA, -gval]
 refine aD.imp (aVB t ab id sid ver _ (hc.of (by simp [Hp.set, hne]) (by simp [Hp.set, uY])) i x a hx ha _) ?_
 rw [es]
 simp -implicitDefEqProofs [-aA, -gval]
 refine aD.tree (P81 sb 17) rfl ?_
 simp -implicitDefEqProofs [-aA, -gval]
 refine aD.pure p79 (by simp) (by simp) ?_
 rcases eqCases E 0 with z | z
 ·subst z
  rcases eqCases x.k 0 with k0 | k0
  ·obtain ⟨B, hB⟩ : ∃ B, jC t.kind a = B := ⟨_, rfl⟩
   obtain ⟨blo, bhi⟩ := B
   obtain ⟨c1, ec1⟩ : ∃ y, decide (x.lo ≤ x.hi) = y := ⟨_, rfl⟩
   obtain ⟨c2, ec2⟩ : ∃ y, decide (blo ≤ x.lo) = y := ⟨_, rfl⟩
   obtain ⟨c3, ec3⟩ : ∃ y, decide (x.hi ≤ bhi) = y := ⟨_, rfl⟩
   have hR2 : (if c1 && c2 && c3 then 0 else 3) = R0 := by
    rw [← hR1, hB]; simp [k0, nQ, ec1, ec2, ec3]
   simp -implicitDefEqProofs [-aA, -gval, k0]
   refine aD.imp (aVI t ab id sid ver _ (hc.of (by simp [Hp.set, hne]) (by simp [Hp.set, uY])) i a ha _) ?_
   rw [hB]
   clear hE hR1
   cases c1 <;> cases c2 <;> cases c3
   all_goals simp -implicitDefEqProofs [-aA, -gval, ec1, ec2, ec3]
   all_goals refine aD.tree (P81 _ 3) rfl ?_
   all_goals simp -implicitDefEqProofs [-aA, -gval]
   all_goals exact fin _ _ hR2 (by exact rfl) (fun j hj => by simp only [Hp.set]; repeat rw [if_neg (by omega)])
  ·rcases eqCases x.k 1 with k1 | k1
   ·obtain ⟨tf, etf⟩ : ∃ b, bN t x.s a = b := ⟨_, rfl⟩
    obtain ⟨w, ew⟩ : ∃ y, decide ((x.s.size : Int) ≤ 200) = y := ⟨_, rfl⟩
    have ew' : (if x.s.size ≤ 200 then (0 : Int) else 2) = if w then 0 else 2 := by
     rw [← ew]
     by_cases q : x.s.size ≤ 200
     ·simp [q]; omega
     ·simp [q]; omega
    obtain ⟨F, hF⟩ : ∃ F, bW [if tf then 0 else 17, if w then 0 else 2] = F := ⟨_, rfl⟩
    have q79 := P79 [if tf then 0 else 17, if w then 0 else 2] (by simp [short])
    rw [hF] at q79
    have hR2 : F = R0 := by rw [← hR1, etf, ew', hF]; simp [k1]
    simp -implicitDefEqProofs [-aA, -gval, k1]
    refine aD.look (CK.look (hc.of (by simp [Hp.set, hne]) (by simp [Hp.set, uY])) fun h' hc' n' => aVJ t ab id sid ver h' hc' i x a hx hxs ha n') ?_
    rw [etf]
    simp -implicitDefEqProofs [-aA, -gval]
    refine aD.bO (P81 tf 17) rfl ?_
    simp -implicitDefEqProofs [-aA, -gval, ew]
    refine aD.bO (P81 w 2) rfl ?_
    simp -implicitDefEqProofs [-aA, -gval]
    refine aD.draw q79 (by simp) (by simp) (.inl rfl) ?_
    simp -implicitDefEqProofs [-aA, -gval]
    exact fin _ _ hR2 (by exact rfl) (fun j hj => by simp [Hp.set]; omega)
   ·simp -implicitDefEqProofs [-aA, -gval, k0, k1]
    exact fin 0 _ (by rw [← hR1]; simp [k0, k1]) (by exact rfl) (fun j hj => by simp [Hp.set]; omega)
 ·simp -implicitDefEqProofs [-aA, -gval, z]
  exact fin E _ (by rw [← hR1]; simp [z]) (by exact rfl) (fun j hj => by simp [Hp.set]; omega)
end Go.Proofs.YtdpbobkcbakpfaaGreatDoor

namespace Go.Proofs.YtdpbobkcbakpfaaGreatDoor
open Go Go.Ab
set_option maxRecDepth 100000
set_option maxHeartbeats 4000000
attribute [local simp] bL aM aS aK aY aO bI tyC fdC vlC ndC aP D.dQ D.pt
theorem mJ : ∀ {l : List Int}, l.findIdx? (fun e => e != 0) = none → cK l = ((l.length : Int), 0)
 | [], _ => rfl
 | e :: r, h => by
  rw [List.findIdx?_eq_none_iff] at h
  have he : e = 0 := by simpa using h e (by simp)
  have ih := mJ (l := r) (by rw [List.findIdx?_eq_none_iff]; exact fun x hx => h x (by simp [hx]))
  simp only [cK, he, beq_self_eq_true, if_true, ih, List.length_cons]
  simp
theorem mK : ∀ {l : List Int} {i : Nat} {e : Int}, l.findIdx? (fun e => e != 0) = some i → l[i]? = some e → cK l = ((i : Int), e)
 | [], i, e, h, _ => by simp at h
 | x :: r, i, e, h, he => by
  rw [List.findIdx?_cons] at h
  by_cases hx : x = 0
  ·simp only [hx, bne_self_eq_false, Bool.false_eq_true, if_false, Option.map_eq_some_iff] at h
   obtain ⟨j, hj, rfl⟩ := h
   have ih := mK (l := r) hj (by simpa using he)
   simp only [cK, hx, beq_self_eq_true, if_true, ih]
   simp
  ·have hb : (x != 0) = true := by simpa using hx
   simp only [hb, if_true, Option.some.injEq] at h
   subst h
   have : x = e := by simpa using he
   subst this
   simp [cK, hx]
theorem aKD {t : Ty} {f : Nat → Int} {i : Nat} {y : Int} (h : (lL t f)[i]? = some y) : ∃ x, t.limits[i]? = some x ∧ y = nR t x (i + 1 == t.limits.length) (f i) := by
 simp only [lL, List.getElem?_mapIdx, Option.map_eq_some_iff] at h
 obtain ⟨x, hx, rfl⟩ := h
 exact ⟨x, hx, rfl⟩
theorem oK {t : Ty} {f : Nat → Int} : (lL t f).length = t.limits.length := by simp [lL]
def kX (t : Ty) : Int × Int := if t.check != 0 then (0, t.check) else aB0 t
theorem iR (t : Ty) (h : t.check = 0) : bE t.limits = true := by
 have h1 : t.bS = 0 := by
  rw [Ty.check] at h
  split at h
  ·cases h
  ·exact h
 rw [Ty.pO] at h1
 have h2 : t.dN = 0 := by
  split at h1
  ·rename_i e; rw [h1] at e; simp at e
  ·split at h1
   ·rename_i e; rw [h1] at e; simp at e
   ·rename_i e; simpa using e
 have h3 := (vJ t h2).2
 rw [Ty.eG] at h3
 exact ((Bool.and_eq_true _ _).mp h3).2
theorem aRW (n : Nat) : List.replicate n [A.t (I 0)] = (List.replicate n (0 : Int)).map fun a => [A.t (I a)] := by simp
attribute [local simp] c14t4 c14t5 c14t8 c14t17 c14t18 c14t19 c14t27 c14t28 c14t29 c14t31 c14t32 c14b33 c14t34 c14t36 c14t37 c14t38 c14t39 c14t40 c14t41 c14t42 c14 in
theorem aFI (t : Ty) (hn : t.narrow = true) (h0 : bE t.limits = true) (hl0 : ¬ t.limits.length = 0) (a : Int) (ha : eC t.kind = a) (st : St) (h1 : st.tmps 1 = .one (.ptr ⟨0, 0, 8, 0, 0⟩)) (hh0 : st.heap 0 = some (.arr 0 false 8 [tyC t]))
  (h5 : st.tmps 5 = .one (.ptr ⟨18, 0, 9, 0, 0⟩)) (h6 : st.tmps 6 = .one (.t (I a))) (hc : CK t (List.replicate t.limits.length 0) 18 16 0 st.heap) (hnx : 18 < st.nx) :
  aT Tryz.prog 61 (aC [.tmp 2, .tmp 3] (.tup [.one (.t (I (cK (lL t (lk (cL t)))).1)), .one (.t (I (cK (lL t (lk (cL t)))).2))])) c14t37 [] st := by
 obtain ⟨R0, hR0⟩ : ∃ R, cK (lL t (lk (cL t))) = R := ⟨_, rfl⟩
 rw [hR0]
 obtain ⟨hlen, bg, T⟩ := cZ h0
 obtain ⟨_, _, _, _, _, hns, _, _⟩ := (Ty.aR t).1 hn
 have hw : IntKind.i64.wrap ((t.limits.length : Int) - 1) = ((t.limits.length - 1 : Nat) : Int) := by rw [wrap_i64 (by omega) (by omega)]; omega
 obtain ⟨o1, o2, o3, o4⟩ := aF hh0
 have pl : dE gX t.limits t.limits.length (t.limits.length - 1) a (List.replicate t.limits.length 0) = cL t := by rw [cL, ha]
 have p62 := fun n => P62 t bg T hlen (fun x hx => by have := (hns x hx).2; simp only [short]; omega) 18 16 0 t.limits.length (t.limits.length - 1) a (List.replicate t.limits.length 0) st.heap n (by omega) (by omega) hc
 rw [pl] at p62
 have hpl : (cL t).length = t.limits.length := by rw [cL, kH]; simp
 have hc2 : CK t (cL t) 18 16 0 (fL st.heap 16 0 (cL t)) := hc.put (by rw [hpl]; simp)
 have hz : (fL st.heap 16 0 (cL t)) 0 = some (.arr 0 false 8 [tyC t]) := by
  simp only [fL, Hp.set]; rw [if_neg (by omega)]; exact hh0
 simp -implicitDefEqProofs [-aA, -gval, h1, h5, h6, o1, o2, o3, hw]
 refine aD.imp (p62 _) ?_
 generalize fL st.heap 16 0 (cL t) = h2 at *
 obtain ⟨o1, o2, o3, o4⟩ := aF hz
 simp -implicitDefEqProofs [-aA, -gval, h1, o1, o2, o3]
 refine mC (lL t (lk (cL t))) (fun e => e != 0) [1, 5, 46] [0, 16, 18] (fun i st => st.tmps 47 = .one (.t (I i))) (by rw [short, oK]; omega) ?_ ?_ ?_
 ·exact ⟨by simp, by simp, by simp; omega⟩
 ·intro i y st' hi hiI hw hg hy hany hx hk hh
  simp [h1, h5] at hk
  rw [oK] at hi hiI
  obtain ⟨x, hxl, hyx⟩ := aKD hg
  simp at hh
  obtain ⟨⟨q0, n0⟩, ⟨q16, n16⟩, q18, n18⟩ := hh
  have hal : (cL t)[i]? = some (lk (cL t) i) := by
   have : i < (cL t).length := by omega
   simp [lk, List.getElem?_eq_getElem this]
  have p63 := fun n => P63 t (cL t) 18 16 0 st'.heap (hc2.of q18 q16) i x (lk (cL t) i) hxl (by have := (hns x (List.mem_of_getElem? hxl)).1; omega) hlen hal n
  rw [← hyx] at p63
  simp -implicitDefEqProofs [-aA, -gval, hx, hk, hiI]
  refine aD.imp (p63 _) ?_
  rcases eqCases y 0 with z | z
  ·subst z
   simp -implicitDefEqProofs [-aA, -gval, hx, hk, hw, q0, q16, q18]
   exact ⟨⟨h1.symm, h5.symm⟩, by omega, by omega⟩
  ·have hf := mK (hany z.2.2.2.2.1) hg
   rw [hf] at hR0
   subst hR0
   simp -implicitDefEqProofs [-aA, -gval, z, aC]
 ·intro st' hany hx hk hh
  simp [h1, h5] at hk
  simp at hh
  rw [oK] at hx
  have hf := mJ hany
  rw [hf, oK] at hR0
  subst hR0
  obtain ⟨o1, o2, o3, o4⟩ := aF (hh.1.1.trans hz)
  simp -implicitDefEqProofs [-aA, -gval, hx, hk, o1, o2, o3, aC]
attribute [local simp] c14t4 c14t5 c14t8 c14t17 c14t18 c14t19 c14t27 c14t28 c14t29 c14t31 c14t32 c14b33 c14t34 c14t36 c14t38 c14t39 c14t40 c14t41 c14t42 c14 in
theorem P14 (t : Ty) (hn : t.narrow = true) : PSp Tryz.prog 14 [.agg (tyC t)] (.tup [.one (.t (I (kX t).1)), .one (.t (I (kX t).2))]) := by
 have hfine := Ty.iY t hn
 obtain ⟨R0, hR0⟩ : ∃ R, kX t = R := ⟨_, rfl⟩
 rw [hR0]
 refine k14.aG (by simp) (by simp [D.closed, A.closed]) rfl ?_
 simp -implicitDefEqProofs [-aA, -gval]
 have p59 := P59 t hn
 refine aD.tree p59 rfl ?_
 rcases eqCases t.check 0 with z | z
 ·rw [z]
  have hR1 : aB0 t = R0 := by rw [← hR0]; simp [kX, z]
  have htree := iR t z
  obtain ⟨hlen, bg, T⟩ := cZ htree
  by_cases hl0 : t.limits.length = 0
  ·have aO4 : t.limits = [] := List.length_eq_zero_iff.1 hl0
   have : R0 = (0, 0) := by rw [← hR1]; simp [aB0, hl0]
   subst this
   simp -implicitDefEqProofs [-aA, -gval, aO4, aC]
  ·have aKE : ((t.limits.length : Int) == 0) = false := by simpa using hl0
   have b1 : 8 * (t.limits.length : Int) ≤ 281474976710656 := by omega
   have b2 : (t.limits.length : Int) ≤ 9223372036854775807 := by omega
   simp -implicitDefEqProofs [-aA, -gval, aKE, b1, b2]
   refine aD.tree (P60 t.kind) rfl ?_
   have hc : ∀ {h : Hp}, h 18 = some (.arr 0 false 9 [tyC t ++ [.ref 16 0 0 t.limits.length 1 true]]) → h 16 = some (.arr 0 false 1 (List.replicate t.limits.length [.t (I 0)])) → CK t (List.replicate t.limits.length 0) 18 16 0 h := fun e1 e2 => ⟨by simpa using e1, by simpa using e2, by simp⟩
   have hO : ∀ a, eC t.kind = a → (eC t.kind == 0 && t.kind != 2) = false → cK (lL t (lk (cL t))) = R0 := fun a _ h2 => by
    rw [← hR1]; simp [aB0, hl0, h2]
   obtain ⟨s, es⟩ : ∃ s, (t.kind == 6 || t.kind == 4 || t.kind == 5) = s := ⟨_, rfl⟩
   rw [es]
   cases s
   ·simp -implicitDefEqProofs [-aA, -gval]
    refine aD.tree (P61 t.kind) rfl ?_
    obtain ⟨l, el⟩ : ∃ l, (t.kind == 11 || t.kind == 12) = l := ⟨_, rfl⟩
    rw [el]
    cases l
    ·rcases eqCases t.kind 2 with k2 | k2
     ·have hp : eC t.kind = 0 := by simp [eC, k2]
      rw [← hO 0 hp (by simp [k2])]
      simp -implicitDefEqProofs [-aA, -gval, k2]
      exact aFI t hn htree hl0 0 hp _ (by simp) (by simp [Hp.set, k2]) (by simp) (by simp) (hc (by simp [Hp.set, k2]) (by simp [Hp.set])) (by simp)
     ·have hp : eC t.kind = 0 := by simp only [eC, es, el]; rfl
      have : R0 = (0, 4) := by rw [← hR1]; simp [aB0, hl0, hp, k2]
      subst this
      simp -implicitDefEqProofs [-aA, -gval, k2, aC]
    ·have hp : eC t.kind = 2 := by simp only [eC, es, el]; rfl
     rw [← hO 2 hp (by rw [hp]; rfl)]
     simp -implicitDefEqProofs [-aA, -gval]
     exact aFI t hn htree hl0 2 hp _ (by simp) (by simp [Hp.set]) (by simp) (by simp) (hc (by simp [Hp.set]) (by simp [Hp.set])) (by simp)
   ·have hp : eC t.kind = 1 := by simp only [eC, es]; rfl
    rw [← hO 1 hp (by rw [hp]; rfl)]
    simp -implicitDefEqProofs [-aA, -gval]
    exact aFI t hn htree hl0 1 hp _ (by simp) (by simp [Hp.set]) (by simp) (by simp) (hc (by simp [Hp.set]) (by simp [Hp.set])) (by simp)
 ·have : R0 = (0, t.check) := by rw [← hR0]; simp [kX, z]
  subst this
  simp -implicitDefEqProofs [-aA, -gval, z, aC]
end Go.Proofs.YtdpbobkcbakpfaaGreatDoor

namespace Go.Proofs.YtdpbobkcbakpfaaGreatDoor
open Go Go.Ab
set_option maxRecDepth 100000
set_option maxHeartbeats 4000000
attribute [local simp] bL aM aS aK aY aO bI tyC fdC vlC ndC aP D.dQ D.pt
def AB (t : Ty) (ab : List Int) (sid : Nat) (st : St) : Prop := st.tmps 1 = .one (.ptr ⟨0, 0, 8, 0, 0⟩) ∧ st.heap 0 = some (.arr 0 false 8 [tyC t]) ∧ st.tmps 3 = .one (.ref sid 0 0 ab.length 1 true) ∧ st.heap sid = some (.arr 0 false 1 (ab.map fun a => [.t (I a)])) ∧ sid < st.nx ∧ 0 < sid
theorem aNG {s : List Int} {i : Nat} (h : i < s.length) : s[i]? = some (lk s i) := by
 simp [lk, List.getElem?_eq_getElem h]
theorem aset {s : List Int} {c : Nat} {v : Int} : ((s.map fun a => [A.t (I a)]).set c [A.t (I v)]) = (s.set c v).map fun a => [A.t (I a)] := by simp [List.map_set]
theorem AB.put {t : Ty} {s : List Int} {sid : Nat} {st : St} (h : AB t s sid st) {tm : Nat → D} {nx c : Nat} {v : Int} (h1 : tm 1 = st.tmps 1) (h3 : tm 3 = st.tmps 3) (hn : st.nx ≤ nx) :
  AB t (s.set c v) sid ⟨tm, st.heap.set sid (.arr 0 false 1 ((s.map fun a => [.t (I a)]).set c [.t (I v)])), nx⟩ := by
 obtain ⟨b1, b2, b3, b4, b5, b6⟩ := h
 have u : ¬ 0 = sid := by omega
 exact ⟨h1.trans b1, by simp [Hp.set, u, b2], by rw [List.length_set]; exact h3.trans b3, by simp [Hp.set, List.map_set], Nat.lt_of_lt_of_le b5 hn, b6⟩
attribute [local simp] c114t4 c114t7 c114t11 c114t15 c114t18 c114t20 c114t21 c114t23 c114b24 c114t25 c114t26 c114t27 c114t29 c114b30 c114t31 c114t33 c114t34 c114 in
theorem aNH (t : Ty) (ab : List Int) (sid i : Nat) (x : Nd) (hx : t.limits[i]? = some x) (hl : ab.length = t.limits.length) (_hlen : t.limits.length ≤ 20) (hargs : ∀ a ∈ x.args, ∃ c : Nat, a = (c : Int) ∧ c < i) (hsa : short x.args) (st : St) (h : AB t ab sid st) (h4 : st.tmps 4 = .one (.t (I i))) (A : Exit → St → Prop) (ks : List KF)
  (rest : ∀ st', AB t (dT mV x i ab) sid st' → st'.tmps 4 = .one (.t (I i)) → cO Tryz.prog 61 A ks .normal st') : aT Tryz.prog 61 A c114t27 ks st := by
 obtain ⟨b1, b2, b3, b4, b5, b6⟩ := h
 obtain ⟨o1, o2, o3, o4⟩ := aF b2
 have hi : i < t.limits.length := (List.getElem?_eq_some_iff.1 hx).1
 have hiI : (i : Int) < (t.limits.length : Int) := by omega
 simp -implicitDefEqProofs [-aA, -gval, b1, h4, o1, o2, o3, hi, hiI, aE hx, Nd.row, -List.getElem_map]
 refine uX x.args (fun b (c : Int) => b.set c.toNat (mV x.k (lk b i))) ab [] [] (fun k s st' => (∃ N, st'.tmps 5 = .one (.ptr ⟨N, 0, 5, 0, 0⟩) ∧ st'.heap N = some (.arr 0 false 5 [ndC x]) ∧ N < st'.nx ∧ N ≠ sid ∧ N ≠ 0) ∧ AB t s sid st' ∧ st'.tmps 4 = .one (.t (I i)) ∧ st'.tmps 6 = .one (.t (I k)) ∧ s.length = ab.length) hsa ?_ ?_ ?_
 ·refine ⟨⟨⟨_, by exact rfl, ?_⟩, ?_⟩, by simp, by simp⟩
  ·exact ⟨by simp [Hp.set], by simp, by omega, by omega⟩
  ·have u1 : ¬ sid = st.nx + 5 := by omega
   exact ⟨⟨by simp [b1], by simp [Hp.set, b2], by simp [b3], by simp [Hp.set, b4, u1], by simp; omega, b6⟩, by simp [h4], by simp, rfl⟩
 ·rintro k y s st' hk hkI hw hg hy hs ⟨⟨N, n5, nh, nnx, nsid, n0⟩, ⟨b1, b2, b3, b4, b5, b6⟩, h4, h6, hsl⟩ _ _
  obtain ⟨c, rfl, hci⟩ := hargs y hy
  obtain ⟨o1, o2, o3, o4⟩ := aF b2
  obtain ⟨p1, p2, p3, p4⟩ := aF nh
  obtain ⟨q1, q2, q3, q4⟩ := aF b4
  have his : i < s.length := by omega
  have aMQ : (i : Int) < (s.length : Int) := by omega
  have hcs : c < s.length := by omega
  have aOY : (c : Int) < (s.length : Int) := by omega
  have hsi := aNG his
  have ha0 : s[c]? = some (s[c]'hcs) := List.getElem?_eq_getElem hcs
  generalize lk s i = v at *
  rcases eqCases x.k 2 with k2 | k2
  ·simp -implicitDefEqProofs [-aA, -gval, b3, h4, h6, n5, p1, p2, p3, q1, q2, q3, q4, hk, hkI, aE hg, his, aMQ, hcs, aOY, eL hsi, eL ha0, k2, hw, -List.getElem_map]
   rw [show mV 2 v = 5 by simp [mV]]
   exact ⟨⟨by rw [mD nsid, nh]; simp [k2], by omega, nsid, n0⟩, AB.put ⟨b1, b2, b3, b4, b5, b6⟩ (by simp) (by simp) (by omega), hsl⟩
  ·rcases eqCases x.k 3 with k3 | k3
   ·simp -implicitDefEqProofs [-aA, -gval, b3, h4, h6, n5, p1, p2, p3, q1, q2, q3, q4, hk, hkI, aE hg, his, aMQ, hcs, aOY, eL hsi, eL ha0, k3, hw, -List.getElem_map]
    rw [show mV 3 v = 6 by simp [mV]]
    exact ⟨⟨by rw [mD nsid, nh]; simp [k3], by omega, nsid, n0⟩, AB.put ⟨b1, b2, b3, b4, b5, b6⟩ (by simp) (by simp) (by omega), hsl⟩
   ·simp -implicitDefEqProofs [-aA, -gval, b3, h4, h6, n5, p1, p2, p3, q1, q2, q3, q4, hk, hkI, aE hg, his, aMQ, hcs, aOY, eL hsi, eL ha0, k2, k3, hw, -List.getElem_map]
    rw [show mV x.k v = v by simp [mV, k2, k3]]
    exact ⟨⟨by rw [mD nsid, nh]; simp, by omega, nsid, n0⟩, AB.put ⟨b1, b2, b3, b4, b5, b6⟩ (by simp) (by simp) (by omega), hsl⟩
 ·rintro st' ⟨⟨N, n5, nh, nnx, nsid, n0⟩, hab, h4, h6, hsl⟩ _ _
  obtain ⟨p1, p2, p3, p4⟩ := aF nh
  simp -implicitDefEqProofs [-aA, -gval, h6, n5, p1, p2, p3]
  refine rest _ ?_ ?_
  ·obtain ⟨b1, b2, b3, b4, b5, b6⟩ := hab
   exact ⟨by simp [b1], by simp [b2], by simp [b3, dT], by simp [b4, dT], by simp; omega, b6⟩
  ·simp [h4]
attribute [local simp] c114t4 c114t7 c114t11 c114t15 c114t18 c114t20 c114t21 c114t23 c114b24 c114t25 c114t26 c114t29 c114b30 c114t31 c114t33 c114t34 c114 in
theorem aVK (t : Ty) (hn : t.narrow = true) (h0 : bE t.limits = true) : PSp Tryz.prog 114 [.agg (tyC t)] (.one (.t (bI (eT t)))) := by
 obtain ⟨hlen, bg, T⟩ := cZ h0
 obtain ⟨_, _, _, _, _, hns, _, _⟩ := (Ty.aR t).1 hn
 have p49 : PSp Tryz.prog 49 [.one (.t (I t.kind))] (.one (.t (I (gD t.kind)))) := P49 t.kind
 have hw : IntKind.i64.wrap ((t.limits.length : Int) - 1) = (t.limits.length : Int) - 1 := wrap_i64 (by omega) (by omega)
 have b1 : 8 * (t.limits.length : Int) ≤ 281474976710656 := by omega
 have b2 : (t.limits.length : Int) ≤ 9223372036854775807 := by omega
 refine k114.aG (by simp) (by simp [D.closed, A.closed]) (by simp [D.closed, A.closed]) ?_
 simp -implicitDefEqProofs [-aA, -gval, b1, b2, hw]
 refine W.fJ (fun k st => ∃ ab, AB t ab 5 st ∧ st.tmps 4 = .one (.t (I ((k : Int) - 1))) ∧ k ≤ t.limits.length ∧ ab.length = t.limits.length ∧ eW mV t.limits k (if k = t.limits.length then ab.set (t.limits.length - 1) (gD t.kind) else ab) = eT t) t.limits.length ⟨List.replicate t.limits.length 0, ⟨by simp, by simp [Hp.set], by simp, by simp [Hp.set], by simp, by simp⟩, by simp, by simp, by simp, by simp [eT]⟩ ?_
 rintro k st ⟨ab, hab, h4, hk, hl, hgo⟩
 rcases k with - | i
 ·have e4 : ((0 : Nat) : Int) - 1 = -1 := by omega
  rw [e4] at h4
  obtain ⟨c1, c2, c3, c4, c5, c6⟩ := hab
  have eab : ab = eT t := by
   rw [← hgo, eW]
   split
   ·rename_i e
    have : ab = [] := List.length_eq_zero_iff.1 (by omega)
    rw [this]; rfl
   ·rfl
  subst eab
  simp -implicitDefEqProofs [-aA, -gval, h4, c3, aC]
  exact mH (rs := (eT t).map fun a => [I a]) (by rw [c4]; simp [Function.comp_def]) (by simp)
 ·have e4 : ((i + 1 : Nat) : Int) - 1 = i := by omega
  rw [e4] at h4
  have hwi : IntKind.i64.wrap ((i : Int) - 1) = (i : Int) - 1 := wrap_i64 (by omega) (by omega)
  have hx : t.limits[i]? = some (t.limits[i]'(by omega)) := List.getElem?_eq_getElem _
  generalize t.limits[i]'(by omega) = x at hx
  have hargs : ∀ a ∈ x.args, ∃ c : Nat, a = (c : Int) ∧ c < i := fun a ha => by
   obtain ⟨c, q1, q2, _⟩ := (T.node i x hx).arg a ha
   exact ⟨c, q1, q2⟩
  have hsa : short x.args := by have := (hns x (List.mem_of_getElem? hx)).2; simp only [short]; omega
  have fin : ∀ ab1 : List Int, ab1.length = t.limits.length → eW mV t.limits (i + 1) ab1 = eT t → ∀ st', AB t (dT mV x i ab1) 5 st' → ∀ (tm : Nat → D) (nx' : Nat), tm 1 = st'.tmps 1 → tm 3 = st'.tmps 3 → st'.nx ≤ nx' →
    ∃ k' : Nat, k' < i + 1 ∧ ∃ ab, AB t ab 5 ⟨tm, st'.heap, nx'⟩ ∧ (i : Int) = (k' : Int) ∧ k' ≤ t.limits.length ∧ ab.length = t.limits.length ∧ eW mV t.limits k' (if k' = t.limits.length then ab.set (t.limits.length - 1) (gD t.kind) else ab) = eT t := by
   intro ab1 hl1 hg1 st' hab' tm nx' g1 g3 hn'
   obtain ⟨c1, c2, c3, c4, c5, c6⟩ := hab'
   refine ⟨i, by omega, dT mV x i ab1, ⟨g1.trans c1, c2, g3.trans c3, c4, Nat.lt_of_lt_of_le c5 hn', c6⟩, rfl, by omega, ?_, ?_⟩
   ·rw [(nP (f := mV) (x := x) (i := i) (ab := ab1) (by omega) hargs).1, hl1]
   ·rw [if_neg (by omega)]
    rw [eW, hx] at hg1
    exact hg1
  by_cases hlast : i + 1 = t.limits.length
  ·rw [if_pos hlast] at hgo
   have hb : ((i : Int) == (t.limits.length : Int) - 1) = true := by simp; omega
   obtain ⟨c1, c2, c3, c4, c5, c6⟩ := hab
   obtain ⟨o1, o2, o3, o4⟩ := aF c2
   obtain ⟨q1, q2, q3, q4⟩ := aF c4
   have his : i < ab.length := by omega
   have aMQ : (i : Int) < (ab.length : Int) := by omega
   have ha0 : ab[i]? = some (ab[i]'his) := List.getElem?_eq_getElem his
   simp -implicitDefEqProofs [-aA, -gval, h4, c1, c3, hl, hw, hb, o1, o2, o3]
   refine aD.tree p49 rfl ?_
   simp -implicitDefEqProofs [-aA, -gval, hl, q1, q2, q3, q4, ha0, -List.getElem_map]
   refine ⟨by omega, ?_⟩
   refine aNH t (ab.set i (gD t.kind)) 5 i x hx (by simp [hl]) hlen hargs hsa _ ?_ ?_ _ _ fun st' hab' h4' => ?_
   ·have c3' : st.tmps 3 = .one (.ref 5 0 0 ab.length 1 true) := c3
    refine AB.put ⟨c1, c2, c3', c4, c5, c6⟩ ?_ ?_ ?_
    ·simp
    ·simp
    ·omega
   ·simp [h4]
   ·simp -implicitDefEqProofs [-aA, -gval, h4', hwi]
    refine fin (ab.set i (gD t.kind)) (by simp [hl]) ?_ st' hab' _ _ ?_ ?_ ?_
    ·have e : i = t.limits.length - 1 := by omega
     rw [← e] at hgo
     exact hgo
    ·simp
    ·simp
    ·omega
  ·rw [if_neg hlast] at hgo
   have hb : ((i : Int) == (t.limits.length : Int) - 1) = false := by simp; omega
   obtain ⟨c1, c2, c3, c4, c5, c6⟩ := hab
   simp -implicitDefEqProofs [-aA, -gval, h4, c3, hl, hw, hb]
   refine aNH t ab 5 i x hx hl hlen hargs hsa _ ?_ ?_ _ _ fun st' hab' h4' => ?_
   ·exact ⟨by simp [c1], by simp [c2], by simp [c3], by simp [c4], by first | (simp; done) | (simp; omega), c6⟩
   ·simp [h4]
   ·simp -implicitDefEqProofs [-aA, -gval, h4', hwi]
    refine fin ab hl hgo st' hab' _ _ ?_ ?_ ?_
    ·simp
    ·simp
    ·omega
end Go.Proofs.YtdpbobkcbakpfaaGreatDoor

namespace Go.Proofs.YtdpbobkcbakpfaaGreatDoor
open Go Go.Ab
set_option maxRecDepth 100000
set_option maxHeartbeats 4000000
attribute [local simp] bL aM aS aK aY aO bI tyC fdC vlC ndC aP D.dQ D.pt
theorem aKF {t : Ty} {f : Nat → Int} {i : Nat} {y : Int} (h : (mT t f)[i]? = some y) : ∃ x, t.limits[i]? = some x ∧ y = mS t x (i + 1 == t.limits.length) (f i) := by
 simp only [mT, List.getElem?_mapIdx, Option.map_eq_some_iff] at h
 obtain ⟨x, hx, rfl⟩ := h
 exact ⟨x, hx, rfl⟩
theorem oL {t : Ty} {f : Nat → Int} : (mT t f).length = t.limits.length := by simp [mT]
theorem aDB {t : Ty} (h0 : bE t.limits = true) : (eT t).length = t.limits.length := by
 obtain ⟨hlen, bg, T⟩ := cZ h0
 exact (oS (f := mV) T t.limits.length _ (Nat.le_refl _) (by simp) ⟨fun p y p1 p2 py c hc => by
  have := (List.getElem?_eq_some_iff.1 py).1
  omega⟩).1
attribute [local simp] c68t3 c68t7 c68t11 c68t14 c68t17 c68t22 c68t23 c68t24 c68t25 c68t26 c68t27 c68t28 c68t30 c68b31 c68t32 c68t34 c68t35 c68t36 c68 in
theorem aKG (t : Ty) (hn : t.narrow = true) (h0 : bE t.limits = true) (st : St) (h1 : st.tmps 1 = .one (.ptr ⟨0, 0, 8, 0, 0⟩)) (hh0 : st.heap 0 = some (.arr 0 false 8 [tyC t])) (_hnx : 0 < st.nx) :
  aT Tryz.prog 82 (aC [.tmp 2, .tmp 3] (.tup [.one (.t (I (cK (mT t (lk (eT t)))).1)), .one (.t (I (cK (mT t (lk (eT t)))).2))])) c68t35 [] st := by
 obtain ⟨R0, hR0⟩ : ∃ R, cK (mT t (lk (eT t))) = R := ⟨_, rfl⟩
 rw [hR0]
 obtain ⟨hlen, bg, T⟩ := cZ h0
 obtain ⟨_, _, _, _, _, hns, _, _⟩ := (Ty.aR t).1 hn
 have aVL := aVK t hn h0
 have hal := aDB h0
 obtain ⟨o1, o2, o3, o4⟩ := aF hh0
 generalize eT t = ab at *
 simp -implicitDefEqProofs [-aA, -gval, h1, o1, o2, o3]
 refine aD.tree aVL rfl ?_
 simp -implicitDefEqProofs [-aA, -gval]
 refine mC (mT t (lk ab)) (fun e => e != 0) [1, 4] [0] (fun i st => st.tmps 5 = .one (.t (I i))) (by rw [short, oL]; omega) ?_ ?_ ?_
 ·exact ⟨by simp, by simp, by first | (simp; done) | (simp; omega)⟩
 ·intro i y st' hi hiI hw hg hy hany hx hk hh
  simp [h1] at hk
  simp at hh
  rw [oL] at hi hiI
  obtain ⟨x, hxl, hyx⟩ := aKF hg
  obtain ⟨o1, o2, o3, o4⟩ := aF (hh.1.trans hh0)
  have hb : ab[i]? = some (lk ab i) := aNG (by omega)
  generalize lk ab i = b at *
  obtain ⟨rt, hrt⟩ : ∃ r, (i + 1 == t.limits.length) = r := ⟨_, rfl⟩
  rw [hrt] at hyx
  have hwl : IntKind.i64.wrap ((t.limits.length : Int) - 1) = (t.limits.length : Int) - 1 := wrap_i64 (by omega) (by omega)
  have aMP : decide ((i : Int) < (t.limits.length : Int) - 1) = !rt := by
   rw [← hrt, Bool.eq_iff_iff]; simp; omega
  have aB1 : PSp Tryz.prog 115 [.one (.t (I x.k)), .one (.t (I b))] (.one (.t (.bool (jR x.k b)))) := aT5 x.k b
  have aOZ := aV7 x b t.kind
  have aRX := aV8 t x.s b (by have := (hns x (List.mem_of_getElem? hxl)).1; omega)
  have hne : ∀ k, ¬ 0 = st'.nx + k := fun k => by omega
  have stop : ∀ e : Int, (e != 0) = true → y = e → R0 = ((i : Int), e) := fun e h1 h2 => by
   subst h2
   rw [← hR0]; exact mK (hany h1) hg
  have onz : (st'.heap 0 = st.heap 0) := hh.1
  have nz0 : 0 < st'.nx := hh.2
  clear hany
  rcases eqCases x.k 7 with k7 | k7
  ·cases rt
   ·have e := stop 28 rfl (by rw [hyx]; simp [mS, k7])
    subst e
    simp -implicitDefEqProofs [-aA, -gval, hx, hk, hi, hiI, aE hxl, Nd.row, o1, o2, o3, hal, hwl, aMP, k7, -List.getElem_map]
    simp -implicitDefEqProofs [-aA, -gval, aC]
   ·have ey : y = 0 := by rw [hyx]; simp [mS, k7, jR]
    have es : jR x.k b = true := by simp [jR, k7]
    rw [es, k7] at aB1
    simp -implicitDefEqProofs [-aA, -gval, hx, hk, hi, hiI, aE hxl, aE hb, Nd.row, o1, o2, o3, hal, hwl, aMP, k7, -List.getElem_map]
    refine aD.bO aB1 rfl ?_
    simp -implicitDefEqProofs [-aA, -gval, hx, hk, hw, ey]
    exact ⟨h1.symm, by rw [mD (by omega)]; exact onz⟩
  ·obtain ⟨sb, es⟩ : ∃ s, jR x.k b = s := ⟨_, rfl⟩
   rw [es] at aB1
   cases sb
   ·have e := stop 17 rfl (by rw [hyx]; simp [mS, k7, es])
    subst e
    simp -implicitDefEqProofs [-aA, -gval, hx, hk, hi, hiI, aE hxl, aE hb, Nd.row, o1, o2, o3, hal, k7, -List.getElem_map]
    refine aD.bO aB1 rfl ?_
    simp -implicitDefEqProofs [-aA, -gval, hx, aC]
   ·rcases eqCases x.k 0 with k0 | k0
    ·obtain ⟨nr, en⟩ : ∃ s, iL x b t.kind = s := ⟨_, rfl⟩
     rw [en] at aOZ
     rw [k0] at aB1
     simp only [ndC, k0] at aOZ
     simp -implicitDefEqProofs [-aA, -gval, hx, hk, hi, hiI, aE hxl, aE hb, Nd.row, o1, o2, o3, hal, k0, -List.getElem_map]
     refine aD.bO aB1 rfl ?_
     simp -implicitDefEqProofs [-aA, -gval, hx, hk, hi, hiI, aE hb, o1, o2, o3, hal, -List.getElem_map]
     refine aD.bO aOZ rfl ?_
     cases nr
     ·have ey : y = 0 := by rw [hyx]; simp only [mS, es]; simp [k0, en]
      simp -implicitDefEqProofs [-aA, -gval, hx, hk, hw, ey]
      exact ⟨h1.symm, by rw [mD (by omega)]; exact onz⟩
     ·have e := stop 3 rfl (by rw [hyx]; simp only [mS, es]; simp [k0, en])
      subst e
      simp -implicitDefEqProofs [-aA, -gval, hx, aC]
    ·rcases eqCases x.k 1 with k1 | k1
     ·obtain ⟨E, eE⟩ : ∃ E, lK t x.s b = E := ⟨_, rfl⟩
      rw [eE] at aRX
      rw [k1] at aB1
      simp -implicitDefEqProofs [-aA, -gval, hx, hk, hi, hiI, aE hxl, aE hb, Nd.row, o1, o2, o3, hal, k1, -List.getElem_map]
      refine aD.bO aB1 rfl ?_
      simp -implicitDefEqProofs [-aA, -gval, hx, hk, hi, hiI, aE hb, o1, o2, o3, hal, -List.getElem_map]
      refine aD.bO aRX rfl ?_
      rcases eqCases E 0 with z | z
      ·have ey : y = 0 := by rw [hyx]; simp only [mS, es]; simp [k1, eE, z]
       simp -implicitDefEqProofs [-aA, -gval, hx, hk, hw, ey, z]
       exact ⟨h1.symm, by rw [mD (by omega)]; exact onz⟩
      ·have e := stop E (by simp [z]) (by rw [hyx]; simp only [mS, es]; simp [k1, eE])
       subst e
       simp -implicitDefEqProofs [-aA, -gval, hx, z, aC]
     ·have ey : y = 0 := by rw [hyx]; simp only [mS, es]; simp [k0, k1, k7]
      simp -implicitDefEqProofs [-aA, -gval, hx, hk, hi, hiI, aE hxl, aE hb, Nd.row, o1, o2, o3, hal, k7, -List.getElem_map]
      refine aD.bO aB1 rfl ?_
      simp -implicitDefEqProofs [-aA, -gval, hx, hk, hi, hiI, aE hb, o1, o2, o3, hal, hw, ey, k0, k1, -List.getElem_map]
      exact ⟨h1.symm, by rw [mD (by omega)]; exact onz⟩
 ·intro st' hany hx hk hh
  simp [h1] at hk
  rw [oL] at hx
  have hf := mJ hany
  rw [hf, oL] at hR0
  subst hR0
  simp -implicitDefEqProofs [-aA, -gval, hx, hk, hal, aC]
attribute [local simp] c68t3 c68t7 c68t11 c68t14 c68t17 c68t22 c68t23 c68t24 c68t25 c68t26 c68t27 c68t28 c68t30 c68b31 c68t32 c68t34 c68t36 c68 in
theorem P68 (t : Ty) (hn : t.narrow = true) (h0 : bE t.limits = true) : PSp Tryz.prog 68 [.agg (tyC t)] (.tup [.one (.t (I (wV t).1)), .one (.t (I (wV t).2))]) := by
 obtain ⟨hlen, bg, T⟩ := cZ h0
 have p49 : PSp Tryz.prog 49 [.one (.t (I t.kind))] (.one (.t (I (gD t.kind)))) := P49 t.kind
 obtain ⟨R0, hR0⟩ : ∃ R, wV t = R := ⟨_, rfl⟩
 rw [hR0]
 refine k68.aG (by simp) (by simp [D.closed, A.closed]) rfl ?_
 by_cases hl0 : t.limits.length = 0
 ·have aKE : ¬ 0 < t.limits.length := by omega
  have : cK (mT t (lk (eT t))) = R0 := by rw [← hR0]; simp [wV, hl0]
  subst this
  simp -implicitDefEqProofs [-aA, -gval, aKE]
  refine aKG t hn h0 _ ?_ ?_ ?_
  ·simp
  ·simp [Hp.set]
  ·simp
 ·have aKE : 0 < t.limits.length := by omega
  simp -implicitDefEqProofs [-aA, -gval, aKE]
  refine aD.tree p49 rfl ?_
  rcases eqCases (gD t.kind) 0 with z | z
  ·have : R0 = (0, 4) := by rw [← hR0]; simp [wV, hl0, z]
   subst this
   simp -implicitDefEqProofs [-aA, -gval, z, aC]
  ·have : cK (mT t (lk (eT t))) = R0 := by rw [← hR0]; simp [wV, z]
   subst this
   simp -implicitDefEqProofs [-aA, -gval, z]
   refine aKG t hn h0 _ ?_ ?_ ?_
   ·simp
   ·simp [Hp.set]
   ·simp
def vM (t : Ty) : Int × Int := if t.jB != 0 then (0, t.jB) else wV t
attribute [local simp] c16 in
theorem P16 (t : Ty) (hn : t.narrow = true) : PSp Tryz.prog 16 [.agg (tyC t)] (.tup [.one (.t (I (vM t).1)), .one (.t (I (vM t).2))]) := by
 refine k16.aG (by simp) (by simp [D.closed, A.closed]) rfl ?_
 simp -implicitDefEqProofs [-aA, -gval]
 refine aD.tree (P67 t hn) rfl ?_
 rcases eqCases t.jB 0 with z | z
 ·have h0 := iR t (by rw [← sW]; exact z)
  have e : vM t = wV t := by simp [vM, z]
  rw [e]
  simp -implicitDefEqProofs [-aA, -gval, z]
  refine aD.tree (P68 t hn h0) rfl ?_
  simp -implicitDefEqProofs [-aA, -gval, aC]
 ·have e : vM t = (0, t.jB) := by simp [vM, z]
  rw [e]
  simp -implicitDefEqProofs [-aA, -gval, z, aC]
theorem aDC (t : Ty) : kX t = vM t := by
 simp only [kX, vM, sW]
 rcases eqCases t.check 0 with z | z
 ·simp only [z, bne_self_eq_false, Bool.false_eq_true, if_false]
  exact aKB t (iR t z)
 ·simp [z]
end Go.Proofs.YtdpbobkcbakpfaaGreatDoor

namespace Go.Proofs.YtdpbobkcbakpfaaGreatDoor
open Go Go.Ab
set_option maxRecDepth 100000
set_option maxHeartbeats 4000000
attribute [local simp] bL aM aS aK aY aO bI tyC fdC vlC ndC aP D.dQ D.pt
theorem P20 (a b : List Sp) (hl : a.length ≤ 1000000) : PSp Tryz.prog 20 [.one (.t (spans a)), .one (.t (spans b))] (.one (.t (.bool (decide (a = b))))) := by
 refine k20.aG (by simp) rfl rfl ?_
 by_cases hlen : a.length = b.length
 ·simp [c20, c20r0, c20r1, c20r3, spans, hlen]
  refine W.fJ (fun k st => ∃ i : Nat, k = a.length - i ∧ i ≤ a.length ∧ st.tmps 0 = .one (.t (spans a)) ∧ st.tmps 1 = .one (.t (spans b)) ∧ st.tmps 5 = .one (.t (I i)) ∧ a.take i = b.take i) a.length ⟨0, by simp, by simp, by simp [spans], by simp [spans], by simp, rfl⟩ ?_
  rintro k st ⟨i, hk, hi, h0, h1, h5, ht⟩
  rcases Nat.lt_or_ge i a.length with hlt | hge
  ·have hlt' : i < b.length := by omega
   have hw : IntKind.i64.wrap ((i : Int) + 1) = (i : Int) + 1 := wrap_i64 (by omega) (by omega)
   simp [c20b8, c20r4, c20r6, h0, h1, h5, spans, hlt, hlt', spr]
   refine ⟨fun hne => ?_, fun e1 e2 => ?_⟩
   ·have hab : a ≠ b := fun e => by subst e; simp at hne
    simp [c20r7, aC, hab]
   ·simp [c20r5, h0, h1, h5, spans, hw]
    refine ⟨a.length - (i + 1), by omega, i + 1, rfl, hlt, rfl, ?_⟩
    rw [List.take_add_one, List.take_add_one, ht, List.getElem?_eq_getElem hlt, List.getElem?_eq_getElem hlt', Prod.ext e1 e2]
  ·have : i = a.length := by omega
   subst this
   have e : a = b := by rw [List.take_length, hlen, List.take_length] at ht; exact ht
   simp [c20b8, c20r4, c20r8, h0, h5, spans, aC, e]
 ·have hne : a ≠ b := fun e => hlen (by rw [e])
  have aRY : ¬ (a.length : Int) = b.length := by omega
  simp [c20, c20r0, c20r1, c20r2, spans, aRY, aC, hne]
attribute [local simp] c3t3 c3t6 c3t12 c3t13 c3 in
theorem P3 (hA : PSp Tryz.prog 12 [] (.one (.t (.bool true)))) (t : Ty) (s : ByteArray) (ht : t.fine) (_hs : s.size ≤ 9223372036854775807) : PSp Tryz.prog 3 [.agg (tyC t), .one (.t (.str s))] (.one (.t (.bool true))) := by
 refine k3.aG (by simp) (by simp [D.closed, A.closed]) rfl ?_
 simp -implicitDefEqProofs [-aA, -gval]
 refine aD.tree hA rfl ?_
 simp -implicitDefEqProofs [-aA, -gval]
 refine aD.tree (P13 t ht) rfl ?_
 obtain ⟨b, eb⟩ : ∃ b, t.tiny = b := ⟨_, rfl⟩
 rw [eb]
 cases b
 ·simp -implicitDefEqProofs [-aA, -gval, aC]
 ·have hn : t.narrow = true := by
   rw [Ty.tiny, Bool.and_eq_true] at eb
   exact eb.2
  obtain ⟨w, ew⟩ : ∃ w, decide ((60 : Int) < (s.size : Int)) = w := ⟨_, rfl⟩
  cases w
  ·have hal := rW s
   have p14 := P14 t hn
   have p16 := P16 t hn
   rw [aDC] at p14
   obtain ⟨a, e⟩ := vM t
   have hst : fD s = !(alpha s).isEmpty := by
    rw [vK, alpha]
    repeat' split
    all_goals simp_all
   simp -implicitDefEqProofs [-aA, -gval, ew]
   refine aD.tree (P15 t hn) rfl ?_
   simp -implicitDefEqProofs [-aA, -gval]
   refine aD.tree p14 rfl ?_
   simp -implicitDefEqProofs [-aA, -gval]
   refine aD.tree p16 rfl ?_
   simp -implicitDefEqProofs [-aA, -gval]
   refine aD.tree (P17 s) rfl ?_
   simp -implicitDefEqProofs [-aA, -gval]
   refine aD.tree (P18 s) rfl ?_
   have p20 := P20 (alpha s) (alpha s) (by omega)
   simp only [decide_true] at p20
   rw [hst]
   generalize alpha s = l at *
   have q7 : IntKind.i64.wrap 7 = 7 := by decide
   have q0 : IntKind.i64.wrap 0 = 0 := by decide
   rcases l with - | ⟨p, l⟩
   ·simp -implicitDefEqProofs [-aA, -gval, spans]
    refine aD.tree (P19 true) rfl ?_
    simp only [spans, List.map_nil] at p20
    simp -implicitDefEqProofs [-aA, -gval, q7]
    refine aD.tree p20 rfl ?_
    simp -implicitDefEqProofs [-aA, -gval, aC]
   ·have z1 : ((l.length : Int) + 1 == 0) = false := by simp; omega
    simp -implicitDefEqProofs [-aA, -gval, spans, z1]
    refine aD.tree (P19 false) rfl ?_
    simp only [spans, List.map_cons] at p20
    simp -implicitDefEqProofs [-aA, -gval, q0]
    refine aD.tree p20 rfl ?_
    simp -implicitDefEqProofs [-aA, -gval, aC]
  ·simp -implicitDefEqProofs [-aA, -gval, ew, aC]
end Go.Proofs.YtdpbobkcbakpfaaGreatDoor

namespace Go.Ab
open Go
variable {P : Program} {w w' : World} {F F' : Fix} {ν ν' : Nu} {h : Hp} {nx : Nat} {tm : Nat → D} {a : Act} {n : Nat} {st : St}
def aNI (rs : List RV) (r : D) (h' : Hp) (n0 : Nat) (e : Exit) (st : St) : Prop :=
 (e = .normal ∨ e = .ret) ∧ uG st rs ∧ jN st rs = r ∧ (∃ sz rr, r = .one (.tt sz rr)) ∧
  (∀ id, id < n0 → st.heap id = h' id) ∧ (∀ id, n0 ≤ id → h' id = none) ∧ ∀ id o, h' id = some o → o.below n0 = true
theorem Sim.cut {h h' : Hp} {n0 : Nat} (hs : Sim w F ν h nx) (h8 : ∀ id, id < n0 → h id = h' id) (h9 : ∀ id, n0 ≤ id → h' id = none) (h12 : ∀ id o, h' id = some o → o.below n0 = true) :
  Sim w F (lE ν n0) h' (n0 + 1) := by
 refine ⟨hs.fixed, fun id o ho => ?_, fun id bv hn => ?_, fun i j b v1 v2 hi hj => ?_, hs.glob⟩
 ·have hlt : id < n0 := by
   rcases Nat.lt_or_ge id n0 with h | h
   ·exact h
   ·rw [h9 id h] at ho; cases ho
  have hob := hs.obj id o (by rw [h8 id hlt]; exact ho)
  have hbel := h12 id o ho
  cases o with
  | arr ver shut sz rs' =>
   obtain ⟨b, e', m, k1, k2, k3, k4, k5, k6, k7⟩ := hob
   refine ⟨b, e', m, by simp [lE, hlt, k1], k2, k3, k4, k5, fun i j rr x hi hj => ?_, k7⟩
   obtain ⟨q1, u, q2, q3⟩ := k6 i j rr x hi hj
   simp only [O.below, List.all_eq_true] at hbel
   exact ⟨q1, u, q2, q3.cut (hbel rr (List.mem_of_getElem? hi) x (List.mem_of_getElem? hj)) fun _ _ h => h⟩
 ·obtain ⟨q1, q2⟩ := iT hn
  obtain ⟨q3, q4, o, q5⟩ := hs.dom _ _ q2
  exact ⟨by omega, q4, o, by rw [← h8 id q1]; exact q5⟩
 ·exact hs.inj _ _ _ _ _ (iT hi).2 (iT hj).2
theorem ISp.aRZ {f : FuncId} {fn : Func} {c : Code} {ac : aB} {grow : Nat → Nat → Bool} {rs : List RV} (hf : P.funcs[f]? = some fn) (hb : fn.body = some c) (hc : aI P fn.ntmps grow c = some ac)
  (hres : cT P fn.results.toList = some rs) {xs : List D} {r : D} {h h' : Hp} {n0 : Nat} (hn : xs.length ≤ fn.ntmps) (hW : W P fn.ntmps ac (aNI rs r h' n0) ⟨eO xs, h, n0⟩) : ISp P f h n0 xs r h' := by
 intro w F ν vs hs hv
 refine callsIn_wide.1 (callsIn_of_wp_marks (n := 9) hf hb trivial (wpIn_mono (hW none 9 grow c (.inl ⟨rfl, Nat.le_refl _⟩) hc _ w F ν (qF hs hv hn)) (fun e a' w1 hq => ?_)))
 obtain ⟨st', F', ν', ⟨h1, h2, h3, ⟨sz, rr, h4⟩, h8, h9, h12⟩, hcm⟩ := hq
 refine jP h1 (aA0 rfl hcm fun w' h5 h6 => ?_)
 obtain ⟨v, g1, g2⟩ := iQ h5 hres h2
 refine ⟨v, g1, r, v, h', F', lE ν' n0, rfl, ⟨rfl, rfl⟩, h5.sim.cut h8 h9 h12, ?_, ?_⟩
 ·rw [h3, h4] at g2
  rw [h4]
  exact g2
 ·exact {
   os := h6.os, tape := h6.tape, output := h6.output, size := h6.size, keep := h6.keep, cell := h6.cell, sub := h6.sub, new := h6.new, shape := h6.shape
   nu := fun id b ver hh => by
    obtain ⟨b', ver', q1, q2⟩ := h6.nu id b ver hh
    have := (hs.dom _ _ hh).1
    exact ⟨b', ver', by simp [lE, this, q1], q2⟩
   nu' := fun id b ver hh => h6.nu' id b ver (iT hh).2 }
theorem Compiled.ttK {P : Program} {f : FuncId} {n : Nat} {rs : List RV} {ac : aB} (hc : Compiled P f n rs ac) {xs : List D} {r : D} {h h' : Hp} {n0 : Nat} (hn : xs.length ≤ n) (hW : aT P n (aNI rs r h' n0) ac [] ⟨eO xs, h, n0⟩) : ISp P f h n0 xs r h' := by
 obtain ⟨fn, c, grow, h1, h2, h3, h4, rfl⟩ := hc.out
 exact ISp.aRZ h1 h2 h3 h4 hn (W.fY _ _ _ hW)
end Go.Ab

namespace Go.Ab
open Go Go.ChangeShapes Go.WideShapes Go.RowKit
inductive Shape (P : Program) : TypeId → List T → Prop
 | bool {t : TypeId} (b : Bool) (h : P.underlying t = some .bool) : Shape P t [.bool b]
 | int {t : TypeId} {k : IntKind} (n : Int) (h : P.underlying t = some (.int k)) (hw : (Lit.int k n).wf = true) : Shape P t [.int k n]
 | str {t : TypeId} (s : ByteArray) (h : P.underlying t = some .string) (hw : s.size ≤ maxLen) : Shape P t [.str s]
 | slice {t e : TypeId} (rs : List (List T)) (h : P.underlying t = some (.slice e)) (hl : rs.length ≤ maxLen) (hr : ∀ r ∈ rs, Shape P e r) : Shape P t [.rows (P.cellsOf e) rs]
 | strct {t : TypeId} {fs : Array Field} (pss : List (List T)) (h : P.underlying t = some (.struct fs)) (hl : pss.length = fs.size)
   (hp : ∀ (i : Nat) f ps, fs[i]? = some f → pss[i]? = some ps → Shape P f.type ps) : Shape P t pss.flatten
def nS (P : Program) (l : List TypeId) : List Field → Nat → Option Nat
 | [], off => some off
 | f :: r, off => if f.offset = off ∧ l.contains f.type = true then nS P l r (off + P.cellsOf f.type) else none
def jU (P : Program) (l : List TypeId) : Bool :=
 l.all fun t => match P.underlying t with
  | some .bool => decide (P.cellsOf t = 1)
  | some (.int _) => decide (P.cellsOf t = 1)
  | some .string => decide (P.cellsOf t = 1)
  | some (.slice e) => l.contains e && decide (P.cellsOf t = 1) && decide (0 < P.cellsOf e)
  | some (.struct fs) => match nS P l fs.toList 0 with
   | some n => decide (n = P.cellsOf t)
   | none => false
  | _ => false
def pR (w : World) : Fix := fun b _ => b < w.heap.size
section
variable {H : Type} {enc : TypeId × Value → H} {P : Program} {w : World} {base : Nat} {sp : Nat → Bool} {held : Bool} {l : List TypeId}
def Reads (w : World) (ts : List T) (cs : List Value) : Prop := ts.length = cs.length ∧ ∀ (j : Nat) a v, ts[j]? = some a → cs[j]? = some v → VT w (pR w) a v
theorem cells?_get {a : Addr} {n : Nat} {cs : List Value} (h : w.cells? base a n = some cs) : cs.length = n ∧ ∀ i, i < n → w.cell? (a.add i) = cs[i]? := by
 unfold World.cells? at h
 split at h
 ·exact ⟨by simpa using mapM_some_length h, fun i hi => mapM_some_get h i i (by simp [hi])⟩
 ·cases h
theorem cell?_lt {a : Addr} {v : Value} (h : w.cell? a = some v) : a.block < w.heap.size ∧ a.spot = none := by
 unfold World.cell? at h
 split at h
 ·rename_i c t f hb
  split at h
  ·cases h
  ·rename_i hs
   refine ⟨(Array.getElem?_eq_some_iff.1 hb).1, ?_⟩
   cases hx : a.spot with
   | none => rfl
   | some _ => rw [hx] at hs; simp at hs
 ·cases h
theorem collect {α : Type} (Q : Nat → α → Prop) : ∀ n, (∀ i, i < n → ∃ x, Q i x) → ∃ rs : List α, rs.length = n ∧ ∀ (i : Nat) r, rs[i]? = some r → Q i r
 | 0, _ => ⟨[], rfl, fun i r hr => by simp at hr⟩
 | n + 1, h => by
  obtain ⟨rs, r1, r2⟩ := collect Q n fun i hi => h i (by omega)
  obtain ⟨x, hx⟩ := h n (Nat.lt_succ_self _)
  refine ⟨rs ++ [x], by simp [r1], fun i r hr => ?_⟩
  rcases Nat.lt_or_ge i rs.length with g | g
  ·rw [List.getElem?_append_left g] at hr; exact r2 i r hr
  ·rw [List.getElem?_append_right g] at hr
   have : i = n := by
    rcases Nat.eq_zero_or_pos (i - rs.length) with q | q
    ·omega
    ·rw [List.getElem?_eq_none (by simp; omega)] at hr; cases hr
   subst this
   rw [r1, Nat.sub_self] at hr
   simp at hr; subst hr
   exact hx
theorem sZ (hl : jU P l = true) {n : Nat} (ih : ∀ (t : TypeId) (cs : List Value) x, l.contains t = true → DataW.trod enc P w base sp held n t cs = some x → ∃ ts, ts.length = P.cellsOf t ∧ Shape P t ts ∧ Reads w ts cs) (cs : List Value) :
  ∀ (fs : List Field) (off tot : Nat), nS P l fs off = some tot → tot ≤ cs.length → (∀ (i : Nat) f, fs[i]? = some f → ∃ x, DataW.trod enc P w base sp held n f.type ((cs.drop f.offset).take (P.cellsOf f.type)) = some x) →
   ∃ pss : List (List T), pss.length = fs.length ∧ pss.flatten.length = tot - off ∧ off ≤ tot ∧ (∀ (i : Nat) f ps, fs[i]? = some f → pss[i]? = some ps → Shape P f.type ps) ∧ ∀ (j : Nat) a v, pss.flatten[j]? = some a → cs[off + j]? = some v → VT w (pR w) a v
 | [], off, tot, h, _, _ => by
  simp only [nS, Option.some.injEq] at h
  subst h
  exact ⟨[], rfl, by simp, Nat.le_refl _, fun i f ps hf => by simp at hf, fun j a v ha => by simp at ha⟩
 | f :: r, off, tot, h, hc, hx => by
  simp only [nS] at h
  split at h
  ·rename_i hf
   obtain ⟨pss, q1, q2, q3, q4, q5⟩ := sZ hl ih cs r _ tot h hc fun i f' hf' => hx (i + 1) f' (by simpa using hf')
   obtain ⟨x, hx0⟩ := hx 0 f rfl
   obtain ⟨ts, t1, t2, t3, t4⟩ := ih _ _ _ hf.2 hx0
   refine ⟨ts :: pss, by simp [q1], by simp [q2, t1]; omega, by omega, fun i f' ps hf' hp => ?_, fun j a v ha hv => ?_⟩
   ·rcases i with - | i
    ·simp at hf' hp; subst hf'; subst hp; exact t2
    ·exact q4 i f' ps (by simpa using hf') (by simpa using hp)
   ·simp only [List.flatten_cons] at ha
    rcases Nat.lt_or_ge j ts.length with g | g
    ·rw [List.getElem?_append_left g] at ha
     refine t4 j a v ha ?_
     rw [hf.1, List.getElem?_take, if_pos (by omega), List.getElem?_drop]; exact hv
    ·rw [List.getElem?_append_right g] at ha
     refine q5 (j - ts.length) a v ha ?_
     rw [show off + P.cellsOf f.type + (j - ts.length) = off + j by omega]; exact hv
  ·cases h
theorem conv (hl : jU P l = true) : ∀ (n : Nat) (t : TypeId) (cs : List Value) x, l.contains t = true → DataW.trod enc P w base sp held n t cs = some x → ∃ ts, ts.length = P.cellsOf t ∧ Shape P t ts ∧ Reads w ts cs := by
 intro n
 induction n with
 | zero => intro t cs x _ h; simp [DataW.trod] at h
 | succ n ih =>
  intro t cs x ht h
  have hk := List.all_eq_true.1 hl t (by simpa using ht)
  have one : ∀ (a : T) (v : Value), VT w (pR w) a v → Reads w [a] [v] := fun a v hv => ⟨rfl, fun j a' v' ha hv' => by
   rcases j with - | j
   ·simp at ha hv'; subst ha; subst hv'; exact hv
   ·simp at ha⟩
  split at hk
  ·rename_i hu
   obtain ⟨b, rfl, _⟩ := DataW.trod_bool hu h
   exact ⟨[.bool b], by simpa using (of_decide_eq_true hk).symm, .bool b hu, one _ _ (.bool b)⟩
  ·rename_i k hu
   obtain ⟨m, rfl, _, hw⟩ := DataW.trod_int hu h
   exact ⟨[.int k m], by simpa using (of_decide_eq_true hk).symm, .int m hu hw, one _ _ (.int k m)⟩
  ·rename_i hu
   obtain ⟨s, rfl, _, hw⟩ := DataW.trod_string hu h
   exact ⟨[.str s], by simpa using (of_decide_eq_true hk).symm, .str s hu hw, one _ _ (.str s)⟩
  ·rename_i e hu
   simp only [Bool.and_eq_true, decide_eq_true_eq] at hk
   obtain ⟨⟨he, h1⟩, h0⟩ := hk
   rcases DataW.trod_slice hu h with ⟨rfl, _⟩ | ⟨a, len, cap, elems, rest, n', hn, rfl, _, _, hlc, hcm, hel, hev, _, _⟩
   ·exact ⟨[.rows (P.cellsOf e) []], by simp [h1], .slice [] hu (by simp) (by simp), one _ _ (.nils _ _ _)⟩
   ·obtain rfl : n' = n := by omega
    have hrow : ∀ i, i < len → ∃ ts cs', ts.length = P.cellsOf e ∧ Shape P e ts ∧ Reads w ts cs' ∧ w.cells? base (a.add (i * P.cellsOf e)) (P.cellsOf e) = some cs' := fun i hi => by
     have := hev i hi
     rw [List.getElem?_eq_getElem (by omega), Option.bind_eq_some_iff] at this
     obtain ⟨cs', c1, c2⟩ := this
     obtain ⟨ts, t1, t2, t3⟩ := ih _ _ _ he c2
     exact ⟨ts, cs', t1, t2, t3, c1⟩
    obtain ⟨rs, r1, r2⟩ : ∃ rs : List (List T), rs.length = len ∧ ∀ (i : Nat) r, rs[i]? = some r → r.length = P.cellsOf e ∧ Shape P e r ∧ ∃ cs', Reads w r cs' ∧ w.cells? base (a.add (i * P.cellsOf e)) (P.cellsOf e) = some cs' := by
     obtain ⟨rs, r1, r2⟩ := collect (fun i ts => ts.length = P.cellsOf e ∧ Shape P e ts ∧ ∃ cs', Reads w ts cs' ∧ w.cells? base (a.add (i * P.cellsOf e)) (P.cellsOf e) = some cs') len fun i hi => by
      obtain ⟨ts, cs', t1, t2, t3, t4⟩ := hrow i hi
      exact ⟨ts, t1, t2, cs', t3, t4⟩
     exact ⟨rs, r1, fun i r hr => r2 i r hr⟩
    refine ⟨[.rows (P.cellsOf e) rs], by simp [h1], .slice rs hu (by omega) (fun r hr => ?_), one _ _ ?_⟩
    ·obtain ⟨i, hi, rfl⟩ := List.getElem_of_mem hr
     exact (r2 i _ (List.getElem?_eq_getElem hi)).2.1
    ·rcases Nat.eq_zero_or_pos len with hz | hp
     ·subst hz
      have : rs = [] := List.length_eq_zero_iff.1 r1
      subst this
      exact .nils _ _ _
     ·have cellAt : ∀ i j, i < rs.length → j < P.cellsOf e → ∃ v, w.cell? ((a.add (i * P.cellsOf e)).add j) = some v ∧ ∀ (r : List T) x, rs[i]? = some r → r[j]? = some x → VT w (pR w) x v := fun i j hi hj => by
       obtain ⟨k1, _, cs', k3, k4⟩ := r2 i _ (List.getElem?_eq_getElem hi)
       obtain ⟨c1, c2⟩ := cells?_get k4
       have hjl : j < cs'.length := by omega
       refine ⟨cs'[j], by rw [c2 j hj]; exact List.getElem?_eq_getElem hjl, fun r x hr hx => ?_⟩
       rw [List.getElem?_eq_getElem hi] at hr
       simp only [Option.some.injEq] at hr; subst hr
       exact k3.2 j x _ hx (List.getElem?_eq_getElem hjl)
      obtain ⟨v0, hv0, _⟩ := cellAt 0 0 (by omega) h0
      have hspot : a.spot = none := by
       have := (cell?_lt hv0).2
       simpa [Addr.add] using this
      obtain ⟨b, off, sp'⟩ := a
      simp only at hspot
      subst hspot
      have hadd : ∀ i j, ((⟨b, off, none⟩ : Addr).add (i * P.cellsOf e)).add j = ⟨b, off + i * P.cellsOf e + j, none⟩ := fun i j => by
       unfold Addr.add
       split <;> split <;> simp_all
      rw [← r1]
      refine .rows (P.cellsOf e) rs b off cap (fun i j => (w.cell? ⟨b, off + i * P.cellsOf e + j, none⟩).getD undef) (by omega) (fun r hr => ?_) (fun i j hi hj => ?_) (fun i j r x hi hj => ?_)
      ·obtain ⟨i, hi, rfl⟩ := List.getElem_of_mem hr
       exact (r2 i _ (List.getElem?_eq_getElem hi)).1
      ·obtain ⟨v, hv, _⟩ := cellAt i j hi hj
       rw [hadd] at hv
       exact ⟨by rw [hv]; rfl, (cell?_lt hv).1⟩
      ·have hi' : i < rs.length := (List.getElem?_eq_some_iff.1 hi).1
       have hj' : j < P.cellsOf e := by
        have := (r2 i r hi).1
        have := (List.getElem?_eq_some_iff.1 hj).1
        omega
       obtain ⟨v, hv, hvv⟩ := cellAt i j hi' hj'
       rw [hadd] at hv
       rw [hv]
       exact hvv r x hi hj
  ·rename_i fs hu
   obtain ⟨xs, n', hn, _, hcl, hxl, hxs⟩ := DataW.trod_struct hu h
   obtain rfl : n' = n := by omega
   split at hk
   ·rename_i tot htot
    have ht0 : tot = P.cellsOf t := of_decide_eq_true hk
    obtain ⟨pss, q1, q2, _, q4, q5⟩ := sZ hl ih cs fs.toList 0 tot htot (by omega) fun i f hf => by
     have hf' : fs[i]? = some f := by simpa using hf
     have hi : i < xs.length := by rw [hxl]; exact (Array.getElem?_eq_some_iff.1 hf').1
     exact ⟨xs[i], by rw [hxs i f hf']; exact List.getElem?_eq_getElem hi⟩
    refine ⟨pss.flatten, by omega, .strct pss hu (by simpa using q1) (fun i f ps hf hp => q4 i f ps (by simpa using hf) hp), by omega, fun j a v ha hv => q5 j a v ha (by rw [Nat.zero_add]; exact hv)⟩
   ·cases hk
  ·cases hk
end
end Go.Ab

namespace Go.Ab
open Go Go.ChangeShapes Go.WideShapes Go.RowKit
variable {H : Type} {enc : TypeId × Value → H} {P : Program} {l : List TypeId}
def aMR (P : Program) (t : TypeId) (ts : List T) : D :=
 match P.underlying t with
 | some (.struct _) => .agg (ts.map .t)
 | _ => .one (.t (ts.headD .nilp))
def mU (P : Program) : List TypeId → List (List T) → List D
 | t :: ts, x :: xs => aMR P t x :: mU P ts xs
 | _, _ => []
def qU (P : Program) : List TypeId → List (List T) → Prop
 | [], [] => True
 | t :: ts, x :: xs => Shape P t x ∧ qU P ts xs
 | _, _ => False
theorem aS1 {w : World} {F : Fix} {ν : Nu} {ts : List T} {cs : List Value} (h : ts.length = cs.length) (hv : ∀ (j : Nat) a v, ts[j]? = some a → cs[j]? = some v → VT w F a v) : VL (VA w F ν) (ts.map .t) cs := by
 refine ⟨by simp [h], fun k x u hx hu => ?_⟩
 rw [List.getElem?_map, Option.map_eq_some_iff] at hx
 obtain ⟨a, ha, rfl⟩ := hx
 exact hv k a u ha hu
theorem tB {w : World} {base : Nat} {sp : Nat → Bool} {held : Bool} : ∀ {ts : List TypeId} {vs : List Value} {ds : List (DataW H)} {ps : List MemPlace}, DataW.TrodAll enc P w base sp held ts vs ds ps → ds.length = ts.length
 | [], _, _, _, h => by
  obtain ⟨_, rfl, _⟩ := trodAll_nil h
  rfl
 | _ :: _, _, _, _, h => by
  obtain ⟨_, _, _, _, _, _, rfl, rfl, _, _, h2⟩ := trodAll_cons h
  simp [tB h2]
theorem aKH {w : World} {sp : Nat → Bool} {held : Bool} (hl : jU P l = true) {t : TypeId} {v : Value} {d : DataW H} {p : List MemPlace} {b0 : Nat} (ht : l.contains t = true) (h : DataW.Trod enc P w 0 sp held t v d p) (hval : Value.okWide P w .any b0 t v) :
  ∃ ts, Shape P t ts ∧ VD w (pR w) pH (aMR P t ts) v := by
 obtain ⟨n, hn⟩ := h
 obtain ⟨ts, h1, h2, h3⟩ := conv hl n t _ _ ht hn
 refine ⟨ts, h2, ?_⟩
 have hk := List.all_eq_true.1 hl t (by simpa using ht)
 unfold aMR
 split
 ·rename_i fs hu
  simp only [Value.okWide, hu] at hval
  obtain ⟨cs, rfl, _, _⟩ := hval
  exact ⟨cs, rfl, aS1 h3.1 h3.2⟩
 ·rename_i hns
  have hone : v.cells = #[v] := by
   split at hk
   all_goals first
    | (rename_i hu; cases v <;> simp_all [Value.okWide, Cell.okWide, Cell.ok, Value.cells])
    | skip
   all_goals first
    | (rename_i _ hu; cases v <;> simp_all [Value.okWide, Cell.okWide, Cell.ok, Value.cells])
    | skip
  rw [hone] at h3
  have hl1 := h3.1
  simp only [List.length_cons, List.length_nil] at hl1
  obtain ⟨a, rfl⟩ := List.length_eq_one_iff.1 hl1
  exact h3.2 0 a v rfl rfl
theorem yK {w : World} {sp : Nat → Bool} {held : Bool} (hl : jU P l = true) {b0 : Nat} : ∀ {ts : List TypeId} {vs : List Value} {ds : List (DataW H)} {p : List MemPlace}, DataW.TrodAll enc P w 0 sp held ts vs ds p → (∀ t ∈ ts, l.contains t = true) →
  (∀ (j : Nat) t v, ts[j]? = some t → vs[j]? = some v → Value.okWide P w .any b0 t v) →
  ∃ tss, qU P ts tss ∧ (mU P ts tss).length = vs.length ∧ ∀ (k : Nat) x u, (mU P ts tss)[k]? = some x → vs[k]? = some u → VD w (pR w) pH x u
 | [], vs, ds, p, h, _, _ => by
  obtain ⟨rfl, _, _⟩ := trodAll_nil h
  exact ⟨[], trivial, rfl, fun k x u hx => by simp [mU] at hx⟩
 | t :: ts, vs, ds, p, h, hc, hv => by
  obtain ⟨v, vs1, d, ds1, a, b, rfl, rfl, rfl, h1, h2⟩ := trodAll_cons h
  obtain ⟨x, x1, x2⟩ := aKH hl (hc t (List.mem_cons_self ..)) h1 (hv 0 t v rfl rfl)
  obtain ⟨tss, q1, q2, q3⟩ := yK hl h2 (fun t ht => hc t (List.mem_cons_of_mem _ ht)) fun j t' v' ht' hv' => hv (j + 1) t' v' (by simpa using ht') (by simpa using hv')
  refine ⟨x :: tss, ⟨x1, q1⟩, by simp [mU, q2], fun k y u hy hu => ?_⟩
  rcases k with - | k
  ·simp [mU] at hy hu; subst hy; subst hu; exact x2
  ·exact q3 k y u (by simpa [mU] using hy) (by simpa using hu)
theorem oT (hl : laidOutB P = true) {W W' : World} (hb : Below W.heap.size W W') : ∀ {ts : List TypeId} {vs : List Value} {ds : List (DataW H)} {p : List MemPlace}, DataW.TrodAll enc P W 0 (fun _ => true) true ts vs ds p →
  (∀ t ∈ ts, P.readableRec t = true ∧ t < P.types.size) → (∀ x ∈ p, x.block < W.heap.size) → DataW.TrodAll enc P W' 0 (fun b => decide (b < W.heap.size)) true ts vs ds p
 | [], vs, ds, p, h, _, _ => by
  obtain ⟨rfl, rfl, rfl⟩ := trodAll_nil h
  exact trodAll_mk0
 | t :: ts, vs, ds, p, h, hc, hp => by
  obtain ⟨v, vs1, d, ds1, a, b, rfl, rfl, rfl, h1, h2⟩ := trodAll_cons h
  exact trodAll_cons_mk (Below.trod hl (hc t (List.mem_cons_self ..)).1 (hc t (List.mem_cons_self ..)).2 h1 hb fun x hx => hp x (List.mem_append_left _ hx))
   (oT hl hb h2 (fun t ht => hc t (List.mem_cons_of_mem _ ht)) fun x hx => hp x (List.mem_append_right _ hx))
theorem Frame.below {w w' : World} {F F' : Fix} {ν' : Nu} (h : Frame w F pH w' F' ν') : Below w.heap.size w w' :=
 ⟨h.os, h.tape, h.output, h.size, fun k hk => h.keep k hk fun _ _ e => by cases e⟩
theorem aB2 {f : FuncId} {fn : Func} {s : ChangeSpec} {tb : TypeId} (hl : jU P l = true) (hps : fn.params.toList.all (fun t => l.contains t) = true) (hlaid : laidOutB P = true)
  (hrd : fn.params.toList.all (fun t => P.readableRec t && decide (t < P.types.size)) = true) (hP : ∀ tss, qU P fn.params.toList tss → PSp P f (mU P fn.params.toList tss) (.one (.t (.bool true))))
  (hres : fn.resultTypes = #[tb]) (hb : P.underlying tb = some .bool) (hs : s.vars = []) (hfn : ∀ (H : Type) (ds : List (DataW H)), ds.length = fn.params.toList.length → s.fn H ds = { results := [.lit (.bool true)], args := ds })
  (W : World) (base : Nat) (args : Array Value) (ds gs : List (DataW H)) (before : List MemPlace)
  (hval : ∀ (j : Nat) t v, fn.params[j]? = some t → args[j]? = some v → Value.okWide P W .any base t v)
  (hW : DataW.Whole enc P fn.params.toList s.vars false W args.toList ds gs before) (hglob : ∃ m, W.cell? ⟨aB9, 0, none⟩ = some (.int .i64 m)) :
  Calls P f args W fun e W' => ∃ v, e = .returned v ∧ s.post enc P fn false true false false W args v W' := by
 have hW' := hW
 have hlt : ∀ x ∈ before, x.block < W.heap.size := hW.lt
 obtain ⟨p, q, hA, hV, rfl, hfz, hnd⟩ := hW
 rw [hs] at hV
 obtain ⟨rfl, rfl⟩ := trodVars_none hV
 obtain ⟨tss, q1, q2, q3⟩ := yK (b0 := base) hl hA (fun t ht => List.all_eq_true.1 hps t ht) fun j t v ht hv => hval j t v (by simpa using ht) (by simpa using hv)
 refine (hP tss q1 iA 0 W (pR W) pH args (Sim.bare (fun _ _ h => h) ⟨by obtain ⟨m, hm⟩ := hglob; exact (cell?_lt hm).1, hglob⟩ 0) ⟨by simpa using q2, fun k x u hx hu => q3 k x u hx (by simpa using hu)⟩).mono ?_
 rintro e W' ⟨r, v, h', F', ν', rfl, ⟨rfl, _⟩, _, hv, hfr⟩
 have hbel := Frame.below hfr
 have ev : v = .bool true := by
  have hv' : VT W' F' (.bool true) v := hv
  cases hv'; rfl
 subst ev
 have hlen := tB hA
 have hfn' := hfn H (ds ++ []) (by simpa using hlen)
 refine ⟨_, rfl, ds, [], p ++ [], [], p, [], hW', ?_, ?_, ?_, hbel.frame _, fun h => by cases h⟩
 ·rw [hfn', hres]
  exact trodAll_mk1 (shut_bool hb true)
 ·rw [hfn', List.append_nil]
  exact oT hlaid hbel hA (fun t ht => by simpa using List.all_eq_true.1 hrd t ht) fun x hx => hlt x (by simpa using hx)
 ·rw [hfn', hs]; exact rfl
theorem Shape.aMS {t : TypeId} {k : IntKind} {ts : List T} (h : Shape P t ts) (hu : P.underlying t = some (.int k)) : ∃ n, ts = [.int k n] ∧ (Lit.int k n).wf = true := by
 cases h with
 | int n h hw => rw [hu] at h; cases h; exact ⟨n, rfl, hw⟩
 | _ _ h => rw [hu] at h; cases h
theorem Shape.aKI {t : TypeId} {ts : List T} (h : Shape P t ts) (hu : P.underlying t = some .bool) : ∃ b, ts = [.bool b] := by
 cases h with
 | bool b h => exact ⟨b, rfl⟩
 | _ _ h => rw [hu] at h; cases h
theorem Shape.aMT {t : TypeId} {ts : List T} (h : Shape P t ts) (hu : P.underlying t = some .string) : ∃ s, ts = [.str s] ∧ s.size ≤ maxLen := by
 cases h with
 | str s h hw => exact ⟨s, rfl, hw⟩
 | _ _ h => rw [hu] at h; cases h
theorem Shape.oM {t e : TypeId} {ts : List T} (h : Shape P t ts) (hu : P.underlying t = some (.slice e)) : ∃ rs, ts = [.rows (P.cellsOf e) rs] ∧ rs.length ≤ maxLen ∧ ∀ r ∈ rs, Shape P e r := by
 cases h with
 | slice rs h hl hr => rw [hu] at h; cases h; exact ⟨rs, rfl, hl, hr⟩
 | _ _ h => rw [hu] at h; cases h
theorem Shape.yL {t : TypeId} {fs : Array Field} {ts : List T} (h : Shape P t ts) (hu : P.underlying t = some (.struct fs)) :
  ∃ pss : List (List T), ts = pss.flatten ∧ pss.length = fs.size ∧ ∀ (i : Nat) f ps, fs[i]? = some f → pss[i]? = some ps → Shape P f.type ps := by
 cases h with
 | strct pss h hl hp => rw [hu] at h; cases h; exact ⟨pss, rfl, hl, hp⟩
 | _ _ h => rw [hu] at h; cases h
theorem vN {α : Type} (g : α → List T) : ∀ {rs : List (List T)}, (∀ r ∈ rs, ∃ x, r = g x) → ∃ l : List α, rs = l.map g
 | [], _ => ⟨[], rfl⟩
 | r :: rs, h => by
  obtain ⟨x, rfl⟩ := h r (List.mem_cons_self ..)
  obtain ⟨l, rfl⟩ := vN g fun r hr => h r (List.mem_cons_of_mem _ hr)
  exact ⟨x :: l, rfl⟩
end Go.Ab

namespace Go.Proofs.YtdpbobkcbakpfaaGreatDoor
open Go Go.Ab
set_option maxRecDepth 100000
theorem aMU : Tryz.prog.cellsOf 28 = 8 := by kernel_rfl
theorem aKJ : Tryz.prog.cellsOf 107 = 13 := by kernel_rfl
theorem aMV : Tryz.prog.cellsOf 47 = 6 := by kernel_rfl
theorem aKK : Tryz.prog.cellsOf 191 = 3 := by kernel_rfl
theorem aKL : Tryz.prog.cellsOf 122 = 5 := by kernel_rfl
theorem aP0 : Tryz.prog.cellsOf 9 = 1 := by kernel_rfl
theorem aP1 : Tryz.prog.cellsOf 3 = 1 := by kernel_rfl
theorem lM {α : Type} (g : α → List T) (Q : α → Prop) : ∀ {rs : List (List T)}, (∀ r ∈ rs, ∃ x, r = g x ∧ Q x) → ∃ l : List α, rs = l.map g ∧ ∀ x ∈ l, Q x
 | [], _ => ⟨[], rfl, fun x hx => by cases hx⟩
 | r :: rs, h => by
  obtain ⟨x, rfl, hx⟩ := h r (List.mem_cons_self ..)
  obtain ⟨l, rfl, hl⟩ := lM g Q fun r hr => h r (List.mem_cons_of_mem _ hr)
  exact ⟨x :: l, rfl, fun y hy => by
   rcases List.mem_cons.1 hy with e | e
   ·rw [e]; exact hx
   ·exact hl y e⟩
theorem kI {α : Type} {l : List α} {g : α → List T} (h : (l.map g).length ≤ maxLen) : short l := by
 rw [List.length_map] at h; exact h
theorem cX {ts : List T} (h : Shape Tryz.prog 3 ts) : ∃ n, ts = [I n] := by
 obtain ⟨n, rfl, _⟩ := h.aMS Tryz.underlying3
 exact ⟨n, rfl⟩
theorem lN {ts : List T} (h : Shape Tryz.prog 9 ts) : ∃ s : ByteArray, ts = [.str s] ∧ s.size ≤ 9223372036854775807 := h.aMT Tryz.underlying9
theorem aFJ {ts : List T} (h : Shape Tryz.prog 77 ts) : ∃ l : List Int, ts = [bI l] ∧ short l := by
 obtain ⟨rs, rfl, hl, hr⟩ := h.oM Tryz.underlying77
 obtain ⟨l, rfl⟩ := vN (fun a : Int => [I a]) fun r hr' => cX (hr r hr')
 exact ⟨l, by rw [aP1]; rfl, kI hl⟩
theorem aDD {ts : List T} (h : Shape Tryz.prog 44 ts) : ∃ l : List ByteArray, ts = [aO l] ∧ short l ∧ ∀ x ∈ l, x.size ≤ 9223372036854775807 := by
 obtain ⟨rs, rfl, hl, hr⟩ := h.oM Tryz.underlying44
 obtain ⟨l, rfl, hq⟩ := lM (fun s : ByteArray => [T.str s]) (fun s => s.size ≤ 9223372036854775807) fun r hr' => lN (hr r hr')
 exact ⟨l, by rw [aP0]; rfl, kI hl, hq⟩
theorem aFK {ts : List T} (h : Shape Tryz.prog 22 ts) : ∃ l : List Tg, ts = [.rows 3 (l.map Tg.row)] ∧ short l := by
 obtain ⟨rs, rfl, hl, hr⟩ := h.oM Tryz.underlying22
 obtain ⟨l, rfl⟩ := vN Tg.row fun r hr' => by
  obtain ⟨pss, rfl, hl, hp⟩ := (hr r hr').yL Tryz.underlying191
  match pss, hl, hp with
  | [p0, p1, p2], _, hp =>
   obtain ⟨a, rfl⟩ := cX (hp 0 _ p0 rfl rfl)
   obtain ⟨b, rfl⟩ := cX (hp 1 _ p1 rfl rfl)
   obtain ⟨c, rfl⟩ := cX (hp 2 _ p2 rfl rfl)
   exact ⟨⟨a, b, c⟩, rfl⟩
 exact ⟨l, by rw [aKK], kI hl⟩
theorem aDE {ts : List T} (h : Shape Tryz.prog 26 ts) : ∃ l : List Nd, ts = [aK l] ∧ short l ∧ ∀ x ∈ l, x.fine := by
 obtain ⟨rs, rfl, hl, hr⟩ := h.oM Tryz.underlying26
 obtain ⟨l, rfl, hq⟩ := lM Nd.row Nd.fine fun r hr' => by
  obtain ⟨pss, rfl, hl, hp⟩ := (hr r hr').yL Tryz.underlying122
  match pss, hl, hp with
  | [p0, p1, p2, p3, p4], _, hp =>
   obtain ⟨a, rfl⟩ := cX (hp 0 _ p0 rfl rfl)
   obtain ⟨b, rfl⟩ := cX (hp 1 _ p1 rfl rfl)
   obtain ⟨c, rfl⟩ := cX (hp 2 _ p2 rfl rfl)
   obtain ⟨s, rfl, hs⟩ := lN (hp 3 _ p3 rfl rfl)
   obtain ⟨l, rfl, hl⟩ := aFJ (hp 4 _ p4 rfl rfl)
   exact ⟨⟨a, b, c, s, l⟩, rfl, hs, hl⟩
 exact ⟨l, by rw [aKL]; rfl, kI hl, hq⟩
structure ShM (t : TypeId) (ts : List T) : Prop where
 ty : t = 28 → ∃ x : Ty, ts = x.row ∧ x.fine
 fd : t = 107 → ∃ x : Fd, ts = x.row ∧ x.fine
 vl : t = 47 → ∃ x : Vl, ts = x.row ∧ x.fine
 tys : t = 24 → ∃ l : List Ty, ts = [aS l] ∧ short l ∧ ∀ x ∈ l, x.fine
 fds : t = 23 → ∃ l : List Fd, ts = [aM l] ∧ short l ∧ ∀ x ∈ l, x.fine
 vls : t = 45 → ∃ l : List Vl, ts = [aY l] ∧ short l ∧ ∀ x ∈ l, x.fine
theorem yM {t : TypeId} {ts : List T} (h : Shape Tryz.prog t ts) : ShM t ts := by
 induction h with
 | bool b h => constructor <;> (intro e; subst e; first | (rw [Tryz.underlying28] at h; cases h) | (rw [Tryz.underlying107] at h; cases h) | (rw [Tryz.underlying47] at h; cases h) | (rw [Tryz.underlying24] at h; cases h) | (rw [Tryz.underlying23] at h; cases h) | (rw [Tryz.underlying45] at h; cases h))
 | int n h hw => constructor <;> (intro e; subst e; first | (rw [Tryz.underlying28] at h; cases h) | (rw [Tryz.underlying107] at h; cases h) | (rw [Tryz.underlying47] at h; cases h) | (rw [Tryz.underlying24] at h; cases h) | (rw [Tryz.underlying23] at h; cases h) | (rw [Tryz.underlying45] at h; cases h))
 | str s h hw => constructor <;> (intro e; subst e; first | (rw [Tryz.underlying28] at h; cases h) | (rw [Tryz.underlying107] at h; cases h) | (rw [Tryz.underlying47] at h; cases h) | (rw [Tryz.underlying24] at h; cases h) | (rw [Tryz.underlying23] at h; cases h) | (rw [Tryz.underlying45] at h; cases h))
 | slice rs h hl hr ih =>
  constructor
  ·intro e; subst e; rw [Tryz.underlying28] at h; cases h
  ·intro e; subst e; rw [Tryz.underlying107] at h; cases h
  ·intro e; subst e; rw [Tryz.underlying47] at h; cases h
  ·intro e; subst e; rw [Tryz.underlying24] at h; cases h
   obtain ⟨l, rfl, hq⟩ := lM Ty.row Ty.fine fun r hr' => (ih r hr').ty rfl
   exact ⟨l, by rw [aMU]; rfl, kI hl, hq⟩
  ·intro e; subst e; rw [Tryz.underlying23] at h; cases h
   obtain ⟨l, rfl, hq⟩ := lM Fd.row Fd.fine fun r hr' => (ih r hr').fd rfl
   exact ⟨l, by rw [aKJ]; rfl, kI hl, hq⟩
  ·intro e; subst e; rw [Tryz.underlying45] at h; cases h
   obtain ⟨l, rfl, hq⟩ := lM Vl.row Vl.fine fun r hr' => (ih r hr').vl rfl
   exact ⟨l, by rw [aMV]; rfl, kI hl, hq⟩
 | strct pss h hl hp ih =>
  constructor
  ·intro e; subst e; rw [Tryz.underlying28] at h; cases h
   match pss, hl, hp, ih with
   | [p0, p1, p2, p3, p4, p5, p6, p7], _, hp, ih =>
    obtain ⟨a0, rfl⟩ := cX (hp 0 _ p0 rfl rfl)
    obtain ⟨a1, rfl, h1⟩ := lN (hp 1 _ p1 rfl rfl)
    obtain ⟨a2, rfl, h2⟩ := aFK (hp 2 _ p2 rfl rfl)
    obtain ⟨a3, rfl, h3, g3⟩ := (ih 3 _ p3 rfl rfl).fds rfl
    obtain ⟨a4, rfl⟩ := (hp 4 _ p4 rfl rfl).aKI Tryz.underlying4
    obtain ⟨a5, rfl⟩ := cX (hp 5 _ p5 rfl rfl)
    obtain ⟨a6, rfl, h6, g6⟩ := (ih 6 _ p6 rfl rfl).tys rfl
    obtain ⟨a7, rfl, h7, g7⟩ := aDE (hp 7 _ p7 rfl rfl)
    exact ⟨.mk a0 a1 a2 a3 a4 a5 a6 a7, by rw [Ty.row, gT, iJ]; rfl, h1, h2, h3, (xY _).2 g3, h6, (xZ _).2 g6, h7, g7⟩
  ·intro e; subst e; rw [Tryz.underlying107] at h; cases h
   match pss, hl, hp, ih with
   | [p0, p1, p2, p3, p4, p5], _, hp, ih =>
    obtain ⟨a0, rfl, h0⟩ := lN (hp 0 _ p0 rfl rfl)
    obtain ⟨a1, rfl⟩ := cX (hp 1 _ p1 rfl rfl)
    obtain ⟨a2, rfl, h2⟩ := (ih 2 _ p2 rfl rfl).ty rfl
    obtain ⟨a3, rfl⟩ := cX (hp 3 _ p3 rfl rfl)
    obtain ⟨a4, rfl, h4, g4⟩ := (ih 4 _ p4 rfl rfl).vls rfl
    obtain ⟨a5, rfl⟩ := cX (hp 5 _ p5 rfl rfl)
    exact ⟨.mk a0 a1 a2 a3 a4 a5, by rw [Fd.row, cU]; simp [List.flatten, aY], h0, h2, h4, (rR _).2 g4⟩
  ·intro e; subst e; rw [Tryz.underlying47] at h; cases h
   match pss, hl, hp, ih with
   | [p0, p1, p2, p3, p4, p5], _, hp, ih =>
    obtain ⟨a0, rfl⟩ := cX (hp 0 _ p0 rfl rfl)
    obtain ⟨a1, rfl⟩ := cX (hp 1 _ p1 rfl rfl)
    obtain ⟨a2, rfl⟩ := cX (hp 2 _ p2 rfl rfl)
    obtain ⟨a3, rfl, h3⟩ := lN (hp 3 _ p3 rfl rfl)
    obtain ⟨a4, rfl, h4, g4⟩ := aDD (hp 4 _ p4 rfl rfl)
    obtain ⟨a5, rfl, h5, g5⟩ := (ih 5 _ p5 rfl rfl).vls rfl
    exact ⟨.mk a0 a1 a2 a3 a4 a5, by rw [Vl.row, cU]; rfl, h3, h4, g4, h5, (rR _).2 g5⟩
  ·intro e; subst e; rw [Tryz.underlying24] at h; cases h
  ·intro e; subst e; rw [Tryz.underlying23] at h; cases h
  ·intro e; subst e; rw [Tryz.underlying45] at h; cases h
theorem aKM {ts : List T} (h : Shape Tryz.prog 28 ts) : ∃ x : Ty, ts = x.row ∧ x.fine := (yM h).ty rfl
theorem aS2 {ts : List T} (h : Shape Tryz.prog 47 ts) : ∃ x : Vl, ts = x.row ∧ x.fine := (yM h).vl rfl
theorem aMW (t : Ty) : t.row.map A.t = tyC t := by
 cases t; rw [Ty.row, gT, iJ]; rfl
theorem aSJ (v : Vl) : v.row.map A.t = vlC v := by
 cases v; rw [Vl.row, cU]; rfl
end Go.Proofs.YtdpbobkcbakpfaaGreatDoor

namespace Go.Proofs.YtdpbobkcbakpfaaGreatDoor
open Go Go.Ab Go.ChangeShapes Go.WideShapes Go.ChangeAt Go.RowKit
set_option maxRecDepth 100000
theorem band {a b : Bool} (ha : a = true) (hb : b = true) : (a && b) = true := by rw [ha, hb]; rfl
noncomputable abbrev PG : Program := Tryz.pinned.checked.prog
theorem own : ownKnob Tryz.prog.godebug = none := by kernel_rfl
theorem laidOut : laidOutB Tryz.prog = true := by kernel_rfl
theorem aKN : laidOutB PG = true := laidOut
theorem aFL : mapsRowed PG = true := by kernel_rfl
theorem aP2 : (PG.stops == []) = true := by kernel_rfl
theorem aFM : (PG.stopKnobs == []) = true := by kernel_rfl
theorem aP3 : PG.plainKeys = true := by kernel_rfl
theorem aP4 : PG.stopsHeard = true := by kernel_rfl
theorem aI0 : PG.mayEnter = true := by kernel_rfl
theorem aP5 : (Rows.limitsChecksRow.lifted == PG.liftsFinal) = true := by kernel_rfl
theorem aS3 : (PG.make == some Rows.limitsChecksRow.make) = true := by kernel_rfl
theorem aI1 {w : World} (h : w.ShapedOpen Tryz.prog) : ∃ m, w.cell? ⟨aB9, 0, none⟩ = some (.int .i64 m) :=
 Go.Proofs.cell_of_shapedOpen_int (zero := #[.int .i64 0]) (t := 3) h (of_decide_eq_true (by kernel_rfl)) (by kernel_rfl) rfl (by kernel_rfl) (by kernel_rfl) Tryz.underlying3
def aGG : List TypeId := [28, 9, 3, 22, 191, 23, 107, 4, 24, 26, 122, 77, 45, 47, 44]
theorem trees : jU Tryz.prog aGG = true := by kernel_rfl
def type0 : Value := .agg #[.int .i64 0, .string ⟨#[]⟩, .slice none 0 0, .slice none 0 0, .bool false, .int .i64 0, .slice none 0 0, .slice none 0 0]
end Go.Proofs.YtdpbobkcbakpfaaGreatDoor

namespace Go.Proofs.YtdpbobkcbakpfaaGreatDoor
open Go Go.Ab
set_option maxRecDepth 100000
def c160r0 : List Seg := [zv 5 0, zL 6 5, zv 4 6]
def c160r1 : List Seg := [zv 7 0, zv 8 4, zv 9 4, zo 10 (.eH .u64 (.tmp 9)), zc 11 208 [.tmp 10], zv 12 1, zc 13 207 [.tmp 7, zi 0, .tmp 8, .tmp 11, .tmp 12]]
def c160 : aB := zs 0 3 c160r0 (zr 1 7 c160r1)
theorem k160 : Compiled Tryz.prog 160 14 [] c160 := .mk' [] Tryz.func160 rfl (by kernel_rfl) (by kernel_rfl)
def c161r0 : List Seg := [zX 2 2 0, zX 3 2 1, zM 4 0]
def c161r1 : List Seg := [zf 5 0 2, zl 6 5, zf 7 0 3, zl 8 7, zB 9 .sub 6 8, zv 4 9]
def c161 : aB := zs 0 3 c161r0 (zs 1 6 c161r1 .ret)
theorem k161 : Compiled Tryz.prog 161 10 [.tmp 4] c161 := .mk' [] Tryz.func161 rfl (by kernel_rfl) (by kernel_rfl)
def c207r0 : List Seg := [zW 10 true]
def c207r1 : List Seg := [zW 11 true]
def c207r2 : List Seg := [zv 21 2, zv 22 1, zB 23 .sub 21 22, zv 12 23]
def c207r3 : List Seg := [zv 24 12, zK 25 .leq 24 12]
def c207r4 : List Seg := [zv 26 0, zv 27 1, zv 28 2, zv 29 4, zc 30 244 [.tmp 26, .tmp 27, .tmp 28, .tmp 29]]
def c207r5 : List Seg := [zv 31 3, zK 32 .eql 31 0]
def c207r6 : List Seg := [zv 33 0, zv 34 1, zv 35 2, zv 36 4, zc 37 245 [.tmp 33, .tmp 34, .tmp 35, .tmp 36]]
def c207r7 : List Seg := [zv 38 10, zN 39 38]
def c207r8 : List Seg := [zv 40 0, zv 41 1, zv 42 2, zv 43 4, zc 44 246 [.tmp 40, .tmp 41, .tmp 42, .tmp 43]]
def c207r9 : List Seg := [zv 45 3, zK 46 .sub 45 1, zv 3 46]
def c207r10 : List Seg := [zv 48 0, zv 49 1, zv 50 2, zv 51 4, zc 52 247 [.tmp 48, .tmp 49, .tmp 50, .tmp 51], zv 47 52, zE 53 0 47, zE 54 1 47, zv 13 53, zv 14 54]
def c207r11 : List Seg := [zv 55 14, zK 56 .eql 55 2]
def c207r12 : List Seg := [zv 57 0, zv 58 1, zv 59 2, zv 60 4, zc 61 248 [.tmp 57, .tmp 58, .tmp 59, .tmp 60]]
def c207r13 : List Seg := [zv 62 2, zK 63 .sub 62 1, zv 64 13, zv 65 1, zB 66 .sub 64 65, zB 67 .sub 63 66, zv 13 67]
def c207r14 : List Seg := [zM 14 1]
def c207r15 : List Seg := [zv 68 10, zv 69 68, .grp 69 true [zg 70 (.mv (.tmp 11)) 69 true], zP 71 69 70, zv 72 71, .grp 72 true [zg 73 (.mv (.tmp 14)) 72 true, zg 74 (.bin .eql false (.tmp 73) (zi 1)) 72 true], zP 75 72 74]
def c207r16 : List Seg := [zv 76 0, zv 77 1, zv 78 2, zv 79 4, zc 80 249 [.tmp 76, .tmp 77, .tmp 78, .tmp 79]]
def c207r17 : List Seg := [zv 81 1, zK 82 .gtr 81 0, zv 83 82, .br 83 true [zg 84 (.mv (.tmp 4)) 83 true, zg 85 (.mv (.tmp 0)) 83 true, zg 86 (.mv (.tmp 1)) 83 true, zg 87 (.bin .sub false (.tmp 86) (zi 1)) 83 true, zg 88 (.ia 2 (.tmp 85) (.tmp 87)) 83 true, zg 89 (.load 2 true (.tmp 88)) 83 true, zg 90 (.mv (.tmp 0)) 83 true, zg 91 (.mv (.tmp 13)) 83 true, zg 92 (.ia 2 (.tmp 90) (.tmp 91)) 83 true, zg 93 (.load 2 true (.tmp 92)) 83 true, .mk (some 94) (.callv (.tmp 84) [.tmp 89, .tmp 93]) (some (83, true)), zg 95 (.bin .lss false (.tmp 94) (zi 0)) 83 true, zg 96 (.un .not (.tmp 95)) 83 true], zP 97 83 96]
def c207r18 : List Seg := [zv 98 0, zv 99 1, zv 100 2, zv 101 13, zv 102 4, zc 103 250 [.tmp 98, .tmp 99, .tmp 100, .tmp 101, .tmp 102], zv 15 103]
def c207r19 : List Seg := [zv 104 15, zv 1 104]
def c207r20 : List Seg := [zv 106 0, zv 107 1, zv 108 2, zv 109 13, zv 110 4, zc 111 251 [.tmp 106, .tmp 107, .tmp 108, .tmp 109, .tmp 110], zv 105 111, zE 112 0 105, zE 113 1 105, zv 16 112, zv 17 113]
def c207r21 : List Seg := [zv 114 17, zv 11 114]
def c207r22 : List Seg := [zv 115 16, zv 116 1, zB 117 .sub 115 116, zv 118 2, zv 119 16, zB 120 .sub 118 119, zv 18 117, zv 19 120]
def c207r23 : List Seg := [zv 121 12, zK 122 .quo 121 8, zv 20 122]
def c207r24 : List Seg := [zv 123 18, zv 124 19, zB 125 .lss 123 124]
def c207r25 : List Seg := [zv 126 18, zv 127 20, zB 128 .geq 126 127, zv 10 128]
def c207r26 : List Seg := [zv 129 0, zv 130 1, zv 131 16, zv 132 3, zv 133 4, zc 134 207 [.tmp 129, .tmp 130, .tmp 131, .tmp 132, .tmp 133]]
def c207r27 : List Seg := [zv 135 16, zK 136 .add 135 1, zv 1 136]
def c207r28 : List Seg := [zv 137 19, zv 138 20, zB 139 .geq 137 138, zv 10 139]
def c207r29 : List Seg := [zv 140 0, zv 141 16, zK 142 .add 141 1, zv 143 2, zv 144 3, zv 145 4, zc 146 207 [.tmp 140, .tmp 142, .tmp 143, .tmp 144, .tmp 145]]
def c207r30 : List Seg := [zv 147 16, zv 2 147]
def c207b31 : aB := .block 1 (zs 2 4 c207r2 (.seq (zs 3 2 c207r3 (zd 25 (zs 4 5 c207r4 .ret) .skip)) (.seq (zs 5 2 c207r5 (zd 32 (zs 6 5 c207r6 .ret) .skip)) (.seq (zs 7 2 c207r7 (zd 39 (zs 8 5 c207r8 (zr 9 3 c207r9)) .skip)) (zs 10 10 c207r10 (.seq (zs 11 2 c207r11 (zd 56 (zs 12 5 c207r12 (zs 13 7 c207r13 (zr 14 1 c207r14))) .skip)) (.seq (zs 15 8 c207r15 (zd 75 (zs 16 5 c207r16 (zd 80 .ret .skip)) .skip)) (.seq (.seq (.region 17 true 17 c207r17) (zd 97 (zs 18 7 c207r18 (zs 19 2 c207r19 (.exit 1))) .skip)) (zs 20 11 c207r20 (zs 21 2 c207r21 (zs 22 8 c207r22 (zs 23 3 c207r23 (zs 24 3 c207r24 (zd 125 (zs 25 4 c207r25 (zs 26 6 c207r26 (zr 27 3 c207r27))) (zs 28 4 c207r28 (zs 29 7 c207r29 (zr 30 2 c207r30)))))))))))))))))
def c207 : aB := zs 0 1 c207r0 (zs 1 1 c207r1 (.block 0 (.loop c207b31)))
theorem k207 : Compiled Tryz.prog 207 148 [] c207 := .mk' [] Tryz.func207 rfl (by kernel_rfl) (by kernel_rfl)
def c244r0 : List Seg := [zv 10 1, zK 11 .add 10 1, zv 8 11]
def c244r1 : List Seg := [zv 12 8, zv 13 2, zB 14 .lss 12 13]
def c244r3 : List Seg := [zv 17 8, zv 9 17]
def c244r4 : List Seg := [zv 18 9, zv 19 1, zB 20 .gtr 18 19, zv 21 20, .br 21 true [zg 22 (.mv (.tmp 3)) 21 true, zg 23 (.mv (.tmp 0)) 21 true, zg 24 (.mv (.tmp 9)) 21 true, zg 25 (.ia 2 (.tmp 23) (.tmp 24)) 21 true, zg 26 (.load 2 true (.tmp 25)) 21 true, zg 27 (.mv (.tmp 0)) 21 true, zg 28 (.mv (.tmp 9)) 21 true, zg 29 (.bin .sub false (.tmp 28) (zi 1)) 21 true, zg 30 (.ia 2 (.tmp 27) (.tmp 29)) 21 true, zg 31 (.load 2 true (.tmp 30)) 21 true, .mk (some 32) (.callv (.tmp 22) [.tmp 26, .tmp 31]) (some (21, true)), zg 33 (.bin .lss false (.tmp 32) (zi 0)) 21 true], zP 34 21 33]
def c244r6 : List Seg := [zv 37 0, zv 38 9, zv 39 0, zv 40 9, zK 41 .sub 40 1, zv 42 0, zv 43 9, zK 44 .sub 43 1, zI 45 2 42 44, zA 46 2 45, zv 47 0, zv 48 9, zI 49 2 47 48, zA 50 2 49, zI 51 2 37 38, zn (.store 2 (.tmp 51) (.tmp 46)), zI 52 2 39 41, zn (.store 2 (.tmp 52) (.tmp 50))]
def c244r5 : List Seg := [zv 35 9, zK 36 .sub 35 1, zv 9 36]
def c244b6 : aB := .seq (.seq (.region 4 true 17 c244r4) (zd 34 .skip (.exit 2))) (.seq (.block 3 (.region 6 true 18 c244r6)) (zr 5 3 c244r5))
def c244r2 : List Seg := [zv 15 8, zK 16 .add 15 1, zv 8 16]
def c244b8 : aB := .seq (zs 1 3 c244r1 (zd 14 .skip (.exit 0))) (.seq (.block 1 (zs 3 2 c244r3 (.block 2 (.loop c244b6)))) (zr 2 3 c244r2))
def c244 : aB := zs 0 3 c244r0 (.block 0 (.loop c244b8))
theorem k244 : Compiled Tryz.prog 244 53 [] c244 := .mk' [] Tryz.func244 rfl (by kernel_rfl) (by kernel_rfl)
def c208r0 : List Seg := [zM 2 0]
def c208r1 : List Seg := [zv 3 0, zo 4 (.eH .u32 (.tmp 3)), zc 5 252 [.tmp 4], zv 2 5]
def c208r2 : List Seg := [zv 6 0, zc 7 253 [.tmp 6], zv 2 7]
def c208 : aB := zs 0 1 c208r0 (.seq (.cond (zb false) (zs 1 4 c208r1 .ret) .skip) (zs 2 3 c208r2 .ret))
theorem k208 : Compiled Tryz.prog 208 8 [.tmp 2] c208 := .mk' [] Tryz.func208 rfl (by kernel_rfl) (by kernel_rfl)
def c253r0 : List Seg := [zM 2 0]
def c253r1 : List Seg := [zv 3 0, zo 4 (.bin .geq false (.tmp 3) (.con (.one (.t (.int .u64 4294967296)))))]
def c253r2 : List Seg := [zv 5 0, zo 6 (.bin .shr false (.tmp 5) (.con (.one (.t (.int .u64 32))))), zv 0 6]
def c253r3 : List Seg := [zM 2 32]
def c253r4 : List Seg := [zv 7 0, zo 8 (.bin .geq false (.tmp 7) (.con (.one (.t (.int .u64 65536)))))]
def c253r5 : List Seg := [zv 9 0, zo 10 (.bin .shr false (.tmp 9) (.con (.one (.t (.int .u64 16))))), zv 0 10]
def c253r6 : List Seg := [zv 11 2, zK 12 .add 11 16, zv 2 12]
def c253r7 : List Seg := [zv 13 0, zo 14 (.bin .geq false (.tmp 13) (.con (.one (.t (.int .u64 256)))))]
def c253r8 : List Seg := [zv 15 0, zo 16 (.bin .shr false (.tmp 15) (.con (.one (.t (.int .u64 8))))), zv 0 16]
def c253r9 : List Seg := [zv 17 2, zK 18 .add 17 8, zv 2 18]
def c253r10 : List Seg := [zv 19 2, zv 20 0, zo 21 (.eH .u8 (.tmp 20)), zo 22 (.ixs (.con (.one (.t (.str (bs [0, 1, 2, 2, 3, 3, 3, 3, 4, 4, 4, 4, 4, 4, 4, 4, 5, 5, 5, 5, 5, 5, 5, 5, 5, 5, 5, 5, 5, 5, 5, 5, 6, 6, 6, 6, 6, 6, 6, 6, 6, 6, 6, 6, 6, 6, 6, 6, 6, 6, 6, 6, 6, 6, 6, 6, 6, 6, 6, 6, 6, 6, 6, 6, 7, 7, 7, 7, 7, 7, 7, 7, 7, 7, 7, 7, 7, 7, 7, 7, 7, 7, 7, 7, 7, 7, 7, 7, 7, 7, 7, 7, 7, 7, 7, 7, 7, 7, 7, 7, 7, 7, 7, 7, 7, 7, 7, 7, 7, 7, 7, 7, 7, 7, 7, 7, 7, 7, 7, 7, 7, 7, 7, 7, 7, 7, 7, 7, 8, 8, 8, 8, 8, 8, 8, 8, 8, 8, 8, 8, 8, 8, 8, 8, 8, 8, 8, 8, 8, 8, 8, 8, 8, 8, 8, 8, 8, 8, 8, 8, 8, 8, 8, 8, 8, 8, 8, 8, 8, 8, 8, 8, 8, 8, 8, 8, 8, 8, 8, 8, 8, 8, 8, 8, 8, 8, 8, 8, 8, 8, 8, 8, 8, 8, 8, 8, 8, 8, 8, 8, 8, 8, 8, 8, 8, 8, 8, 8, 8, 8, 8, 8, 8, 8, 8, 8, 8, 8, 8, 8, 8, 8, 8, 8, 8, 8, 8, 8, 8, 8, 8, 8, 8, 8, 8, 8, 8, 8, 8, 8, 8, 8, 8, 8, 8, 8, 8, 8, 8, 8, 8, 8, 8, 8, 8, 8]))))) (.tmp 21)), zo 23 (.eH .i64 (.tmp 22)), zB 24 .add 19 23, zv 2 24]
def c253 : aB := zs 0 1 c253r0 (.seq (zs 1 2 c253r1 (zd 4 (zs 2 3 c253r2 (zr 3 1 c253r3)) .skip)) (.seq (zs 4 2 c253r4 (zd 8 (zs 5 3 c253r5 (zr 6 3 c253r6)) .skip)) (.seq (zs 7 2 c253r7 (zd 14 (zs 8 3 c253r8 (zr 9 3 c253r9)) .skip)) (zs 10 7 c253r10 .ret))))
theorem k253 : Compiled Tryz.prog 253 25 [.tmp 2] c253 := .mk' [] Tryz.func253 rfl (by kernel_rfl) (by kernel_rfl)
end Go.Proofs.YtdpbobkcbakpfaaGreatDoor

namespace Go.Proofs.YtdpbobkcbakpfaaGreatDoor
open Go Go.Ab
set_option maxRecDepth 100000
def cell (x : Sp) : List A := [.t (I x.1), .t (I x.2)]
def ltS (x y : Sp) : Bool := decide (x.1 < y.1)
def small (x : Sp) : Prop := -2305843009213693952 ≤ x.1 ∧ x.1 ≤ 2305843009213693952
theorem aVM (x y : Sp) (hx : small x) (hy : small y) : PSp Tryz.prog 161 [.agg (cell x), .agg (cell y)] (.one (.t (I (x.1 - y.1)))) := by
 refine k161.aG (by simp) rfl rfl ?_
 have hw : IntKind.i64.wrap (x.1 - y.1) = x.1 - y.1 := wrap_i64 (by have := hx.1; have := hy.2; omega) (by have := hx.2; have := hy.1; omega)
 simp [c161, c161r0, c161r1, cell, aC, hw]
structure Data (h : Hp) (id ver : Nat) (d : Array Sp) : Prop where
 alive : alive h id ver
 rows : h.rows id = d.toList.map cell
 sz : h.sz id = 2
 open_ : h.shut id = false
def dA (h : Hp) (id ver : Nat) (d : Array Sp) : Hp := h.set id (.arr ver false 2 (d.toList.map cell))
theorem nT {h : Hp} {id ver : Nat} {d : Array Sp} : Data (dA h id ver d) id ver d := ⟨by simp [dA], by simp [dA], by simp [dA], by simp [dA]⟩
theorem aMX {h : Hp} {id ver : Nat} {d e : Array Sp} : dA (dA h id ver d) id ver e = dA h id ver e := funext fun j => by
 simp only [dA, Hp.set]; split <;> rfl
theorem aN.put {h : Hp} {n id ver : Nat} {d : Array Sp} (ho : aN h n) (hid : id < n) : aN (dA h id ver d) n := by
 refine ⟨fun j hj => ?_, fun j o hj => ?_⟩
 ·simp only [dA, Hp.set]; rw [if_neg (by omega)]; exact ho.above j hj
 ·simp only [dA, Hp.set] at hj
  split at hj
  ·simp only [Option.some.injEq] at hj; subst hj
   simp [O.below, cell, A.below]
  ·exact ho.below j o hj
theorem Data.self {h : Hp} {id ver : Nat} {d : Array Sp} (hd : Data h id ver d) : dA h id ver d = h := funext fun j => by
 simp only [dA, Hp.set]
 split
 ·rename_i e; subst e
  have h1 := hd.alive; have h2 := hd.rows; have h3 := hd.sz; have h4 := hd.open_
  unfold Ab.alive at h1; unfold Hp.rows at h2; unfold Hp.sz at h3; unfold Hp.shut at h4
  cases hh : h j with
  | none => rw [hh] at h1; exact h1.elim
  | some o => cases o with
   | arr v s sz rs => rw [hh] at h1 h2 h3 h4; simp only at h1 h2 h3 h4; subst h1; subst h2; subst h3; subst h4; rfl
 ·rfl
theorem aDF : callable Tryz.prog 161 = true := by kernel_rfl
theorem cellAt {h : Hp} {id ver : Nat} {d : Array Sp} {j : Nat} (hd : Data h id ver d) (hj : j < d.size) : (h.rows id)[j]? = some (cell d[j]!) := by
 rw [hd.rows]; simp [hj]
theorem rY (x : Sp) : List.take 2 (cell x) = cell x := rfl
theorem aDG (x : Sp) : (cell x).length = 2 := rfl
theorem aB3 {n : Nat} {A : Exit → St → Prop} {ks : List KF} (h : Hp) (id ver a i : Nat) (tight : Bool) (d0 : Array Sp) (hi : i < d0.size) (hsz : d0.size ≤ 100000) (hsm : ∀ x ∈ d0, small x)
  (st : St) (hh : st.heap = dA h id ver d0) (h0 : st.tmps 0 = .one (.ref id ver 0 d0.size 2 tight)) (h1 : st.tmps 1 = .one (.t (I a))) (h3 : st.tmps 3 = .one (.fn 161 [])) (h9 : st.tmps 9 = .one (.t (I i)))
  (K : ∀ st' : St, st'.heap = dA h id ver (Sort.insInner ltS a i d0) → st'.tmps 0 = st.tmps 0 → st'.tmps 1 = st.tmps 1 → st'.tmps 2 = st.tmps 2 → st'.tmps 3 = st.tmps 3 → st'.tmps 8 = st.tmps 8 → cO Tryz.prog n A ks .normal st') :
  W Tryz.prog n (.loop c244b6) (kont Tryz.prog n A (.blk 2 :: ks)) st := by
 refine W.fJ (fun k st1 => ∃ (j : Nat) (d : Array Sp), k = j ∧ j ≤ i ∧ d.size = d0.size ∧ (∀ x ∈ d, small x) ∧ st1.heap = dA h id ver d ∧ Sort.insInner ltS a j d = Sort.insInner ltS a i d0 ∧ st1.tmps 9 = .one (.t (I j)) ∧ st1.tmps 0 = st.tmps 0 ∧ st1.tmps 1 = st.tmps 1 ∧ st1.tmps 2 = st.tmps 2 ∧ st1.tmps 3 = st.tmps 3 ∧ st1.tmps 8 = st.tmps 8) i ⟨i, d0, rfl, Nat.le_refl _, rfl, hsm, hh, rfl, h9, rfl, rfl, rfl, rfl, rfl⟩ ?_
 rintro k st1 ⟨j, d, hk, hj, hd, hsm', hh1, hins, e9, e0, e1, e2, e3, e8⟩
 have hdat : Data st1.heap id ver d := by rw [hh1]; exact nT
 rcases Nat.lt_or_ge a j with haj | haj
 ·have hj1 : j < d.size := by omega
  have hj2 : j - 1 < d.size := by omega
  have c1 : (st1.heap.rows id)[j]? = some (cell d[j]) := by rw [cellAt hdat hj1, getElem!_pos d j hj1]
  have c2 : (st1.heap.rows id)[j - 1]? = some (cell d[j - 1]) := by rw [cellAt hdat hj2, getElem!_pos d (j - 1) hj2]
  have hw : IntKind.i64.wrap ((j : Int) - 1) = ((j - 1 : Nat) : Int) := by rw [wrap_i64 (by omega) (by omega)]; omega
  have g1 : ∀ hh, (st1.heap.rows id)[j]'hh = cell d[j] := fun hh => by rw [List.getElem?_eq_getElem hh] at c1; simpa using c1
  have s1 : small d[j] := hsm' _ (Array.getElem_mem _)
  have s2 : small d[j - 1] := hsm' _ (Array.getElem_mem _)
  have hln : (st1.heap.rows id).length = d.size := by rw [hdat.rows]; simp
  have hstep : Sort.insInner ltS a j d = if ltS d[j] d[j - 1] then Sort.insInner ltS a (j - 1) ((d.setIfInBounds j d[j - 1]).setIfInBounds (j - 1) d[j]) else d := by
   rw [← getElem!_pos d j hj1, ← getElem!_pos d (j - 1) hj2]
   obtain ⟨m, rfl⟩ : ∃ m, j = m + 1 := ⟨j - 1, by omega⟩
   rw [Sort.insInner]
   have : m + 1 > a := haj
   simp [this, Sort.swp]
  simp [c244b6, c244r4, e9, e0, e1, e3, h0, h1, h3, haj, hdat.alive, hdat.sz, hln, hw, hj1, g1, c2, rY]
  refine ⟨by omega, by omega, by omega, 161, [], ⟨rfl, rfl⟩, aDF, ?_⟩
  refine aD.draw (aVM d[j] d[j - 1] s1 s2) (by simp [cell]) (by simp [cell]) (by simp) ?_
  by_cases hlt : ltS d[j] d[j - 1] = true
  ·have hlt' : d[j].1 - d[j - 1].1 < 0 := by simp [ltS] at hlt; omega
   simp [hlt']
   have hst := nT (h := h) (id := id) (ver := ver) (d := d)
   simp [c244r6, c244r5, e9, e0, e1, e2, e3, h0, h1, h3, hdat.alive, hdat.sz, hdat.open_, hln, hw, hj1, g1, c2, rY, aDG]
   have good : ∀ y : Sp, ∀ x ∈ cell y, (match x with | Ab.A.undef => false | x => true) = true := fun y x hx => by simp [cell] at hx; rcases hx with rfl | rfl <;> rfl
   refine ⟨by omega, hj2, by omega, good _, by omega, ⟨hj2, good _⟩, j - 1, by omega, by omega, (d.setIfInBounds j d[j - 1]).setIfInBounds (j - 1) d[j], by simp [hd], fun x y hxy => ?_, ?_, by rw [← hins, hstep, if_pos hlt], rfl, e8⟩
   ·rcases Array.mem_or_eq_of_mem_setIfInBounds hxy with h1 | h1
    ·rcases Array.mem_or_eq_of_mem_setIfInBounds h1 with h2 | h2
     ·exact hsm' _ h2
     ·rw [h2]; exact s2
    ·rw [h1]; exact s1
   ·have hne : ¬ j = j - 1 := by omega
    have e1' : (((st1.heap.rows id).set j (cell d[j - 1] ++ List.drop 2 (cell d[j]))).set (j - 1) (cell d[j] ++ List.drop 2 (((st1.heap.rows id).set j (cell d[j - 1] ++ List.drop 2 (cell d[j])))[j - 1]?.getD []))) = ((d.setIfInBounds j d[j - 1]).setIfInBounds (j - 1) d[j]).toList.map cell := by
     rw [List.getElem?_set_ne hne, c2, hdat.rows]
     simp [List.map_set, show ∀ x, List.drop 2 (cell x) = [] from fun _ => rfl]
    rw [e1', hh1]
    funext q
    simp only [dA, Hp.set]
    split <;> rfl
  ·have hlt' : ¬ d[j].1 - d[j - 1].1 < 0 := by simp [ltS] at hlt; omega
   simp [hlt']
   exact K _ (by simp [hh1, ← hins, hstep, hlt]) (by simp [e0]) (by simp [e1]) (by simp [e2]) (by simp [e3]) (by simp [e8])
 ·have hja : ¬ (a : Int) < j := by omega
  have hend : Sort.insInner ltS a j d = d := by
   cases j with
   | zero => rfl
   | succ j => rw [Sort.insInner]; simp; omega
  simp [c244b6, c244r4, e9, e0, e1, e3, h0, h1, h3, hja]
  exact K _ (by simp [hh1, ← hins, hend]) (by simp [e0]) (by simp [e1]) (by simp [e2]) (by simp [e3]) (by simp [e8])
theorem oU (a : Nat) : ∀ (j : Nat) (d : Array Sp), (∀ x ∈ d, small x) → j < d.size → (Sort.insInner ltS a j d).size = d.size ∧ ∀ x ∈ Sort.insInner ltS a j d, small x
 | 0, d, h, _ => ⟨rfl, h⟩
 | j + 1, d, h, hj => by
  rw [Sort.insInner]
  split
  ·have hs : (Sort.swp d (j + 1) j).size = d.size := by simp [Sort.swp]
   have hm : ∀ x ∈ Sort.swp d (j + 1) j, small x := by
    intro x hx
    have m1 : d[j]! ∈ d := by rw [getElem!_pos d j (by omega)]; exact Array.getElem_mem _
    have m2 : d[j + 1]! ∈ d := by rw [getElem!_pos d (j + 1) hj]; exact Array.getElem_mem _
    rcases Array.mem_or_eq_of_mem_setIfInBounds hx with h1 | h1
    ·rcases Array.mem_or_eq_of_mem_setIfInBounds h1 with h2 | h2
     ·exact h _ h2
     ·rw [h2]; exact h _ m1
    ·rw [h1]; exact h _ m2
   obtain ⟨q1, q2⟩ := oU a j (Sort.swp d (j + 1) j) hm (by rw [hs]; omega)
   exact ⟨by rw [q1, hs], q2⟩
  ·exact ⟨rfl, h⟩
theorem aFN (h : Hp) (n0 id ver a b : Nat) (tight : Bool) (d : Array Sp) (hd : Data h id ver d) (ho : aN h n0) (hid : id < n0) (hb : b ≤ d.size) (hsz : d.size ≤ 100000) (ha : a ≤ 100000) (hsm : ∀ x ∈ d, small x) :
  ISp Tryz.prog 244 h n0 [.one (.ref id ver 0 d.size 2 tight), .one (.t (I a)), .one (.t (I b)), .one (.fn 161 [])] (.tup []) (dA h id ver (Sort.insertionSort ltS d a b)) := by
 refine k244.kU (by simp) ?_
 have hw : IntKind.i64.wrap ((a : Int) + 1) = ((a + 1 : Nat) : Int) := by rw [wrap_i64 (by omega) (by omega)]; omega
 simp [c244, c244r0, hw]
 refine W.fJ (fun k st => ∃ (i : Nat) (e : Array Sp), k = b - i ∧ e.size = d.size ∧ (∀ x ∈ e, small x) ∧ st.heap = dA h id ver e ∧ Sort.insOuter ltS a b i e = Sort.insertionSort ltS d a b ∧ i ≤ 100001 ∧
  st.tmps 0 = .one (.ref id ver 0 d.size 2 tight) ∧ st.tmps 1 = .one (.t (I a)) ∧ st.tmps 2 = .one (.t (I b)) ∧ st.tmps 3 = .one (.fn 161 []) ∧ st.tmps 8 = .one (.t (I i))) (b - (a + 1)) ⟨a + 1, d, rfl, rfl, hsm, hd.self.symm, rfl, by omega, by simp, by simp, by simp, by simp, by simp⟩ ?_
 rintro k st ⟨i, e, hk, he, hse, hh, hout, hi, h0, h1, h2, h3, h8⟩
 rcases Nat.lt_or_ge i b with hlt | hge
 ·have hstep : Sort.insOuter ltS a b i e = Sort.insOuter ltS a b (i + 1) (Sort.insInner ltS a i e) := by rw [Sort.insOuter, if_pos hlt]
  obtain ⟨q1, q2⟩ := oU a i e hse (by omega)
  have hw2 : IntKind.i64.wrap ((i : Int) + 1) = ((i + 1 : Nat) : Int) := by rw [wrap_i64 (by omega) (by omega)]; omega
  simp [c244b8, c244r1, c244r3, h2, h8, hlt]
  refine aB3 h id ver a i tight e (by omega) (by omega) hse _ hh (by simp [h0, he]) (by simp [h1]) (by simp [h3]) (by simp) fun st' r1 r2 r3 r4 r5 r6 => ?_
  simp [h0, h1, h2, h3, h8] at r2 r3 r4 r5 r6
  simp [c244r2, r1, r2, r3, r4, r5, r6, hw2]
  exact ⟨b - (i + 1), by omega, i + 1, rfl, Sort.insInner ltS a i e, by omega, by intro x y hxy; exact q2 _ hxy, rfl, by rw [← hout, hstep], by omega, rfl⟩
 ·have hge' : ¬ i < b := by omega
  have hend : Sort.insOuter ltS a b i e = e := by rw [Sort.insOuter, if_neg hge']
  simp [c244b8, c244r1, h2, h8, hge']
  exact nH (.inl rfl) rfl (by rw [hh, ← hout, hend]) (aN.put ho hid)
theorem wrap_u64 {n : Int} : IntKind.u64.wrap n = n % 18446744073709551616 := by simp [IntKind.wrap, IntKind.signed, IntKind.bits]
theorem yN {n : Int} (h : 0 ≤ n) (h2 : n < 18446744073709551616) : IntKind.u64.wrap n = n := by rw [wrap_u64]; omega
theorem wrap_u8 {n : Int} (h : 0 ≤ n) (h2 : n < 256) : IntKind.u8.wrap n = n := by simp [IntKind.wrap, IntKind.signed, IntKind.bits]; omega
def aFO : List Nat := [0, 1, 2, 2, 3, 3, 3, 3, 4, 4, 4, 4, 4, 4, 4, 4] ++ List.replicate 16 5 ++ List.replicate 32 6 ++ List.replicate 64 7 ++ List.replicate 128 8
theorem tC (n k : Nat) (h : 2 ^ k ≤ n) : Sort.bitsLen n = k + Sort.bitsLen (n / 2 ^ k) := by
 apply Nat.le_antisymm
 ·rw [Sort.bitsLen_le_iff]
  have := Sort.lt_two_pow_bitsLen (n / 2 ^ k)
  rw [Nat.pow_add, Nat.mul_comm]
  exact (Nat.div_lt_iff_lt_mul (Nat.two_pow_pos k)).1 this
 ·have h1 := Sort.lt_two_pow_bitsLen n
  have hk : k < Sort.bitsLen n := by
   rcases Nat.lt_or_ge k (Sort.bitsLen n) with q | q
   ·exact q
   ·have := Nat.pow_le_pow_right (show 0 < 2 by omega) q
    omega
  have : Sort.bitsLen (n / 2 ^ k) ≤ Sort.bitsLen n - k := by
   rw [Sort.bitsLen_le_iff, Nat.div_lt_iff_lt_mul (Nat.two_pow_pos k), ← Nat.pow_add]
   have : Sort.bitsLen n - k + k = Sort.bitsLen n := by omega
   rw [this]; exact h1
  omega
theorem aI2 : ∀ n, n < 256 → ((bs aFO).data.toList.getD n 0).toNat = Sort.bitsLen n := by
 have h : (List.range 256).all (fun n => ((bs aFO).data.toList.getD n 0).toNat == Sort.bitsLen n) = true := by decide +kernel
 intro n hn
 have := List.all_eq_true.1 h n (List.mem_range.2 hn)
 simpa using this
def aMY : ByteArray := bs aFO
theorem aMZ (n : Nat) (h : n < 256) : (aMY.data.toList.getD n 0).toNat = Sort.bitsLen n := aI2 n h
theorem aN0 : aMY.size = 256 := by decide +kernel
theorem c253r10_eq : c253r10 = [(Seg.one (aQ.mk (some 19) (cP.op (AOp.mv (X.tmp 2))) none)), (Seg.one (aQ.mk (some 20) (cP.op (AOp.mv (X.tmp 0))) none)), (Seg.one (aQ.mk (some 21) (cP.op (AOp.eH .u8 (X.tmp 20))) none)), (Seg.one (aQ.mk (some 22) (cP.op (AOp.ixs (X.con (D.one (A.t (T.str aMY)))) (X.tmp 21))) none)), (Seg.one (aQ.mk (some 23) (cP.op (AOp.eH .i64 (X.tmp 22))) none)), (Seg.one (aQ.mk (some 24) (cP.op (AOp.bin .add false (X.tmp 19) (X.tmp 23))) none)), (Seg.one (aQ.mk (some 2) (cP.op (AOp.mv (X.tmp 24))) none))] := rfl
theorem aB4 {n0 v s nx : Nat} {tm : Nat → D} (h0 : tm 0 = .one (.t (.int .u64 v))) (h2 : tm 2 = .one (.t (I s))) (hv : v < 256) (hs : s ≤ 100) (he : n0 = s + Sort.bitsLen v) :
  aT Tryz.prog 25 (aC [.tmp 2] (.one (.t (I n0)))) (.seq (.region 10 false 7 c253r10) .ret) [] ⟨tm, iA, nx⟩ := by
 have e1 : IntKind.u8.wrap (v : Int) = v := wrap_u8 (by omega) (by omega)
 have hb : Sort.bitsLen v ≤ 8 := (Sort.bitsLen_le_iff v 8).2 (by omega)
 have e2 : IntKind.i64.wrap (Sort.bitsLen v : Int) = Sort.bitsLen v := wrap_i64 (by omega) (by omega)
 have e3 : IntKind.i64.wrap ((s : Int) + Sort.bitsLen v) = (n0 : Int) := bZ _ (by omega) (by omega)
 have e4 := aMZ v hv
 have hv' : (v : Int) < 256 := by omega
 simp [List.getD_eq_getElem?_getD] at e4
 have g4 : ∀ hh, (aMY.data[v]'hh).toNat = Sort.bitsLen v := fun hh => by rw [Array.getElem?_eq_getElem hh] at e4; simpa using e4
 simp [c253r10_eq, h0, h2, D.eH, D.ixs, D.pU, e1, aN0, e2, e3, g4, hv, hv', aC]
theorem aFP (n : Nat) (hn : n ≤ 100000) : PSp Tryz.prog 253 [.one (.t (.int .u64 n))] (.one (.t (I (Sort.bitsLen n)))) := by
 refine k253.aG (by simp) rfl rfl ?_
 have b0 : ¬ (4294967296 : Int) ≤ n := by omega
 by_cases h1 : 65536 ≤ n
 ·have h1' : (65536 : Int) ≤ n := by omega
  obtain ⟨q, hq⟩ : ∃ q : Nat, q = n / 65536 := ⟨_, rfl⟩
  have e1 : (n : Int).fdiv (2 ^ min 16 IntKind.u64.bits) = (q : Int) := by
   show (n : Int).fdiv 65536 = q
   rw [Int.fdiv_eq_ediv_of_nonneg _ (by omega)]; omega
  have q1 : ¬ (256 : Int) ≤ q := by omega
  have := tC n 16 (by omega)
  have w16 : IntKind.i64.wrap 16 = 16 := wrap_i64 (by omega) (by omega)
  simp [c253, c253r0, c253r1, c253r4, c253r5, c253r6, c253r7, b0, h1', e1, q1, w16]
  exact aB4 (v := q) (s := 16) rfl rfl (by omega) (by omega) (by rw [this, hq])
 ·have h1' : ¬ (65536 : Int) ≤ n := by omega
  by_cases h2 : 256 ≤ n
  ·have h2' : (256 : Int) ≤ n := by omega
   obtain ⟨q, hq⟩ : ∃ q : Nat, q = n / 256 := ⟨_, rfl⟩
   have e1 : (n : Int).fdiv (2 ^ min 8 IntKind.u64.bits) = (q : Int) := by
    show (n : Int).fdiv 256 = q
    rw [Int.fdiv_eq_ediv_of_nonneg _ (by omega)]; omega
   have := tC n 8 (by omega)
   have w8 : IntKind.i64.wrap 8 = 8 := wrap_i64 (by omega) (by omega)
   simp [c253, c253r0, c253r1, c253r4, c253r7, c253r8, c253r9, b0, h1', h2', e1, w8]
   exact aB4 (v := q) (s := 8) rfl rfl (by omega) (by omega) (by rw [this, hq])
  ·have h2' : ¬ (256 : Int) ≤ n := by omega
   simp [c253, c253r0, c253r1, c253r4, c253r7, b0, h1', h2']
   exact aB4 (v := n) (s := 0) rfl rfl (by omega) (by omega) (by omega)
theorem aDH (n : Nat) (hn : n ≤ 100000) : PSp Tryz.prog 208 [.one (.t (.int .u64 n))] (.one (.t (I (Sort.bitsLen n)))) := by
 refine k208.aG (by simp) rfl rfl ?_
 simp [c208, c208r0, c208r2]
 refine aD.pure (aFP n hn) (by simp) (by simp) ?_
 simp [aC]
theorem aS4 : PSp Tryz.prog 244 [.one (.t (spans [])), .one (.t (I 0)), .one (.t (I 0)), .one (.fn 161 [])] (.tup []) := by
 refine k244.aG (by simp) (by simp [D.closed, A.closed]) rfl ?_
 have w : IntKind.i64.wrap 1 = 1 := wrap_i64 (by omega) (by omega)
 simp [c244, c244r0, w]
 refine W.fJ (fun _ st => st.tmps 2 = .one (.t (I 0)) ∧ st.tmps 8 = .one (.t (I 1)) ∧ st.heap = iA) 0 ⟨by simp, by simp, by simp⟩ ?_
 rintro k st ⟨h2, h8, hh⟩
 simp [c244b8, c244r1, h2, h8, aC]
theorem aS5 : PSp Tryz.prog 207 [.one (.t (spans [])), .one (.t (I 0)), .one (.t (I 0)), .one (.t (I 0)), .one (.fn 161 [])] (.tup []) := by
 refine k207.aG (by simp) (by simp [D.closed, A.closed]) rfl ?_
 simp [c207, c207r0, c207r1]
 refine W.fJ (fun _ st => st.tmps 0 = .one (.t (spans [])) ∧ st.tmps 1 = .one (.t (I 0)) ∧ st.tmps 2 = .one (.t (I 0)) ∧ st.tmps 4 = .one (.fn 161 []) ∧ st.heap = iA) 0 ⟨by simp, by simp, by simp, by simp, by simp⟩ ?_
 rintro k st ⟨h0, h1, h2, h4, hh⟩
 have w : IntKind.i64.wrap 0 = 0 := wrap_i64 (by omega) (by omega)
 simp [c207b31, c207r2, c207r3, c207r4, h0, h1, h2, h4, hh, w]
 refine aD.pure aS4 (by simp) (by simp) ?_
 simp [aC]
theorem aP6 : PSp Tryz.prog 160 [.one (.t (spans [])), .one (.fn 161 [])] (.tup []) := by
 refine k160.aG (by simp) (by simp [D.closed, A.closed]) rfl ?_
 have w : IntKind.u64.wrap 0 = 0 := yN (by omega) (by omega)
 have hb := aDH 0 (by omega)
 have e : Sort.bitsLen 0 = 0 := rfl
 rw [e] at hb
 simp [c160, c160r0, c160r1, D.eH, D.isInt, w, spans]
 refine aD.pure hb (by simp) (by simp) ?_
 simp
 refine aD.pure aS5 (by simp) (by simp [spans]) ?_
 simp [aC]
theorem aVN (h : Hp) (n0 id ver lim : Nat) (tight : Bool) (d : Array Sp) (hd : Data h id ver d) (ho : aN h n0) (hid : id < n0) (hsz : d.size ≤ 12) (hsm : ∀ x ∈ d, small x) :
  ISp Tryz.prog 207 h n0 [.one (.ref id ver 0 d.size 2 tight), .one (.t (I (0 : Nat))), .one (.t (I d.size)), .one (.t (I lim)), .one (.fn 161 [])] (.tup []) (dA h id ver (Sort.pdq ltS d 0 d.size lim true true)) := by
 refine k207.kU (by simp) ?_
 have e : Sort.pdq ltS d 0 d.size lim true true = Sort.insertionSort ltS d 0 d.size := by
  rw [Sort.pdq, if_pos (by omega)]
 rw [e]
 have w : IntKind.i64.wrap ((d.size : Int) - 0) = (d.size : Int) := bZ _ (by omega) (by omega)
 have w' : IntKind.i64.wrap (d.size : Int) = (d.size : Int) := bZ _ rfl (by omega)
 have h12 : (d.size : Int) ≤ 12 := by omega
 simp [c207, c207r0, c207r1]
 refine W.fJ (fun _ st => st.heap = h ∧ n0 ≤ st.nx ∧ st.tmps 0 = .one (.ref id ver 0 d.size 2 tight) ∧ st.tmps 1 = .one (.t (I 0)) ∧ st.tmps 2 = .one (.t (I d.size)) ∧ st.tmps 4 = .one (.fn 161 [])) 0 ⟨by simp, by simp; omega, by simp, by simp, by simp, by simp⟩ ?_
 rintro k st ⟨hh, hn, h0, h1, h2, h4⟩
 simp [c207b31, c207r2, c207r3, c207r4, h0, h1, h2, h4, hh, w', h12]
 refine aD.imp (aFN h _ id ver 0 d.size tight d hd (aN.more ho (by omega)) (by omega) (Nat.le_refl _) (by omega) (by omega) hsm) ?_
 simp
 exact nH (.inr rfl) rfl rfl (aN.put ho hid)
theorem aS6 (h : Hp) (n0 id ver : Nat) (tight : Bool) (d : Array Sp) (hd : Data h id ver d) (ho : aN h n0) (hid : id < n0) (hsz : d.size ≤ 12) (hsm : ∀ x ∈ d, small x) :
  ISp Tryz.prog 160 h n0 [.one (.ref id ver 0 d.size 2 tight), .one (.fn 161 [])] (.tup []) (dA h id ver (Sort.sort ltS d)) := by
 refine k160.kU (by simp) ?_
 have w : IntKind.u64.wrap (d.size : Int) = (d.size : Int) := yN (by omega) (by omega)
 simp [c160, c160r0, c160r1, D.eH, D.isInt, w]
 refine aD.pure (aDH d.size (by omega)) (by simp) (by simp) ?_
 simp
 refine aD.imp (aVN h _ id ver (Sort.bitsLen d.size) tight d hd (aN.more ho (by omega)) (by omega) hsz hsm) ?_
 exact nH (.inl rfl) rfl rfl (aN.put ho hid)
theorem yO (y : Sp) : ∀ x ∈ cell y, (match x with | Ab.A.undef => false | _x => true) = true := fun x hx => by simp [cell] at hx; rcases hx with rfl | rfl <;> rfl
theorem rowAt {g : Hp} {id ver p : Nat} {e : Array Sp} (hd : Data g id ver e) (hp : p < e.size) : ∀ hh, (g.rows id)[p]'hh = cell e[p] := fun hh => by
 have c := cellAt hd hp
 rw [getElem!_pos e p hp, List.getElem?_eq_getElem hh] at c
 simpa using c
theorem aN1 : Sort.SWO ltS where
 irrefl := fun x => by simp [ltS]
 trans := fun x y z h1 h2 => by simp [ltS] at *; omega
 ntrans := fun x y z h1 h2 => by simp [ltS] at *; omega
end Go.Proofs.YtdpbobkcbakpfaaGreatDoor

namespace Go.Proofs.YtdpbobkcbakpfaaGreatDoor
open Go Go.Ab
set_option maxRecDepth 100000
def bad (x : Sp) : Bool := decide (x.2 < x.1) || decide (x.1 < -1152921504606846976) || decide (1152921504606846976 < x.2)
def dI (n : Int) : List Int → List Int
 | [] => [n]
 | x :: r => if x < n then x :: dI n r else if x = n then x :: r else n :: x :: r
theorem aGH {n : Int} : ∀ (out : List Int) (at' : Nat), at' ≤ out.length → (∀ x ∈ out.take at', x < n) → (∀ y, out[at']? = some y → ¬ y < n) → dI n out = if out[at']? = some n then out else out.take at' ++ n :: out.drop at'
 | [], 0, _, _, _ => by simp [dI]
 | x :: r, 0, _, _, h => by
  have := h x rfl
  by_cases e : x = n
  ·simp [dI, e]
  ·simp [dI, this, e]
 | x :: r, k + 1, h1, h2, h3 => by
  have hx : x < n := h2 x (by simp)
  have ih := aGH r k (by simpa using h1) (fun y hy => h2 y (by simp [hy])) (fun y hy => h3 y (by simpa using hy))
  simp only [dI, hx, if_true, ih]
  simp only [List.getElem?_cons_succ, List.take_succ_cons, List.drop_succ_cons, List.cons_append]
  split <;> rfl
theorem qV (n : Int) : ∀ l : List Int, (dI n l).length ≤ l.length + 1
 | [] => by simp [dI]
 | x :: r => by
  have := qV n r
  unfold dI; split
  ·simp; omega
  ·split <;> simp
def cB (l : List Sp) : List Int := l.foldl (fun out x => dI (x.2 + 1) (dI x.1 out)) []
theorem aDI (l : List Sp) (x : Sp) : cB (l ++ [x]) = dI (x.2 + 1) (dI x.1 (cB l)) := by simp [cB]
theorem vO (l : List Sp) : (cB l).length ≤ 2 * l.length := by
 have : ∀ (l : List Sp) (o : List Int), (l.foldl (fun out x => dI (x.2 + 1) (dI x.1 out)) o).length ≤ o.length + 2 * l.length := by
  intro l
  induction l with
  | nil => intro o; simp
  | cons x r ih =>
   intro o
   have h1 := ih (dI (x.2 + 1) (dI x.1 o))
   have h2 := qV (x.2 + 1) (dI x.1 o)
   have h3 := qV x.1 o
   simp only [List.foldl_cons, List.length_cons]; omega
 simpa [cB] using this l []
def intz (l : List Int) : T := .rows 1 (l.map fun n => [I n])
def nU (d : D) (l : List Int) : Prop := d = .one (.t (intz l)) ∨ (l = [] ∧ d = .one (.tt 1 []))
def aGI : aB := (.seq (.seq (.region 3 false 1 c87r3) (.block 0 (.loop c87b19))) (.seq (.region 17 false 2 c87r17) .ret))
theorem vP (o : List Int) (i m : Nat) : ∀ r ∈ List.drop i (List.take m (o.map fun x => [A.t (I x)])), ∀ x ∈ r, x.fV = true := by
 intro r hr x hx
 have := List.mem_of_mem_take (List.mem_of_mem_drop hr)
 obtain ⟨y, _, rfl⟩ := List.mem_map.1 this
 simp at hx
 subst hx; rfl
def aS7 : aB := (.seq (.block 4 (.loop c87b13)) (.seq (.region 15 false 12 c87r15) (.cond (X.tmp 64) (.region 16 true 12 c87r16) .skip)))
theorem aDJ {n : Nat} {A : Exit → St → Prop} {ks : List KF} {nx nx' : Nat} {tm : Nat → D} {h0 : Hp} (o : List Int) (ho : o.length ≤ 3000) (n0 : Int) (h5 : nU (tm 5) o) (h9 : tm 9 = .one (.t (I n0)))
  (K : ∀ st' : St, st'.heap = h0 → st'.tmps 6 = tm 6 → st'.tmps 7 = tm 7 → st'.tmps 8 = tm 8 → nU (st'.tmps 5) (dI n0 o) → cO Tryz.prog n A ks .normal st') :
  iE Tryz.prog false nx c87r12 (oO (kont Tryz.prog n A (.thn aS7 :: ks)) nx') 0 tm h0 := by
 simp [c87r12, aS7]
 refine W.fJ (fun k st => st.heap = h0 ∧ st.tmps 5 = tm 5 ∧ st.tmps 6 = tm 6 ∧ st.tmps 7 = tm 7 ∧ st.tmps 8 = tm 8 ∧ st.tmps 9 = tm 9 ∧ ∃ i : Nat, k = o.length - i ∧ i ≤ o.length ∧ st.tmps 10 = .one (.t (I i)) ∧ ∀ x ∈ o.take i, x < n0) o.length ⟨rfl, by simp, by simp, by simp, by simp, by simp, 0, by simp, by simp, by simp, by simp⟩ ?_
 rintro k st ⟨hh, e5, e6, e7, e8, e9, i, hk, hi, h10, hall⟩
 have hat := aGH (n := n0) o i hi hall
 rcases Nat.lt_or_ge i o.length with hlt | hge
 ·rcases h5 with h5 | ⟨rfl, _⟩
  case inr => simp at hlt
  rw [h5] at e5
  have hw : IntKind.i64.wrap ((i : Int) + 1) = (i : Int) + 1 := wrap_i64 (by omega) (by omega)
  simp [c87b13, c87r13, e5, e9, h9, h10, intz, hlt]
  refine ⟨fun q => ?_, fun q => ?_⟩
  ·simp [c87r14, h10, hw, hh, e5, e6, e7, e8, e9, h5, h9, intz]
   refine ⟨o.length - (i + 1), by omega, i + 1, rfl, hlt, rfl, fun x hx => ?_⟩
   rw [List.take_add_one, List.getElem?_eq_getElem hlt] at hx
   rcases List.mem_append.1 hx with hx | hx
   ·exact hall x hx
   ·simp at hx; omega
  ·have hat' := hat (fun y hy => by rw [List.getElem?_eq_getElem hlt] at hy; simp at hy; omega)
   rw [List.getElem?_eq_getElem hlt] at hat'
   have hne : ¬ (i : Int) = o.length := by omega
   simp [c87r15, e5, e9, h9, h10, intz, hlt, hne]
   refine ⟨fun e => ?_, fun e => ?_⟩
   ·have e' : dI n0 o = o.take i ++ n0 :: o.drop i := by rw [hat', if_neg (by simpa using e)]
    have q1 : ((i : Int) ≤ o.length) := by omega
    simp [c87r16, e5, e9, h9, h10, intz, Function.comp_def, q1, aC7]
    refine ⟨⟨by omega, vP o i o.length⟩, ⟨by omega, vP o i o.length⟩, ?_⟩
    refine K _ hh (by simp [e6]) (by simp [e7]) (by simp [e8]) ?_
    left
    have e9' : List.take o.length (o.map fun n => [I n]) = o.map fun n => [I n] := List.take_of_length_le (by simp)
    simp [e', intz, List.map_take, List.map_drop, e9']
   ·have e' : dI n0 o = o := by rw [hat', if_pos (by simpa using e)]
    exact K _ hh (by simp [e6]) (by simp [e7]) (by simp [e8]) (by simp [e5, e', nU])
 ·have : i = o.length := by omega
  subst this
  have hat' := hat (fun y hy => by simp at hy)
  simp at hat'
  rcases h5 with h5 | ⟨rfl, h5⟩
  ·rw [h5] at e5
   simp [c87b13, c87r13, c87r15, e5, e9, h9, h10, intz]
   simp [c87r16, e5, e9, h9, h10, intz]
   refine ⟨by omega, K _ hh (by simp [e6]) (by simp [e7]) (by simp [e8]) ?_⟩
   left
   have e9' : List.take o.length (o.map fun n => [I n]) = o.map fun n => [I n] := List.take_of_length_le (by simp)
   simp [hat', intz, e9']
  ·rw [h5] at e5
   simp [c87b13, c87r13, c87r15, e5, e9, h9, h10]
   simp [c87r16, e5, e9, h9, h10]
   refine K _ hh (by simp [e6]) (by simp [e7]) (by simp [e8]) ?_
   left
   simp [dI, intz]
theorem vQ {n : Nat} (all : List Sp) (hlen : all.length ≤ 1000) (hok : ∀ x ∈ all, bad x = false) (id ver : Nat) (h0 : Hp) (ha : alive h0 id ver) (hr : h0.rows id = all.map fun x => (spr x).map .t) (hz : h0.sz id = 2)
  (st : St) (hst : st.heap = h0) (h6 : st.tmps 6 = .one (.ref id ver 0 all.length 2 false)) (h5 : nU (st.tmps 5) []) :
  aT Tryz.prog n (aC [RV.tmp 4] (.one (.t (intz (cB all))))) aGI [] st := by
 simp [aGI, c87r3, hst]
 refine W.fJ (fun k st => st.heap = h0 ∧ ∃ i : Nat, k = all.length - i ∧ i ≤ all.length ∧ st.tmps 6 = .one (.ref id ver 0 all.length 2 false) ∧ st.tmps 7 = .one (.t (I i)) ∧ nU (st.tmps 5) (cB (all.take i))) all.length ⟨rfl, 0, by simp, by simp, by simpa using h6, by simp, by simpa [cB] using h5⟩ ?_
 rintro k st ⟨hh, i, hk, hi, h6, h7, h5⟩
 rcases Nat.lt_or_ge i all.length with hlt | hge
 ·have hx := hok all[i] (List.getElem_mem hlt)
  simp [bad] at hx
  have hw : IntKind.i64.wrap ((i : Int) + 1) = (i : Int) + 1 := wrap_i64 (by omega) (by omega)
  have hw2 : IntKind.i64.wrap (all[i].2 + 1) = all[i].2 + 1 := wrap_i64 (by omega) (by omega)
  have hE := vO (all.take i)
  have hE' : (cB (all.take i)).length ≤ 2000 := by simp at hE; omega
  have hnext : cB (all.take (i + 1)) = dI (all[i].2 + 1) (dI all[i].1 (cB (all.take i))) := by
   rw [List.take_add_one, List.getElem?_eq_getElem hlt]; exact aDI _ _
  generalize cB (all.take i) = E at h5 hE' hnext
  simp [c87b19, c87r4, c87r6, h6, h7, hh, hlt]
  refine W.fJ (fun k st => st.heap = h0 ∧ ∃ kk : Nat, k = 2 - kk ∧ kk ≤ 2 ∧ st.tmps 6 = .one (.ref id ver 0 all.length 2 false) ∧ st.tmps 7 = .one (.t (I i)) ∧ st.tmps 8 = .one (.t (I kk)) ∧ nU (st.tmps 5) (if kk = 0 then E else if kk = 1 then dI all[i].1 E else dI (all[i].2 + 1) (dI all[i].1 E))) 2 ⟨rfl, 0, by simp, by simp, by simpa using h6, by simpa using h7, by simp, by simpa using h5⟩ ?_
  clear h5 h6 h7 hh st
  rintro k1 st ⟨hh, kk, hk1, hkk, h6, h7, h8, h5⟩
  have hl1 := qV all[i].1 E
  rcases (show kk = 0 ∨ kk = 1 ∨ kk = 2 by omega) with rfl | rfl | rfl
  ·simp at h5
   simp [c87b17, c87r7, c87r9, c87r10, h6, h7, h8, hh, hlt, ha, hr, hz, spr]
   refine aDJ E (by omega) all[i].1 (by simpa using h5) (by simp) fun st' q1 q2 q3 q4 q5 => ?_
   simp [c87r8, q1, q2, q3, q4, h6, h7, h8]
   exact ⟨1, by omega, 1, rfl, by omega, wrap_i64 (by omega) (by omega), by simpa using q5⟩
  ·simp at h5
   simp [c87b17, c87r7, c87r9, c87r10, c87r11, h6, h7, h8, hh, hlt, ha, hr, hz, spr, hw2]
   refine aDJ (dI all[i].1 E) (by omega) (all[i].2 + 1) (by simpa using h5) (by simp) fun st' q1 q2 q3 q4 q5 => ?_
   simp [c87r8, q1, q2, q3, q4, h6, h7, h8]
   exact ⟨0, by omega, 2, rfl, by omega, wrap_i64 (by omega) (by omega), by simpa using q5⟩
  ·simp at h5
   simp [c87b17, c87r7, c87r5, h6, h7, h8, hh, hw]
   exact ⟨all.length - (i + 1), by omega, i + 1, rfl, hlt, rfl, by rw [hnext]; exact h5⟩
 ·have : i = all.length := by omega
  subst this
  simp at h5
  rcases h5 with h5 | ⟨e, h5⟩
  ·simp [c87b19, c87r4, c87r17, h6, h7, hh, h5, aC, intz]
  ·simp [c87b19, c87r4, c87r17, h6, h7, hh, h5, aC, e, intz]
theorem aP7 (a b : List Sp) (ha : a.length ≤ 400) (hb : b.length ≤ 400) (hok : ∀ x ∈ a ++ b, bad x = false) : PSp Tryz.prog 87 [.one (.t (spans a)), .one (.t (spans b))] (.one (.t (intz (cB (a ++ b))))) := by
 refine k87.aG (by simp) rfl rfl ?_
 have hc : c87 = .seq (.region 0 false 1 c87r0) (.seq (.region 1 false 1 c87r1) (.seq (.region 2 false 6 c87r2) aGI)) := rfl
 rw [hc]
 cases a with
 | nil =>
  cases b with
  | nil =>
   simp [c87r0, c87r1, c87r2, spans, aGI, c87r3]
   refine W.fJ (fun k st => st.tmps 6 = .one (.tt 2 []) ∧ st.tmps 7 = .one (.t (I 0)) ∧ st.tmps 5 = .one (.tt 1 [])) 0 ⟨by simp, by simp, by simp⟩ ?_
   rintro k st ⟨h6, h7, h5⟩
   simp [c87b19, c87r4, c87r17, h6, h7, h5, aC, cB, intz]
  | cons y b =>
   simp [c87r0, c87r1, c87r2, spans]
   simp at hb ha
   exact ⟨by omega, vQ (y :: b) (by simp; omega) (by simpa using hok) 6 0 _ (by simp) (by simp [Function.comp_def]) (by simp) _ rfl (by simp) (by simp [nU])⟩
 | cons x a =>
  simp [c87r0, c87r1, c87r2, spans]
  simp at hb ha
  refine ⟨by omega, by omega, ?_⟩
  have := vQ (n := 77) (x :: (a ++ b)) (by simp; omega) (by simpa using hok) 4 1
  exact this _ (by simp) (by simp [Function.comp_def]) (by simp) _ rfl (by simp; omega) (by simp [nU])
def fT (op : Int) (x y : Bool) : Bool := (op == 0 && (x || y)) || (op == 1 && (x && y)) || (op == 2 && (x && !y))
theorem aKO {n : Nat} {A : Exit → St → Prop} {ks : List KF} {nx nx' : Nat} {tm : Nat → D} {h0 : Hp} (op : Int) (x y : Bool) (e0 : tm 0 = .one (.t (I op))) (e10 : tm 10 = .one (.t (.bool x))) (e11 : tm 11 = .one (.t (.bool y)))
  (K : ∀ tm' : Nat → D, tm' 0 = tm 0 → tm' 1 = tm 1 → tm' 2 = tm 2 → tm' 7 = tm 7 → tm' 8 = tm 8 → tm' 9 = tm 9 → tm' 12 = .one (.t (.bool (fT op x y))) → cO Tryz.prog n A ks .normal ⟨tm', h0, nx'⟩) :
  iE Tryz.prog false nx c38r7 (oO (kont Tryz.prog n A ks) nx') 0 tm h0 := by
 by_cases o0 : op = 0
 ·subst o0
  cases x <;> cases y <;> simp [c38r7, e0, e10, e11] <;> exact K _ (by simp) (by simp) (by simp) (by simp) (by simp) (by simp) (by simp [fT])
 by_cases o1 : op = 1
 ·subst o1
  cases x <;> cases y <;> simp [c38r7, e0, e10, e11] <;> exact K _ (by simp) (by simp) (by simp) (by simp) (by simp) (by simp) (by simp [fT])
 by_cases o2 : op = 2
 ·subst o2
  cases x <;> cases y <;> simp [c38r7, e0, e10, e11] <;> exact K _ (by simp) (by simp) (by simp) (by simp) (by simp) (by simp) (by simp [fT])
 have q0 : (op == 0) = false := by simpa using o0
 have q1 : (op == 1) = false := by simpa using o1
 have q2 : (op == 2) = false := by simpa using o2
 cases x <;> cases y <;> simp [c38r7, e0, e10, e11, q0, q1, q2] <;> exact K _ (by simp) (by simp) (by simp) (by simp) (by simp) (by simp) (by simp [fT, o0, o1, o2])
def dB (op : Int) (a b acc : List Sp) (u v : Int) : List Sp :=
 if fT op (inS a u) (inS b u) then
  match acc.getLast? with
  | some z => if z.2 + 1 = u then acc.dropLast ++ [(z.1, v - 1)] else acc ++ [(u, v - 1)]
  | none => [(u, v - 1)]
 else acc
def gJ (op : Int) (a b : List Sp) : List Sp → List Int → List Sp
 | acc, u :: v :: r => gJ op a b (dB op a b acc u v) (v :: r)
 | acc, _ => acc
def yP (d : D) (h : Hp) (nx : Nat) (acc : List Sp) : Prop :=
 (acc = [] ∧ d = .one (.tt 2 [])) ∨ (acc ≠ [] ∧ ∃ id ver, id < nx ∧ d = .one (.ref id ver 0 acc.length 2 false) ∧ alive h id ver ∧ h.rows id = (acc.map fun x => (spr x).map .t) ∧ h.sz id = 2 ∧ h.shut id = false)
theorem aI3 {op : Int} {a b acc : List Sp} : ∀ {l : List Int}, l.length ≤ 1 → gJ op a b acc l = acc
 | [], _ => rfl
 | [_], _ => rfl
 | _ :: _ :: _, h => by simp at h
theorem aKP {op : Int} {a b acc : List Sp} {l : List Int} {i : Nat} (h : i + 1 < l.length) : gJ op a b acc (l.drop i) = gJ op a b (dB op a b acc l[i] l[i + 1]) (l.drop (i + 1)) := by
 rw [List.drop_eq_getElem_cons (show i < l.length by omega), List.drop_eq_getElem_cons h]
 rfl
theorem lO {h : Hp} {id ver sz : Nat} {t : Bool} {rs : List (List T)} (hr : h.rows id = rs.map (·.map .t)) : (A.ref id ver 0 rs.length sz t).frz h aL = .rows sz rs := by
 simp [aL, A.frz, hr, List.take_of_length_le, Function.comp_def]
theorem jD {h : Hp} {id ver sz : Nat} {t : Bool} {rs : List (List T)} (ha : alive h id ver) (hz : h.sz id = sz) (hr : h.rows id = rs.map (·.map .t)) : (A.ref id ver 0 rs.length sz t).bT h aL := by
 refine ⟨ha, hz, by simp [hr], fun r hr' x hx => ?_⟩
 rw [hr] at hr'
 have := List.mem_of_mem_drop (List.mem_of_mem_take hr')
 obtain ⟨y, _, rfl⟩ := List.mem_map.1 this
 obtain ⟨z, _, rfl⟩ := List.mem_map.1 hx
 simp
theorem qW {n y : Int} : ∀ {l : List Int}, y ∈ dI n l → y = n ∨ y ∈ l
 | [], h => by simpa [dI] using h
 | x :: r, h => by
  unfold dI at h
  split at h
  ·rcases List.mem_cons.1 h with h | h
   ·simp [h]
   ·rcases qW h with h | h <;> simp [h]
  ·split at h
   ·exact .inr h
   ·rcases List.mem_cons.1 h with h | h
    ·exact .inl h
    ·exact .inr h
theorem aFQ {l : List Sp} {y : Int} : y ∈ cB l → ∃ x ∈ l, y = x.1 ∨ y = x.2 + 1 := by
 have : ∀ (l : List Sp) (o : List Int), y ∈ l.foldl (fun out x => dI (x.2 + 1) (dI x.1 out)) o → y ∈ o ∨ ∃ x ∈ l, y = x.1 ∨ y = x.2 + 1 := by
  intro l
  induction l with
  | nil => intro o h; exact .inl h
  | cons x r ih =>
   intro o h
   rcases ih _ h with h | ⟨z, hz, h⟩
   ·rcases qW h with h | h
    ·exact .inr ⟨x, by simp, .inr h⟩
    ·rcases qW h with h | h
     ·exact .inr ⟨x, by simp, .inl h⟩
     ·exact .inl h
   ·exact .inr ⟨z, by simp [hz], h⟩
 intro h
 rcases this l [] h with h | h
 ·simp at h
 ·exact h
theorem yP.mono {d : D} {h : Hp} {nx nx' : Nat} {acc : List Sp} (ho : yP d h nx acc) (hn : nx ≤ nx') : yP d h nx' acc := by
 rcases ho with ho | ⟨h1, id, ver, h2, h3⟩
 ·exact .inl ho
 ·exact .inr ⟨h1, id, ver, by omega, h3⟩
theorem aDK (op : Int) (a b : List Sp) (ha : a.length ≤ 400) (hb : b.length ≤ 400) (hok : ∀ x ∈ a ++ b, bad x = false) :
  PSp Tryz.prog 38 [.one (.t (I op)), .one (.t (spans a)), .one (.t (spans b))] (.one (.t (spans (gJ op a b [] (cB (a ++ b)))))) := by
 refine k38.aG (by simp) rfl rfl ?_
 simp [c38, c38r0, c38r1]
 refine aD.pure (aP7 a b ha hb hok) (by simp) (by simp) ?_
 have hl : (cB (a ++ b)).length ≤ 1600 := by have := vO (a ++ b); simp at this; omega
 have hm : ∀ y ∈ cB (a ++ b), -1152921504606846976 ≤ y ∧ y ≤ 1152921504606846977 := fun y hy => by
  obtain ⟨x, hx, h⟩ := aFQ hy
  have := hok x hx
  simp [bad] at this
  omega
 generalize cB (a ++ b) = l at hl hm
 simp [c38r2, c38r3]
 refine W.fJ (fun k st => ∃ (i : Nat) (acc : List Sp), k = l.length - i ∧ i ≤ l.length ∧ st.tmps 0 = .one (.t (I op)) ∧ st.tmps 1 = .one (.t (spans a)) ∧ st.tmps 2 = .one (.t (spans b)) ∧ st.tmps 7 = .one (.t (intz l)) ∧ st.tmps 9 = .one (.t (I i)) ∧
  yP (st.tmps 8) st.heap st.nx acc ∧ gJ op a b [] l = gJ op a b acc (l.drop i) ∧ acc.length ≤ i ∧ ∀ z ∈ acc, -1152921504606846977 ≤ z.2 ∧ z.2 ≤ 1152921504606846976) l.length
  ⟨0, [], by simp, by simp, by simp, by simp, by simp, by simp, by simp, by simp [yP], by simp, by simp, by simp⟩ ?_
 rintro k st ⟨i, acc, hk, hi, h0, h1, h2, h7, h9, h8, hc, hacc, hbd⟩
 have hw : IntKind.i64.wrap ((i : Int) + 1) = (i : Int) + 1 := wrap_i64 (by omega) (by omega)
 rcases Nat.lt_or_ge (i + 1) l.length with hlt | hge
 ·have aI4 : i < l.length := by omega
  have gQ : (i : Int) + 1 < l.length := by omega
  rw [hc, aKP hlt]
  simp [c38b13, c38r4, c38r6, h1, h7, h9, hw, intz, aI4, gQ]
  refine aD.draw (InP a l[i] (by omega)) (by simp) (by simp) (by simp) ?_
  simp [h2, h7, h9, intz, aI4]
  refine aD.draw (InP b l[i] (by omega)) (by simp) (by simp) (by simp) ?_
  simp
  refine aKO op (inS a l[i]) (inS b l[i]) (by simpa using h0) (by simp) (by simp) fun tm' p0 p1 p2 p7 p8 p9 p12 => ?_
  simp [h0, h1, h2, h7, h9] at p0 p1 p2 p7 p8 p9
  rw [← p8] at h8
  by_cases hs : fT op (inS a l[i]) (inS b l[i]) = true
  ·simp [c38r8, c38r9, p12, hs]
   have hu := hm l[i] (List.getElem_mem aI4)
   have hv := hm l[i + 1] (List.getElem_mem hlt)
   have hw2 : IntKind.i64.wrap (l[i + 1] - 1) = l[i + 1] - 1 := wrap_i64 (by omega) (by omega)
   have hn1 : ((i : Int) + 1).toNat = i + 1 := by omega
   rcases h8 with ⟨rfl, h8⟩ | ⟨hne, id, ver, hid, h8, q1, q2, q3, q4⟩
   ·simp [h8, c38r10]
    simp [c38r12, c38r5, h8, p0, p1, p2, p7, p9, intz, hw, aI4, gQ, hn1, hlt, hw2]
    refine ⟨by omega, l.length - (i + 1), by omega, i + 1, rfl, by omega, rfl, [(l[i], l[i + 1] - 1)], ?_, by simp [dB, hs], by simp, by simp; omega⟩
    simp [yP, spr]
    exact ⟨_, by omega, 0, ⟨rfl, rfl⟩, by simp, by simp, by simp, by simp⟩
   ·obtain ⟨acc', z, rfl⟩ : ∃ acc' z, acc = acc' ++ [z] := by
     rcases List.eq_nil_or_concat acc with e | ⟨x, y, e⟩
     ·exact absurd e hne
     ·exact ⟨x, y, by simpa using e⟩
    have hz := hbd z (by simp)
    have hlen : acc'.length + 1 ≤ i := by simpa using hacc
    have hw3 : IntKind.i64.wrap (acc'.length : Int) = acc'.length := wrap_i64 (by omega) (by omega)
    have hw4 : IntKind.i64.wrap (z.2 + 1) = z.2 + 1 := wrap_i64 (by omega) (by omega)
    have hg : (st.heap.rows id)[acc'.length]? = some ((spr z).map .t) := by rw [q2]; simp
    have hgE : ∀ hh : acc'.length < (st.heap.rows id).length, (st.heap.rows id)[acc'.length]'hh = (spr z).map .t := fun hh => by simp [q2]
    have hln : (st.heap.rows id).length = acc'.length + 1 := by rw [q2]; simp
    simp [h8, c38r10, hw3, q1, q3, hgE, hln, hw4, p7, p9, intz, aI4, spr]
    refine ⟨by omega, fun heq => ?_, fun hneq => ?_⟩
    ·simp [c38r11, c38r5, h8, p0, p1, p2, p7, p9, intz, hw, hw2, hw3, gQ, hn1, hlt, q1, q3, q4, hgE, hln, spr]
     refine ⟨by omega, by omega, l.length - (i + 1), by omega, i + 1, rfl, by omega, rfl, acc' ++ [(z.1, l[i + 1] - 1)], .inr ⟨by simp, id, ver, by omega, by simp, by simp, ?_, by simp, by simp⟩, by simp [dB, hs, heq], by simp; omega, fun x y hxy => ?_⟩
     ·rw [dF, if_pos rfl, q2]; simp [spr]
     ·rcases List.mem_append.1 hxy with h | h
      ·exact hbd (x, y) (by simp [h])
      ·simp at h; omega
    ·simp [c38r12, c38r5, h8, p0, p1, p2, p7, p9, intz, hw, hw2, aI4, gQ, hn1, hlt, q1, q3, hln]
     refine ⟨by omega, by omega, l.length - (i + 1), by omega, i + 1, rfl, by omega, rfl, acc' ++ [z] ++ [(l[i], l[i + 1] - 1)], .inr ⟨by simp, id, ver + 1, by omega, by simp, by simp, ?_, by simp, ?_⟩, by simp [dB, hs, hneq], by simp; omega, fun x y hxy => ?_⟩
     ·rw [dF, if_pos rfl, q2]; simp [spr]
     ·rw [aC4, if_pos rfl, q4]
     ·rcases List.mem_append.1 hxy with h | h
      ·exact hbd (x, y) h
      ·simp at h; omega
  ·simp [c38r8, c38r5, p12, hs, p0, p1, p2, p7, p9, hw, intz]
   exact ⟨l.length - (i + 1), by omega, i + 1, rfl, by omega, rfl, acc, h8.mono (by omega), by simp [dB, hs], by omega, by simpa using hbd⟩
 ·rw [hc, aI3 (by simp; omega)]
  have gQ : ¬ (i : Int) + 1 < l.length := by omega
  simp [c38b13, c38r4, c38r13, h7, h9, hw, intz, gQ, aC]
  rcases h8 with ⟨rfl, h8⟩ | ⟨_, id, ver, _, h8, q1, q2, q3, q4⟩
  ·simp [h8, spans]
  ·have e1 : (acc.map spr).length = acc.length := by simp
   rw [h8, ← e1]
   have q2' : st.heap.rows id = (acc.map spr).map (·.map .t) := by rw [q2]; simp [Function.comp_def]
   refine ⟨jD q1 q3 q2', ?_⟩
   simp only [lO q2', spans]
end Go.Proofs.YtdpbobkcbakpfaaGreatDoor

namespace Go.Proofs.YtdpbobkcbakpfaaGreatDoor
open Go Go.Ab
set_option maxRecDepth 100000
def Gap : List Sp → Prop
 | [] => True
 | x :: r => x.1 ≤ x.2 ∧ (∀ y ∈ r, x.2 + 1 < y.1) ∧ Gap r
theorem dO {x : Sp} {l : List Sp} {n : Int} : inS (x :: l) n = (decide (x.1 ≤ n ∧ n ≤ x.2) || inS l n) := by simp [inS]
theorem fS {n : Int} : inS [] n = false := rfl
theorem fM {a b : List Sp} {n : Int} : inS (a ++ b) n = (inS a n || inS b n) := by simp [inS]
theorem gM {l : List Sp} {n : Int} : inS l n = true ↔ ∃ x ∈ l, x.1 ≤ n ∧ n ≤ x.2 := by simp [inS]
theorem lP {l : List Sp} {n : Int} : inS l n = false ↔ ∀ x ∈ l, ¬ (x.1 ≤ n ∧ n ≤ x.2) := by
 rw [← Bool.not_eq_true, gM]
 constructor
 ·intro h x hx hh; exact h ⟨x, hx, hh⟩
 ·rintro h ⟨x, hx, hh⟩; exact h x hx hh
theorem Gap.tail {x : Sp} {l : List Sp} (h : Gap (x :: l)) : Gap l := h.2.2
theorem Gap.valid : ∀ {l : List Sp}, Gap l → ∀ x ∈ l, x.1 ≤ x.2
 | [], _, x, hx => by cases hx
 | y :: l, h, x, hx => by
  rcases List.mem_cons.1 hx with rfl | hx
  ·exact h.1
  ·exact Gap.valid h.2.2 x hx
theorem yQ {x : Sp} {l : List Sp} (h : Gap (x :: l)) {n : Int} (hn : inS (x :: l) n = true) : x.1 ≤ n := by
 obtain ⟨y, hy, h1, h2⟩ := gM.1 hn
 rcases List.mem_cons.1 hy with rfl | hy
 ·exact h1
 ·have := h.2.1 y hy; have := h.1; omega
theorem qX {x : Sp} {l : List Sp} (h : Gap (x :: l)) : inS (x :: l) x.1 = true := gM.2 ⟨x, by simp, by omega, h.1⟩
theorem pS {x : Sp} {l : List Sp} (h : Gap (x :: l)) {n : Int} (h1 : n ≤ x.2 + 1) : inS l n = false := lP.2 fun y hy => by
 have := h.2.1 y hy; omega
theorem vR : ∀ {a b : List Sp}, Gap a → Gap b → (∀ n, inS a n = inS b n) → a = b
 | [], [], _, _, _ => rfl
 | [], y :: b, _, hb, h => by have := h y.1; rw [qX hb] at this; simp [inS] at this
 | x :: a, [], ha, _, h => by have := h x.1; rw [qX ha] at this; simp [inS] at this
 | x :: a, y :: b, ha, hb, h => by
  have e1 : x.1 = y.1 := by
   have h1 := yQ hb (n := x.1) (by rw [← h]; exact qX ha)
   have h2 := yQ ha (n := y.1) (by rw [h]; exact qX hb)
   omega
  have side : ∀ {x y : Sp} {a b : List Sp}, Gap (x :: a) → Gap (y :: b) → (∀ n, inS (x :: a) n = inS (y :: b) n) → x.1 = y.1 → y.2 ≤ x.2 := fun {x y a b} ha hb h e => by
   by_cases hlt : x.2 < y.2
   ·have h1 := ha.1
    have q1 : inS (y :: b) (x.2 + 1) = true := gM.2 ⟨y, by simp, by omega, by omega⟩
    rw [← h, dO, pS ha (by omega)] at q1
    simp at q1
    omega
   ·omega
  have e2 : x.2 = y.2 := by
   have h1 := side ha hb h e1
   have h2 := side hb ha (fun n => (h n).symm) e1.symm
   omega
  have exy : x = y := Prod.ext e1 e2
  subst exy
  have := vR ha.tail hb.tail fun n => by
   by_cases hlt : x.2 + 1 < n
   ·have := h n
    rw [dO, dO] at this
    have hd : decide (x.1 ≤ n ∧ n ≤ x.2) = false := by simp; omega
    rw [hd] at this
    simpa using this
   ·rw [pS ha (by omega), pS hb (by omega)]
  rw [this]
theorem lQ {a : List Sp} {z : Sp} : Gap (a ++ [z]) ↔ Gap a ∧ z.1 ≤ z.2 ∧ ∀ y ∈ a, y.2 + 1 < z.1 := by
 induction a with
 | nil => simp [Gap]
 | cons x a ih =>
  simp only [List.cons_append, Gap, ih, List.mem_append, List.mem_cons, List.not_mem_nil, or_false]
  constructor
  ·rintro ⟨h1, h2, h3, h4, h5⟩
   refine ⟨⟨h1, fun y hy => h2 y (.inl hy), h3⟩, h4, ?_⟩
   rintro y (rfl | hy)
   ·exact h2 z (.inr rfl)
   ·exact h5 y hy
  ·rintro ⟨⟨h1, h2, h3⟩, h4, h5⟩
   refine ⟨h1, ?_, h3, h4, fun y hy => h5 y (.inr hy)⟩
   rintro y (hy | rfl)
   ·exact h2 y hy
   ·exact h5 x (.inl rfl)
def cM (acc : List Sp) (s : Sp) : List Sp :=
 match acc.getLast? with
 | some z => if s.1 ≤ z.2 + 1 then acc.dropLast ++ [(z.1, max z.2 s.2)] else acc ++ [s]
 | none => [s]
def kY (l : List Sp) : List Sp := l.foldl cM []
theorem oV {a : List Sp} {z s : Sp} : cM (a ++ [z]) s = if s.1 ≤ z.2 + 1 then a ++ [(z.1, max z.2 s.2)] else a ++ [z] ++ [s] := by simp [cM]
theorem yR : ∀ (l acc : List Sp), Gap acc → (∀ z ∈ acc, ∀ s ∈ l, z.1 ≤ s.1) → l.Pairwise (fun x y => x.1 ≤ y.1) → (∀ x ∈ l, x.1 ≤ x.2) → Gap (l.foldl cM acc) ∧ ∀ n, inS (l.foldl cM acc) n = (inS acc n || inS l n)
 | [], acc, hg, _, _, _ => ⟨hg, fun n => by simp [fS]⟩
 | s :: l, acc, hg, hle, hp, hv => by
  have hs := hv s (by simp)
  rw [List.pairwise_cons] at hp
  have step : Gap (cM acc s) ∧ (∀ z ∈ cM acc s, ∀ t ∈ l, z.1 ≤ t.1) ∧ ∀ n, inS (cM acc s) n = (inS acc n || decide (s.1 ≤ n ∧ n ≤ s.2)) := by
   rcases List.eq_nil_or_concat acc with rfl | ⟨a, z, rfl⟩
   ·refine ⟨by simp [cM, Gap, hs], fun z hz t ht => ?_, fun n => by simp [cM, inS]⟩
    simp [cM] at hz
    subst hz; exact hp.1 t ht
   ·rw [List.concat_eq_append] at *
    rw [oV]
    obtain ⟨g1, g2, g3⟩ := lQ.1 hg
    have hz := hle z (by simp) s (by simp)
    split
    ·rename_i hc
     refine ⟨lQ.2 ⟨g1, by simp; omega, g3⟩, fun y hy t ht => ?_, fun n => ?_⟩
     ·rcases List.mem_append.1 hy with hy | hy
      ·exact hle y (by simp [hy]) t (by simp [ht])
      ·simp at hy; subst hy; exact hle z (by simp) t (by simp [ht])
     ·simp only [fM, dO, fS, Bool.or_false, Bool.or_assoc]
      congr 1
      rw [← Bool.decide_or]
      refine decide_eq_decide.2 ⟨fun h => ?_, fun h => ?_⟩
      ·omega
      ·omega
    ·rename_i hc
     refine ⟨lQ.2 ⟨hg, hs, fun y hy => ?_⟩, fun y hy t ht => ?_, fun n => by simp [fM, dO, fS, Bool.or_assoc]⟩
     ·rcases List.mem_append.1 hy with hy | hy
      ·have := g3 y hy; omega
      ·simp at hy; subst hy; omega
     ·rcases List.mem_append.1 hy with hy | hy
      ·exact hle y hy t (by simp [ht])
      ·simp at hy; subst hy; exact hp.1 t ht
  obtain ⟨q1, q2⟩ := yR l (cM acc s) step.1 step.2.1 hp.2 (fun x hx => hv x (by simp [hx]))
  refine ⟨q1, fun n => ?_⟩
  rw [List.foldl_cons, q2, step.2.2, dO, Bool.or_assoc]
theorem aFR {l : List Sp} (hp : l.Pairwise fun x y => x.1 ≤ y.1) (hv : ∀ x ∈ l, x.1 ≤ x.2) : Gap (kY l) ∧ ∀ n, inS (kY l) n = inS l n := by
 obtain ⟨h1, h2⟩ := yR l [] trivial (by simp) hp hv
 exact ⟨h1, fun n => by rw [kY, h2]; simp [fS]⟩
theorem aKQ {l l' : List Sp} (h : l.Perm l') (n : Int) : inS l n = inS l' n := by
 rw [Bool.eq_iff_iff, gM, gM]
 constructor
 ·rintro ⟨x, hx, hh⟩; exact ⟨x, h.mem_iff.1 hx, hh⟩
 ·rintro ⟨x, hx, hh⟩; exact ⟨x, h.mem_iff.2 hx, hh⟩
def meet (x y : Sp) : List Sp := if max x.1 y.1 ≤ min x.2 y.2 then [(max x.1 y.1, min x.2 y.2)] else []
def cN (a b : List Sp) : List Sp := a.flatMap fun x => b.flatMap fun y => meet x y
theorem tD {α : Type} {l : List α} {f : α → List Sp} {n : Int} : inS (l.flatMap f) n = l.any fun x => inS (f x) n := by
 induction l with
 | nil => rfl
 | cons x l ih => simp [fM, ih]
theorem aN2 {x y : Sp} {n : Int} : inS (meet x y) n = (decide (x.1 ≤ n ∧ n ≤ x.2) && decide (y.1 ≤ n ∧ n ≤ y.2)) := by
 unfold meet
 split
 ·rename_i h
  rw [dO, fS, Bool.or_false, ← Bool.decide_and]
  exact decide_eq_decide.2 ⟨fun h => by simp at h; omega, fun h => by simp; omega⟩
 ·rename_i h
  rw [fS, ← Bool.decide_and]
  symm
  simp
  omega
theorem aDL {x : Sp} {n : Int} : ∀ {b : List Sp}, (b.any fun y => inS (meet x y) n) = (decide (x.1 ≤ n ∧ n ≤ x.2) && inS b n)
 | [] => by simp [fS]
 | y :: b => by rw [List.any_cons, aDL, aN2, dO, Bool.and_or_distrib_left]
theorem aDM : ∀ {a b : List Sp} {n : Int}, inS (cN a b) n = (inS a n && inS b n)
 | [], _, _ => rfl
 | x :: a, b, n => by
  have ih := aDM (a := a) (b := b) (n := n)
  unfold cN at *
  rw [List.flatMap_cons, fM, ih, tD, aDL, dO, Bool.and_or_distrib_right]
def gW (y x : Sp) : List Sp := (if x.1 < y.1 then [(x.1, min x.2 (y.1 - 1))] else []) ++ (if y.2 < x.2 then [(max x.1 (y.2 + 1), x.2)] else [])
def iB (a : List Sp) (y : Sp) : List Sp := a.flatMap (gW y)
def aZ (a b : List Sp) : List Sp := b.foldl iB a
theorem aKR {x y : Sp} (_hx : x.1 ≤ x.2) (hy : y.1 ≤ y.2) {n : Int} : inS (gW y x) n = (decide (x.1 ≤ n ∧ n ≤ x.2) && !decide (y.1 ≤ n ∧ n ≤ y.2)) := by
 unfold gW
 rw [Bool.eq_iff_iff]
 simp only [fM, Bool.or_eq_true, Bool.and_eq_true, decide_eq_true_eq, Bool.not_eq_true', decide_eq_false_iff_not]
 split <;> split <;> simp [dO, fS] <;> omega
theorem yS {x y z : Sp} (hx : x.1 ≤ x.2) (_hy : y.1 ≤ y.2) (hz : z ∈ gW y x) : z.1 ≤ z.2 ∧ x.1 ≤ z.1 ∧ z.2 ≤ x.2 := by
 unfold gW at hz
 rcases List.mem_append.1 hz with h | h <;> split at h <;> simp at h <;> subst h <;> simp <;> omega
theorem aN3 {a : List Sp} {y : Sp} (ha : ∀ x ∈ a, x.1 ≤ x.2) (hy : y.1 ≤ y.2) {n : Int} : inS (iB a y) n = (inS a n && !decide (y.1 ≤ n ∧ n ≤ y.2)) := by
 unfold iB
 rw [tD]
 induction a with
 | nil => rfl
 | cons x a ih =>
  rw [List.any_cons, ih (fun z hz => ha z (by simp [hz])), aKR (ha x (by simp)) hy, dO, Bool.and_or_distrib_right]
theorem vS {a : List Sp} {y z : Sp} (ha : ∀ x ∈ a, x.1 ≤ x.2) (hy : y.1 ≤ y.2) (hz : z ∈ iB a y) : z.1 ≤ z.2 ∧ ∃ x ∈ a, x.1 ≤ z.1 ∧ z.2 ≤ x.2 := by
 obtain ⟨x, hx, h⟩ := List.mem_flatMap.1 hz
 obtain ⟨h1, h2⟩ := yS (ha x hx) hy h
 exact ⟨h1, x, hx, h2⟩
theorem tE : ∀ {b a : List Sp}, (∀ x ∈ a, x.1 ≤ x.2) → (∀ y ∈ b, y.1 ≤ y.2) → ∀ {n : Int}, inS (aZ a b) n = (inS a n && !inS b n)
 | [], a, _, _, n => by simp [aZ, fS]
 | y :: b, a, ha, hb, n => by
  have := tE (b := b) (a := iB a y) (fun z hz => (vS ha (hb y (by simp)) hz).1) (fun z hz => hb z (by simp [hz])) (n := n)
  rw [aZ] at this
  rw [aZ, List.foldl_cons, this, aN3 ha (hb y (by simp)), dO]
  cases inS a n <;> cases decide (y.1 ≤ n ∧ n ≤ y.2) <;> simp
def Asc : List Sp → Prop
 | [] => True
 | x :: r => x.1 ≤ x.2 ∧ (∀ y ∈ r, x.2 < y.1) ∧ Asc r
theorem Gap.asc : ∀ {l : List Sp}, Gap l → Asc l
 | [], _ => trivial
 | x :: l, h => ⟨h.1, fun y hy => by have := h.2.1 y hy; omega, Gap.asc h.2.2⟩
theorem Asc.valid : ∀ {l : List Sp}, Asc l → ∀ x ∈ l, x.1 ≤ x.2
 | [], _, x, hx => by cases hx
 | y :: l, h, x, hx => by
  rcases List.mem_cons.1 hx with rfl | hx
  ·exact h.1
  ·exact Asc.valid h.2.2 x hx
theorem Asc.append : ∀ {a b : List Sp}, Asc a → Asc b → (∀ x ∈ a, ∀ y ∈ b, x.2 < y.1) → Asc (a ++ b)
 | [], _, _, hb, _ => hb
 | x :: a, b, ha, hb, h => ⟨ha.1, fun y hy => by
   rcases List.mem_append.1 hy with hy | hy
   ·exact ha.2.1 y hy
   ·exact h x (by simp) y hy, Asc.append ha.2.2 hb fun z hz y hy => h z (by simp [hz]) y hy⟩
theorem aI5 {x y : Sp} (hx : x.1 ≤ x.2) (hy : y.1 ≤ y.2) : Asc (gW y x) := by
 unfold gW
 split <;> split <;> simp [Asc] <;> omega
theorem aDN : ∀ {a : List Sp} {y : Sp}, Asc a → y.1 ≤ y.2 → Asc (iB a y)
 | [], _, _, _ => trivial
 | x :: a, y, ha, hy => by
  rw [iB, List.flatMap_cons]
  refine Asc.append (aI5 ha.1 hy) (aDN ha.2.2 hy) fun z hz t ht => ?_
  have h1 := yS ha.1 hy hz
  obtain ⟨h2, x', hx', h3⟩ := vS (Asc.valid ha.2.2) hy ht
  have := ha.2.1 x' hx'
  omega
theorem vT : ∀ {a : List Sp} {y : Sp}, (∀ x ∈ a, y.1 ≤ x.1) → (iB a y).length ≤ a.length
 | [], _, _ => by simp [iB]
 | x :: a, y, h => by
  have h1 := vT (a := a) (y := y) fun z hz => h z (by simp [hz])
  have h2 := h x (by simp)
  rw [iB] at h1
  rw [iB, List.flatMap_cons, List.length_append, List.length_cons]
  have : (gW y x).length ≤ 1 := by
   unfold gW
   rw [if_neg (by omega)]
   split <;> simp
  omega
theorem vU : ∀ {a : List Sp} {y : Sp}, Asc a → y.1 ≤ y.2 → (iB a y).length ≤ a.length + 1
 | [], _, _, _ => by simp [iB]
 | x :: a, y, ha, hy => by
  have h1 := vU ha.2.2 hy
  have h2 : (x.1 < y.1 ∧ y.2 < x.2) → (iB a y).length ≤ a.length := fun h => vT fun z hz => by have := ha.2.1 z hz; omega
  have h3 : (gW y x).length ≤ 2 := by unfold gW; split <;> split <;> simp
  have h4 : ¬ (x.1 < y.1 ∧ y.2 < x.2) → (gW y x).length ≤ 1 := fun h => by
   unfold gW
   split <;> split <;> simp
   exact h ⟨by assumption, by assumption⟩
  have e : (iB (x :: a) y).length = (gW y x).length + (iB a y).length := by rw [iB, List.flatMap_cons, List.length_append]; rfl
  rw [e, List.length_cons]
  by_cases hc : x.1 < y.1 ∧ y.2 < x.2
  ·have := h2 hc; omega
  ·have := h4 hc; omega
theorem hZ : ∀ {b a : List Sp}, Asc a → (∀ y ∈ b, y.1 ≤ y.2) → Asc (aZ a b) ∧ (aZ a b).length ≤ a.length + b.length ∧ ∀ z ∈ aZ a b, ∃ x ∈ a, x.1 ≤ z.1 ∧ z.2 ≤ x.2
 | [], a, ha, _ => ⟨ha, by simp [aZ], fun z hz => ⟨z, hz, by omega, by omega⟩⟩
 | y :: b, a, ha, hb => by
  have hy := hb y (by simp)
  obtain ⟨h1, h2, h3⟩ := hZ (b := b) (a := iB a y) (aDN ha hy) fun z hz => hb z (by simp [hz])
  rw [aZ] at h1 h2 h3
  rw [aZ, List.foldl_cons]
  refine ⟨h1, ?_, fun z hz => ?_⟩
  ·have := vU ha hy
   simp only [List.length_cons]
   omega
  ·obtain ⟨x, hx, h4⟩ := h3 z hz
   obtain ⟨_, x', hx', h5⟩ := vS ha.valid hy hx
   exact ⟨x', hx', by omega, by omega⟩
theorem mL {n y : Int} : ∀ {l : List Int}, (y = n ∨ y ∈ l) → y ∈ dI n l
 | [], h => by simpa [dI] using h
 | x :: r, h => by
  unfold dI
  split
  ·rcases h with h | h
   ·exact List.mem_cons_of_mem _ (mL (.inl h))
   ·rcases List.mem_cons.1 h with h | h
    ·simp [h]
    ·exact List.mem_cons_of_mem _ (mL (.inr h))
  ·split
   ·rename_i e
    rcases h with h | h
    ·simp [h, e]
    ·exact h
   ·rcases h with h | h
    ·simp [h]
    ·exact List.mem_cons_of_mem _ h
theorem nV {n : Int} : ∀ {l : List Int}, l.Pairwise (· < ·) → (dI n l).Pairwise (· < ·)
 | [], _ => by simp [dI]
 | x :: r, h => by
  rw [List.pairwise_cons] at h
  unfold dI
  split
  ·refine List.pairwise_cons.2 ⟨fun y hy => ?_, nV h.2⟩
   rcases qW hy with rfl | hy
   ·assumption
   ·exact h.1 y hy
  ·split
   ·exact List.pairwise_cons.2 h
   ·refine List.pairwise_cons.2 ⟨fun y hy => ?_, List.pairwise_cons.2 h⟩
    rcases List.mem_cons.1 hy with rfl | hy
    ·omega
    ·have := h.1 y hy; omega
theorem aB5 (l : List Sp) : (cB l).Pairwise (· < ·) ∧ ∀ x ∈ l, x.1 ∈ cB l ∧ x.2 + 1 ∈ cB l := by
 have : ∀ (l : List Sp) (o : List Int), o.Pairwise (· < ·) → (l.foldl (fun out x => dI (x.2 + 1) (dI x.1 out)) o).Pairwise (· < ·) ∧ (∀ y ∈ o, y ∈ l.foldl (fun out x => dI (x.2 + 1) (dI x.1 out)) o) ∧
   ∀ x ∈ l, x.1 ∈ l.foldl (fun out x => dI (x.2 + 1) (dI x.1 out)) o ∧ x.2 + 1 ∈ l.foldl (fun out x => dI (x.2 + 1) (dI x.1 out)) o := by
  intro l
  induction l with
  | nil => intro o h; exact ⟨h, fun y hy => hy, by simp⟩
  | cons x r ih =>
   intro o h
   obtain ⟨h1, h2, h3⟩ := ih (dI (x.2 + 1) (dI x.1 o)) (nV (nV h))
   refine ⟨h1, fun y hy => h2 y (mL (.inr (mL (.inr hy)))), fun z hz => ?_⟩
   rcases List.mem_cons.1 hz with rfl | hz
   ·exact ⟨h2 _ (mL (.inr (mL (.inl rfl)))), h2 _ (mL (.inl rfl))⟩
   ·exact h3 z hz
 obtain ⟨h1, _, h3⟩ := this l [] List.Pairwise.nil
 exact ⟨h1, h3⟩
theorem vV {op : Int} : fT op false false = false := by simp [fT]
theorem wW {op : Int} {a b acc : List Sp} {z : Sp} {u v : Int} (hs : fT op (inS a u) (inS b u) = true) : dB op a b (acc ++ [z]) u v = if z.2 + 1 = u then acc ++ [(z.1, v - 1)] else acc ++ [z] ++ [(u, v - 1)] := by simp [dB, hs]
theorem yT (op : Int) (a b : List Sp) : ∀ (l : List Int) (acc : List Sp), l.Pairwise (· < ·) → Gap acc → (∀ z ∈ acc, ∀ e ∈ l, z.2 < e) → (∀ n, (∀ e ∈ l, n < e) → inS acc n = fT op (inS a n) (inS b n)) →
  (∀ x ∈ a ++ b, ((∀ e ∈ l, x.1 < e) ∨ x.1 ∈ l) ∧ ((∀ e ∈ l, x.2 + 1 < e) ∨ x.2 + 1 ∈ l)) → Gap (gJ op a b acc l) ∧ ∀ n, inS (gJ op a b acc l) n = fT op (inS a n) (inS b n)
 | [], acc, _, hg, _, hacc, _ => ⟨hg, fun n => hacc n (by simp)⟩
 | [u], acc, _, hg, hz, hacc, hE => by
  refine ⟨hg, fun n => ?_⟩
  show inS acc n = _
  by_cases hn : n < u
  ·exact hacc n (by simpa using hn)
  ·have h1 : inS acc n = false := lP.2 fun z hz' => by have := hz z hz' u (by simp); omega
   have out : ∀ c : List Sp, (∀ x ∈ c, x ∈ a ++ b) → inS c n = false := fun c hc => lP.2 fun x hx => by
    have := (hE x (hc x hx)).2
    simp at this
    omega
   rw [h1, out a (fun x hx => by simp [hx]), out b (fun x hx => by simp [hx]), vV]
 | u :: v :: r, acc, hp, hg, hz, hacc, hE => by
  rw [List.pairwise_cons] at hp
  have huv : u < v := hp.1 v (by simp)
  have hvr := hp.2
  rw [List.pairwise_cons] at hvr
  have hvle : ∀ e ∈ v :: r, v ≤ e := fun e he => by
   rcases List.mem_cons.1 he with rfl | he
   ·omega
   ·have := hvr.1 e he; omega
  -- between two edges nothing changes
  have edge : ∀ e : Int, ((∀ e' ∈ u :: v :: r, e < e') ∨ e ∈ u :: v :: r) → e ≤ u ∨ v ≤ e := fun e he => by
   rcases he with he | he
   ·have := he u (by simp); omega
   ·rcases List.mem_cons.1 he with rfl | he
    ·omega
    ·have := hvle e he; omega
  have same : ∀ c : List Sp, (∀ x ∈ c, x ∈ a ++ b) → ∀ n, u ≤ n → n < v → inS c n = inS c u := fun c hc n h1 h2 => by
   rw [Bool.eq_iff_iff, gM, gM]
   constructor
   ·rintro ⟨x, hx, h3, h4⟩
    have e1 := edge _ (hE x (hc x hx)).1
    have e2 := edge _ (hE x (hc x hx)).2
    exact ⟨x, hx, by omega, by omega⟩
   ·rintro ⟨x, hx, h3, h4⟩
    have e1 := edge _ (hE x (hc x hx)).1
    have e2 := edge _ (hE x (hc x hx)).2
    exact ⟨x, hx, by omega, by omega⟩
  have sa := same a (fun x hx => by simp [hx])
  have sb := same b (fun x hx => by simp [hx])
  have hzu : ∀ z ∈ acc, z.2 < u := fun z hz' => hz z hz' u (by simp)
  have haccu : ∀ n, n < u → inS acc n = fT op (inS a n) (inS b n) := fun n hn => hacc n fun e he => by
   rcases List.mem_cons.1 he with rfl | he
   ·exact hn
   ·have := hvle e he; omega
  have haccn : ∀ n, u ≤ n → inS acc n = false := fun n hn => lP.2 fun z hz' => by have := hzu z hz'; omega
  have step : Gap (dB op a b acc u v) ∧ (∀ z ∈ dB op a b acc u v, z.2 < v) ∧ ∀ n, n < v → inS (dB op a b acc u v) n = fT op (inS a n) (inS b n) := by
   cases hs : fT op (inS a u) (inS b u) with
   | false =>
    have e : dB op a b acc u v = acc := by simp [dB, hs]
    rw [e]
    refine ⟨hg, fun z hz' => by have := hzu z hz'; omega, fun n hn => ?_⟩
    by_cases h : n < u
    ·exact haccu n h
    ·rw [haccn n (by omega), sa n (by omega) hn, sb n (by omega) hn, hs]
   | true =>
    have val : ∀ n, n < v → (inS acc n || decide (u ≤ n ∧ n ≤ v - 1)) = fT op (inS a n) (inS b n) := fun n hn => by
     by_cases h : n < u
     ·have : decide (u ≤ n ∧ n ≤ v - 1) = false := by simp; omega
      rw [this, Bool.or_false, haccu n h]
     ·have : decide (u ≤ n ∧ n ≤ v - 1) = true := by simp; omega
      rw [this, Bool.or_true, sa n (by omega) hn, sb n (by omega) hn, hs]
    rcases List.eq_nil_or_concat acc with rfl | ⟨acc', z, rfl⟩
    ·have e : dB op a b [] u v = [(u, v - 1)] := by simp [dB, hs]
     rw [e]
     refine ⟨by simp [Gap]; omega, fun z hz' => by simp at hz'; subst hz'; simp; omega, fun n hn => ?_⟩
     rw [← val n hn, dO, fS, Bool.or_false, Bool.false_or]
    ·rw [List.concat_eq_append] at *
     obtain ⟨g1, g2, g3⟩ := lQ.1 hg
     have hz2 := hzu z (by simp)
     rw [wW hs]
     split
     ·rename_i hc
      refine ⟨lQ.2 ⟨g1, by simp; omega, g3⟩, fun y hy => ?_, fun n hn => ?_⟩
      ·rcases List.mem_append.1 hy with hy | hy
       ·have := hzu y (by simp [hy]); omega
       ·simp at hy; subst hy; simp; omega
      ·rw [← val n hn]
       simp only [fM, dO, fS, Bool.or_false, Bool.or_assoc]
       congr 1
       rw [← Bool.decide_or]
       exact decide_eq_decide.2 ⟨fun h => by omega, fun h => by omega⟩
     ·rename_i hc
      refine ⟨lQ.2 ⟨hg, by simp; omega, fun y hy => ?_⟩, fun y hy => ?_, fun n hn => ?_⟩
      ·rcases List.mem_append.1 hy with hy | hy
       ·have := g3 y hy; simp; omega
       ·simp at hy; subst hy; simp; omega
      ·rcases List.mem_append.1 hy with hy | hy
       ·have := hzu y hy; omega
       ·simp at hy; subst hy; simp; omega
      ·rw [← val n hn, fM, dO, fS, Bool.or_false]
  show Gap (gJ op a b (dB op a b acc u v) (v :: r)) ∧ ∀ n, inS (gJ op a b (dB op a b acc u v) (v :: r)) n = _
  refine yT op a b (v :: r) _ hp.2 step.1 (fun z hz' e he => by have := step.2.1 z hz'; have := hvle e he; omega) (fun n hn => step.2.2 n (hn v (by simp))) fun x hx => ?_
  have tail : ∀ e : Int, ((∀ e' ∈ u :: v :: r, e < e') ∨ e ∈ u :: v :: r) → (∀ e' ∈ v :: r, e < e') ∨ e ∈ v :: r := fun e he => by
   rcases he with he | he
   ·exact .inl fun e' he' => he e' (List.mem_cons_of_mem _ he')
   ·rcases List.mem_cons.1 he with rfl | he
    ·exact .inl fun e' he' => hp.1 e' he'
    ·exact .inr he
  exact ⟨tail _ (hE x hx).1, tail _ (hE x hx).2⟩
theorem aI6 (op : Int) (a b : List Sp) : Gap (gJ op a b [] (cB (a ++ b))) ∧ ∀ n, inS (gJ op a b [] (cB (a ++ b))) n = fT op (inS a n) (inS b n) := by
 obtain ⟨h1, h2⟩ := aB5 (a ++ b)
 refine yT op a b _ [] h1 trivial (by simp) (fun n hn => ?_) fun x hx => ⟨.inr (h2 x hx).1, .inr (h2 x hx).2⟩
 have out : ∀ c : List Sp, (∀ x ∈ c, x ∈ a ++ b) → inS c n = false := fun c hc => lP.2 fun x hx => by
  have := hn _ (h2 x (hc x hx)).1
  omega
 rw [out a (fun x hx => by simp [hx]), out b (fun x hx => by simp [hx]), vV, fS]
end Go.Proofs.YtdpbobkcbakpfaaGreatDoor

namespace Go.Proofs.YtdpbobkcbakpfaaGreatDoor
open Go Go.Ab
set_option maxRecDepth 100000
theorem aP8 (l : List Sp) (hne : l ≠ []) (hl : l.length ≤ 100000) (h : Hp) (n0 : Nat) (ho : aN h n0) :
  ISp Tryz.prog 159 h n0 [.one (.t (spans l))] (.one (.ref n0 0 0 l.length 2 false)) (dA h n0 0 l.toArray) := by
 refine k159.aO0 (by simp) ?_
 obtain ⟨x, r, rfl⟩ : ∃ x r, l = x :: r := by cases l with | nil => exact absurd rfl hne | cons x r => exact ⟨x, r, rfl⟩
 simp [c159, c159r0, c159r1, c159r3, spans, D.notNil]
 have hcell : (fun y => List.map A.t (spr y)) = cell := by funext y; rfl
 refine ⟨by simp at hl; omega, n0 + 1 + 2 + 2, .inr rfl, ⟨by simp, by simp⟩, ⟨.ref (n0 + 1 + 2 + 2) 0 0 (r.length + 1) 2 false, rfl, by simp [A.only], by simp [A.ren, qM]⟩, by omega, fun id hid => ?_, ?_, ⟨.arr 0 false 2 (List.map A.t (spr x) :: List.map ((fun x => List.map A.t x) ∘ spr) r), by simp [Hp.set]⟩, fun id hid => ?_, fun id o hid => ?_⟩
 ·simp only [dA, Hp.set]; rw [if_neg (by omega), if_neg (by omega)]
 ·simp only [dA, Hp.set, if_true]
  simp only [List.map_cons, ← hcell]; rfl
 ·simp only [dA, Hp.set]; rw [if_neg (by omega)]; exact ho.above id (by omega)
 ·simp only [dA, Hp.set] at hid
  split at hid
  ·simp only [Option.some.injEq] at hid; subst hid
   simp [O.below, cell, A.below]
  ·exact ho.below id o hid
theorem aI7 : PSp Tryz.prog 159 [.one (.t (spans []))] (.one (.t (spans []))) := by
 refine k159.psp (by simp) rfl rfl ?_
 unfold c159
 refine W.seq (W.fY _ _ _ ?_)
 simp [awp, c159r0, oO, qC]
 refine W.seq (W.seq (W.aLF (sz := 2) rfl fun b => ?_))
 have last : ∀ st' : St, st'.tmps 0 = .one (.t (spans [])) → st'.heap = iA → W Tryz.prog 8 (.seq (.region 3 false 4 c159r3) .ret) (aC [.tmp 2] (.one (.t (spans [])))) st' := fun st' e0 e1 => by
  refine W.fY _ _ _ ?_
  simp [awp, c159r3, oO, qC, e0, e1, spans, aC]
 show W _ _ _ _ _
 refine W.fY _ _ _ ?_
 cases b
 ·simp [awp, qC]
  exact last _ rfl rfl
 ·simp [awp, c159r2, oO, qC, spans, aC]
def qY (l : List Sp) : List Sp := (Sort.sort ltS l.toArray).toList
theorem oN (l : List Sp) : (qY l).Perm l ∧ (qY l).Pairwise fun x y => x.1 ≤ y.1 := by
 obtain ⟨h1, h2⟩ := Sort.sort_sorts ltS aN1 l.toArray
 unfold qY
 generalize Sort.sort ltS l.toArray = e at *
 obtain ⟨s, _, p⟩ := h1
 have e1 : (e.extract 0 l.toArray.size).toList = e.toList := by rw [← s]; simp
 have e2 : (l.toArray.extract 0 l.toArray.size).toList = l := by simp
 rw [e1, e2] at p
 refine ⟨p, ?_⟩
 rw [List.pairwise_iff_getElem]
 intro i j hi hj hij
 have hi' : i < e.size := by simpa using hi
 have hj' : j < e.size := by simpa using hj
 have := h2 i j (Nat.zero_le _) hij (by rw [← s]; exact hj')
 rw [getElem!_pos e i hi', getElem!_pos e j hj'] at this
 simp [ltS] at this
 simpa using this
theorem yU (l : List Sp) : (qY l).length = l.length := (oN l).1.length_eq
def cC (l : List Sp) : List Sp := kY (qY l)
theorem nW {l : List Sp} (hv : ∀ x ∈ l, x.1 ≤ x.2) : Gap (cC l) ∧ ∀ n, inS (cC l) n = inS l n := by
 obtain ⟨h1, h2⟩ := oN l
 obtain ⟨g1, g2⟩ := aFR h2 fun x hx => hv x (h1.mem_iff.1 hx)
 exact ⟨g1, fun n => by rw [cC, g2, aKQ h1]⟩
theorem aI8 (x : Sp) : ∀ y ∈ cell x, y.fV = true := fun y hy => by simp [cell] at hy; rcases hy with rfl | rfl <;> rfl
def rZ (d : D) (h : Hp) (nx : Nat) (acc : List Sp) (did : Nat) : Prop :=
 (acc = [] ∧ d = .one (.tt 2 [])) ∨ (acc ≠ [] ∧ ∃ id ver, id < nx ∧ id ≠ did ∧ d = .one (.ref id ver 0 acc.length 2 false) ∧ alive h id ver ∧ h.rows id = acc.map cell ∧ h.sz id = 2 ∧ h.shut id = false)
theorem Data.set {h : Hp} {id ver j : Nat} {d : Array Sp} {o : O} (hd : Data h id ver d) (hne : id ≠ j) : Data (h.set j o) id ver d := by
 obtain ⟨a, b, c, e⟩ := hd
 refine ⟨?_, ?_, ?_, ?_⟩
 ·unfold Ab.alive Hp.set at *; rw [if_neg hne]; exact a
 ·unfold Hp.rows Hp.set at *; rw [if_neg hne]; exact b
 ·unfold Hp.sz Hp.set at *; rw [if_neg hne]; exact c
 ·unfold Hp.shut Hp.set at *; rw [if_neg hne]; exact e
theorem aB6 (l : List Sp) (hl : l.length ≤ 12) (hok : ∀ x ∈ l, bad x = false) : PSp Tryz.prog 130 [.one (.t (spans l))] (.one (.t (spans (cC l)))) := by
 by_cases hne : l = []
 ·subst hne
  have e : cC [] = [] := by
   have := (oN []).1
   have : qY [] = [] := List.Perm.eq_nil this
   rw [cC, this]; rfl
  rw [e]
  refine k130.aG (by simp) rfl rfl ?_
  simp [c130, c130r0, c130r1]
  refine aD.pure aI7 (by simp) (by simp) ?_
  simp [c130r2, spans]
  refine aD.pure aP6 (by simp [D.bT]) (by simp [D.frz, spans]) ?_
  simp [c130r3, c130r4]
  refine W.fJ (fun _ st => st.tmps 3 = .one (.tt 2 []) ∧ st.tmps 12 = .one (.t (I 0)) ∧ st.tmps 13 = .one (.t (I 0))) 0 ⟨by simp, by simp, by simp⟩ ?_
  rintro k st ⟨h3, h12, h13⟩
  simp [c130b12, c130r5, h3, h12, h13, c130r12, aC]
 obtain ⟨S, hS⟩ : ∃ S, S = qY l := ⟨_, rfl⟩
 have hSl : S.length = l.length := by rw [hS]; exact yU l
 have aVO : ∀ x ∈ S, bad x = false := fun x hx => hok x ((oN l).1.mem_iff.1 (by rw [← hS]; exact hx))
 have e : cC l = kY S := by rw [hS]; rfl
 have hsort : (Sort.sort ltS l.toArray) = S.toArray := by rw [hS]; simp [qY]
 rw [e]
 refine k130.aG (by simp) rfl rfl ?_
 simp [c130, c130r0, c130r1]
 have ho0 : ∀ n, aN iA n := fun n => ⟨fun _ _ => rfl, fun id o h => by cases h⟩
 refine aD.imp (aP8 l hne (by omega) iA _ (ho0 _)) ?_
 simp [c130r2]
 have hsm : ∀ x ∈ l.toArray, small x := fun x hx => by
  have := hok x (by simpa using hx)
  simp [bad] at this
  simp [small]; omega
 have hsf := aS6 (dA iA 2 0 l.toArray) 5 2 0 false l.toArray nT (aN.more (aN.put (ho0 3) (by omega)) (by omega)) (by omega) (by simpa using hl) hsm
 rw [aMX, hsort] at hsf
 simp only [List.size_toArray] at hsf
 refine aD.imp hsf ?_
 have aS8 : Data (dA iA 2 0 S.toArray) 2 0 S.toArray := nT
 generalize dA iA 2 0 S.toArray = g at *
 simp [c130r3, c130r4]
 refine W.fJ (fun k st => ∃ (i : Nat) (acc : List Sp), k = S.length - i ∧ i ≤ S.length ∧ st.tmps 11 = .one (.ref 2 0 0 S.length 2 false) ∧ st.tmps 12 = .one (.t (I S.length)) ∧ st.tmps 13 = .one (.t (I i)) ∧ 3 ≤ st.nx ∧ Data st.heap 2 0 S.toArray ∧
  rZ (st.tmps 3) st.heap st.nx acc 2 ∧ (S.drop i).foldl cM acc = kY S ∧ acc.length ≤ i ∧ ∀ z ∈ acc, -1152921504606846976 ≤ z.2 ∧ z.2 ≤ 1152921504606846976) S.length
  ⟨0, [], by simp, by simp, by simp [hSl], by simp [hSl], by simp, by simp, by simp [aS8], by simp [rZ], by simp [kY], by simp, by simp⟩ ?_
 rintro k st ⟨i, acc, hk, hi, h11, h12, h13, hnx, hdat, h3, hout, hacc, hbd⟩
 rcases Nat.lt_or_ge i S.length with hlt | hge
 ·have gQ : (i : Int) < S.length := by omega
  have hia : i < S.toArray.size := by simpa using hlt
  have hsi := aVO S[i] (List.getElem_mem hlt)
  simp [bad] at hsi
  have hw : IntKind.i64.wrap ((i : Int) + 1) = ((i + 1 : Nat) : Int) := bZ _ (by omega) (by omega)
  have hln : (st.heap.rows 2).length = S.length := by rw [hdat.rows]; simp
  have g1 : ∀ hh, (st.heap.rows 2)[i]'hh = cell S[i] := fun hh => by have := rowAt hdat hia hh; simpa using this
  have hfold : (S.drop (i + 1)).foldl cM (cM acc S[i]) = kY S := by
   rw [← hout, List.drop_eq_getElem_cons hlt]; rfl
  have hd2 : ∀ c, ¬ (2 = st.nx + c) := fun c => by omega
  have hd2' : ¬ (2 = st.nx) := by omega
  simp [c130b12, c130r5, c130r6, c130r7, h11, h12, h13, hlt, gQ, hdat.alive, hdat.sz, hln, g1, rY]
  rcases h3 with ⟨rfl, h3⟩ | ⟨hne', id, ver, hid, aS9, h3, q1, q2, q3, q4⟩
  ·simp [h3, c130r8, c130r10, c130r11, h11, h12, h13, hw, aDG]
   refine ⟨yO _, ⟨yO _, aI8 _⟩, S.length - (i + 1), by omega, i + 1, rfl, by omega, by omega, ((hdat.set (by omega)).set (by omega)).set (by omega), [S[i]], .inr ⟨by simp, _, 0, ?_, ?_, rfl, by simp, ?_, by simp, by simp⟩, hfold, by simp, fun a b hab => by rw [List.mem_singleton] at hab; rw [← hab] at hsi; simp at hsi; omega⟩
   ·omega
   ·omega
   ·rw [dF, if_pos rfl]; rfl
  ·obtain ⟨acc', z, rfl⟩ : ∃ acc' z, acc = acc' ++ [z] := by
    rcases List.eq_nil_or_concat acc with e | ⟨x, y, e⟩
    ·exact absurd e hne'
    ·exact ⟨x, y, by simpa using e⟩
   have hz := hbd z (by simp)
   have hlen : acc'.length + 1 ≤ i := by simpa using hacc
   have hw3 : IntKind.i64.wrap (acc'.length : Int) = acc'.length := wrap_i64 (by omega) (by omega)
   have hw4 : IntKind.i64.wrap (z.2 + 1) = z.2 + 1 := wrap_i64 (by omega) (by omega)
   have hgE : ∀ hh : acc'.length < (st.heap.rows id).length, (st.heap.rows id)[acc'.length]'hh = cell z := fun hh => by simp [q2]
   have aB7 : (st.heap.rows id).length = acc'.length + 1 := by rw [q2]; simp
   have hidn : ∀ c, ¬ id = st.nx + c := fun c => by omega
   have hidn' : ¬ id = st.nx := by omega
   rw [oV] at hfold
   have aDO : ¬ id = st.nx + 1 + 2 := by omega
   have hn2 : ¬ st.nx + 1 + 2 = id := by omega
   simp [h3, c130r8, hw3, hw4, q1, q3, hgE, aB7, aDO, cell]
   refine ⟨by omega, fun hle => ?_, fun hgt => ?_⟩
   ·rw [if_pos hle] at hfold
    simp [c130r9, c130r11, h3, h11, h12, h13, hw, hw3, q1, q3, q4, hgE, aB7, aDO, cell]
    have hmax : (if z.2 < S[i].2 then S[i].2 else z.2) = max z.2 S[i].2 := by rw [Int.max_def]; split <;> split <;> omega
    rw [hmax]
    refine ⟨by omega, S.length - (i + 1), by omega, i + 1, rfl, by omega, by omega, ((hdat.set (by omega)).set (by omega)).set (by omega), acc' ++ [(z.1, max z.2 S[i].2)], .inr ⟨by simp, id, ver, by omega, aS9, by simp, by simp, ?_, by simp, by simp⟩, hfold, by simp; omega, fun a b hab => ?_⟩
    ·rw [dF, if_pos rfl, q2]; simp [cell]
    ·rcases List.mem_append.1 hab with h | h
     ·exact hbd (a, b) (by simp [h])
     ·simp at h; omega
   ·have hng : ¬ S[i].1 ≤ z.2 + 1 := by omega
    rw [if_neg hng] at hfold
    simp [c130r10, c130r11, h3, h11, h12, h13, hw, q1, q3, q4, aB7, aDO]
    refine ⟨by omega, S.length - (i + 1), by omega, i + 1, rfl, by omega, by omega, ((hdat.set (by omega)).set (by omega)).set (by omega), acc' ++ [z] ++ [S[i]], .inr ⟨by simp, id, ver + 1, by omega, aS9, by simp, by simp, ?_, by simp, by simp⟩, hfold, by simp; omega, fun a b hab => ?_⟩
    ·rw [dF, if_pos rfl, q2]; simp [cell]
    ·rcases List.mem_append.1 hab with h | h
     ·exact hbd (a, b) h
     ·rw [List.mem_singleton] at h; rw [← h] at hsi; simp at hsi; omega
 ·have hi' : i = S.length := by omega
  subst hi'
  have gQ : ¬ (S.length : Int) < S.length := by omega
  simp at hout
  rw [← hout]
  simp [c130b12, c130r5, h12, h13, c130r12, aC]
  rcases h3 with ⟨rfl, h3⟩ | ⟨_, id, ver, _, _, h3, q1, q2, q3, q4⟩
  ·simp [h3, spans]
  ·have e1 : (acc.map spr).length = acc.length := by simp
   rw [h3, ← e1]
   have q2' : st.heap.rows id = (acc.map spr).map (·.map .t) := by rw [q2, List.map_map]; rfl
   refine ⟨jD q1 q3 q2', ?_⟩
   simp only [lO q2', spans]
end Go.Proofs.YtdpbobkcbakpfaaGreatDoor

namespace Go.Proofs.YtdpbobkcbakpfaaGreatDoor
open Go Go.Ab
set_option maxRecDepth 100000
set_option maxHeartbeats 4000000
theorem aB8 (acc : List Sp) (s : Sp) : (cM acc s).length ≤ acc.length + 1 := by
 unfold cM
 split
 ·split
  ·first | (simp; done) | (simp; omega)
  ·simp
 ·simp
theorem aFS (l : List Sp) : (kY l).length ≤ l.length := by
 have : ∀ (l acc : List Sp), (l.foldl cM acc).length ≤ acc.length + l.length := by
  intro l
  induction l with
  | nil => intro acc; simp
  | cons x r ih =>
   intro acc
   have h1 := ih (cM acc x)
   have h2 := aB8 acc x
   rw [List.foldl_cons, List.length_cons]; omega
 have := this l []
 simpa [kY] using this
theorem nX (l : List Sp) : (cC l).length ≤ l.length := by
 have := aFS (qY l)
 rw [yU] at this
 exact this
theorem yV : ∀ (r : List Nd) (bg out : List Nat), eP r bg = some out → ∀ x ∈ r, x.ok = true
 | [], _, _, _, x, hx => by cases hx
 | y :: r, bg, out, h, x, hx => by
  rw [eP] at h
  split at h
  ·rename_i hy
   split at h
   ·cases h
   ·rcases List.mem_cons.1 hx with e | e
    ·rw [e]; exact hy
    ·exact yV r _ out h x e
  ·cases h
theorem aI9 {l : List Nd} (h : bE l = true) : ∀ x ∈ l, x.ok = true := by
 simp only [bE, Bool.and_eq_true, decide_eq_true_eq] at h
 obtain ⟨_, h⟩ := h
 split at h
 ·cases h
 ·rename_i bg hbg
  exact yV l [] bg hbg
theorem qZ (x y : Sp) : (meet x y).length ≤ 1 := by
 unfold meet; split <;> simp
theorem yW {x y : Sp} (h : y.2 < x.1 ∨ x.2 < y.1) : meet x y = [] := by
 unfold meet; rw [if_neg]; omega
theorem sA {α : Type} {f : α → List Sp} : ∀ {l : List α}, (∀ y ∈ l, f y = []) → l.flatMap f = []
 | [], _ => rfl
 | y :: r, h => by rw [List.flatMap_cons, h y (by simp), sA fun z hz => h z (by simp [hz])]; rfl
theorem yX (c : Int) : ∀ b : List Sp, Gap b → ∃ b1 b2, b = b1 ++ b2 ∧ (∀ y ∈ b1, y.2 ≤ c) ∧ (∀ y ∈ b2, c < y.2) ∧ Gap b2
 | [], _ => ⟨[], [], rfl, by simp, by simp, trivial⟩
 | y :: r, h => by
  by_cases hy : y.2 ≤ c
  ·obtain ⟨b1, b2, e, h1, h2, h3⟩ := yX c r h.tail
   exact ⟨y :: b1, b2, by rw [e]; rfl, fun z hz => by
    rcases List.mem_cons.1 hz with q | q
    ·rw [q]; exact hy
    ·exact h1 z q, h2, h3⟩
  ·refine ⟨[], y :: r, rfl, by simp, fun z hz => ?_, h⟩
   rcases List.mem_cons.1 hz with q | q
   ·rw [q]; omega
   ·have h1 := h.2.1 z q
    have h2 := h.valid z hz
    omega
theorem aDP {f : Sp → List Sp} (hf : ∀ y, (f y).length ≤ 1) : ∀ l : List Sp, (l.flatMap f).length ≤ l.length
 | [] => by simp
 | y :: r => by
  have := hf y
  have := aDP hf r
  rw [List.flatMap_cons, List.length_append, List.length_cons]; omega
theorem sB : ∀ (a b : List Sp), Gap a → Gap b → (cN a b).length ≤ a.length + b.length
 | [], b, _, _ => by simp [cN]
 | x :: a, b, ha, hb => by
  obtain ⟨b1, b2, e, h1, h2, h3⟩ := yX x.2 b hb
  have ih := sB a b2 ha.tail h3
  have e1 : cN (x :: a) b = b.flatMap (meet x) ++ cN a b := by simp [cN]
  have e2 : cN a b = cN a b2 := by
   have : ∀ a' : List Sp, (∀ z ∈ a', z ∈ a) → cN a' b = cN a' b2 := by
    intro a'
    induction a' with
    | nil => intro _; rfl
    | cons z r ih =>
     intro hz
     have hza := hz z (by simp)
     have q : b.flatMap (meet z) = b2.flatMap (meet z) := by
      rw [e, List.flatMap_append, sA (l := b1), List.nil_append]
      intro y hy
      have k1 := h1 y hy
      have k2 := ha.2.1 z hza
      exact yW (by omega)
     have ih' := ih fun w hw => hz w (by simp [hw])
     simp only [cN, List.flatMap_cons] at ih' ⊢
     rw [ih']
     congr 1
   exact this a fun z hz => hz
  have e3 : (b.flatMap (meet x)).length ≤ b1.length + 1 := by
   rw [e, List.flatMap_append, List.length_append]
   have k1 := aDP (qZ x) b1
   have k2 : (b2.flatMap (meet x)).length ≤ 1 := by
    cases b2 with
    | nil => simp
    | cons y r =>
     rw [List.flatMap_cons, sA (l := r), List.append_nil]
     ·exact qZ x y
     ·intro z hz
      have k3 := h3.2.1 z hz
      have k4 := h2 y (by simp)
      exact yW (by omega)
   omega
  have e4 : b.length = b1.length + b2.length := by rw [e]; simp
  rw [e1, List.length_append, e2, List.length_cons]
  omega
theorem aFT {x y z : Sp} (h : z ∈ meet x y) : z.1 ≤ z.2 := by
 unfold meet at h
 split at h
 ·rename_i hc
  have := List.mem_singleton.1 h
  subst this
  exact hc
 ·cases h
theorem aDQ {a b : List Sp} : ∀ z ∈ cN a b, z.1 ≤ z.2 := by
 intro z hz
 simp only [cN, List.mem_flatMap] at hz
 obtain ⟨x, _, y, _, h⟩ := hz
 exact aFT h
theorem rA (x : Sp) : bad x = false ↔ x.1 ≤ x.2 ∧ -1152921504606846976 ≤ x.1 ∧ x.2 ≤ 1152921504606846976 := by
 simp [bad, and_assoc]
theorem aKS {a b c : List Sp} (hc : Gap c) (h : ∀ n, inS c n = true → inS a n = true ∨ inS b n = true) (ha : ∀ x ∈ a, bad x = false) (hb : ∀ x ∈ b, bad x = false) : ∀ x ∈ c, bad x = false := by
 intro x hx
 have hv := hc.valid x hx
 have in1 : inS c x.1 = true := gM.2 ⟨x, hx, by omega, hv⟩
 have in2 : inS c x.2 = true := gM.2 ⟨x, hx, hv, by omega⟩
 have bnd : ∀ n, inS c n = true → -1152921504606846976 ≤ n ∧ n ≤ 1152921504606846976 := fun n hn => by
  rcases h n hn with q | q
  ·obtain ⟨y, hy, y1, y2⟩ := gM.1 q
   have := (rA y).1 (ha y hy)
   omega
  ·obtain ⟨y, hy, y1, y2⟩ := gM.1 q
   have := (rA y).1 (hb y hy)
   omega
 exact (rA x).2 ⟨hv, (bnd _ in1).1, (bnd _ in2).2⟩
def aV (x : Nd) (k : Nat) : Nat := (x.args.getD k 0).toNat
def spL (l : List Nd) : Nat → Nat → List Sp
 | 0, _ => []
 | n + 1, i => match l[i]? with
  | none => []
  | some x => if x.k == 0 then [(x.lo, x.hi)] else if x.k == 1 then cC ((chars x.s).map fun c => (c, c)) else if x.k == 2 then spL l n (aV x 0)
   else if x.args.length < 2 then spL l n (aV x 0) else if x.k == 5 then cC (cN (spL l n (aV x 0)) (spL l n (aV x 1)))
   else if x.k == 6 then cC (aZ (spL l n (aV x 0)) (spL l n (aV x 1))) else cC (spL l n (aV x 0) ++ spL l n (aV x 1))
def opN (k : Int) : Int := if k == 6 then 2 else if k == 5 then 1 else 0
def nuR (l : List Nd) : Nat → Nat → List Sp
 | 0, _ => []
 | n + 1, i => match l[i]? with
  | none => []
  | some x => if x.k == 0 then [(x.lo, x.hi)] else if x.k == 1 then (chars x.s).foldl (fun out c => gJ 0 out [(c, c)] [] (cB (out ++ [(c, c)]))) []
   else if x.args.length == 1 then nuR l n (aV x 0)
   else gJ (opN x.k) (nuR l n (aV x 0)) (nuR l n (aV x 1)) [] (cB (nuR l n (aV x 0) ++ nuR l n (aV x 1)))
def szR (l : List Nd) : Nat → Nat → List Sp
 | 0, _ => []
 | n + 1, i => match l[i]? with
  | none => []
  | some x => if x.k == 2 then nuR l n (aV x 0) else if x.args.length == 1 then szR l n (aV x 0)
   else gJ (opN x.k) (szR l n (aV x 0)) (szR l n (aV x 1)) [] (cB (szR l n (aV x 0) ++ szR l n (aV x 1)))
structure Both (bg : List Nat) (i : Nat) (a b : List Sp) : Prop where
 eq : a = b
 gap : Gap a
 good : ∀ x ∈ a, bad x = false
 few : 2 * a.length ≤ i - bg.getD i 0 + 2
theorem aGJ (op : Int) {a b : List Sp} (ga : Gap a) (gb : Gap b) (ha : ∀ x ∈ a, bad x = false) (hb : ∀ x ∈ b, bad x = false) (c : List Sp) (hc : c = cC (if op = 1 then cN a b else if op = 2 then aZ a b else a ++ b)) (ho : op = 0 ∨ op = 1 ∨ op = 2) :
  c = gJ op a b [] (cB (a ++ b)) ∧ Gap c ∧ (∀ x ∈ c, bad x = false) ∧ c.length ≤ a.length + b.length := by
 have va := ga.valid
 have vb := gb.valid
 obtain ⟨q1, q2⟩ := aI6 op a b
 have w := hZ (b := b) (a := a) ga.asc vb
 have key : Gap c ∧ (∀ n, inS c n = fT op (inS a n) (inS b n)) ∧ c.length ≤ a.length + b.length := by
  rcases ho with rfl | rfl | rfl
  ·have n1 := nW (l := a ++ b) fun x hx => by
    rcases List.mem_append.1 hx with h | h
    ·exact va x h
    ·exact vb x h
   have n2 := nX (a ++ b)
   simp only [show ¬ (0 : Int) = 1 by decide, show ¬ (0 : Int) = 2 by decide, if_false] at hc
   subst hc
   refine ⟨n1.1, fun n => by rw [n1.2, fM]; simp [fT], by rw [List.length_append] at n2; exact n2⟩
  ·have n1 := nW (l := cN a b) aDQ
   have n2 := nX (cN a b)
   have n3 := sB a b ga gb
   simp only [if_true] at hc
   subst hc
   exact ⟨n1.1, fun n => by rw [n1.2, aDM]; simp [fT], by omega⟩
  ·have n1 := nW (l := aZ a b) w.1.valid
   have n2 := nX (aZ a b)
   simp only [show ¬ (2 : Int) = 1 by decide, if_true, if_false] at hc
   subst hc
   exact ⟨n1.1, fun n => by rw [n1.2, tE va vb]; simp [fT], by have := w.2.1; omega⟩
 obtain ⟨k1, k2, k3⟩ := key
 refine ⟨vR k1 q1 fun n => by rw [k2, q2], k1, aKS (a := a) (b := b) k1 (fun n hn => ?_) ha hb, k3⟩
 rw [k2] at hn
 revert hn
 rcases ho with rfl | rfl | rfl <;> cases inS a n <;> cases inS b n <;> simp [fT]
theorem eA {bg : List Nat} {i : Nat} {x : Nd} (N : yI bg i x.args) {k : Nat} (h : k < x.args.length) : (aV x k : Int) ∈ x.args ∧ aV x k < i ∧ bg.getD i 0 ≤ bg.getD (aV x k) 0 := by
 have hm : x.args[k]'h ∈ x.args := List.getElem_mem h
 obtain ⟨c, c1, c2, c3⟩ := N.arg _ hm
 have e : aV x k = c := by
  simp only [aV, List.getD_eq_getElem?_getD, List.getElem?_eq_getElem h, Option.getD_some, c1]; simp
 rw [e, ← c1]
 exact ⟨hm, c2, c3⟩
theorem vW {bg : List Nat} {i : Nat} {x : Nd} (N : yI bg i x.args) (h : x.args.length = 2) : aV x 0 < bg.getD (aV x 1) 0 := by
 obtain ⟨a, b, e⟩ : ∃ a b, x.args = [a, b] := by
  match hx : x.args, h with
  | [a, b], _ => exact ⟨a, b, rfl⟩
 have hp := N.apart
 rw [e] at hp
 have := (List.pairwise_cons.1 hp).1 b (by simp)
 have e0 : aV x 0 = a.toNat := by simp [aV, e]
 have e1 : aV x 1 = b.toNat := by simp [aV, e]
 obtain ⟨c, c1, _, _⟩ := N.arg a (by rw [e]; simp)
 rw [e0, e1]
 omega
theorem yY (k : Int) : opN k = 0 ∨ opN k = 1 ∨ opN k = 2 := by
 unfold opN; split
 ·simp
 ·split <;> simp
theorem aDR {l : List Nd} {bg : List Nat} (T : iG l bg) (hok : ∀ x ∈ l, x.ok = true) (P : Nat → Prop)
  (hn : ∀ p x, l[p]? = some x → P p → x.k ≠ 1 ∧ x.k ≠ 2 ∧ x.k ≠ 3 ∧ (x.k = 0 → bad (x.lo, x.hi) = false)) (he : ∀ p x, l[p]? = some x → P p → ∀ c : Nat, (c : Int) ∈ x.args → P c) :
  ∀ n i, i < n → i < l.length → P i → Both bg i (spL l n i) (nuR l n i) := by
 intro n
 induction n with
 | zero => intro i hi; omega
 | succ n ih =>
  intro i hin hil hP
  have hx : l[i]? = some (l[i]'hil) := List.getElem?_eq_getElem _
  generalize l[i]'hil = x at hx
  have N := T.node i x hx
  obtain ⟨k1, k2, k3, k0⟩ := hn i x hx hP
  have hxok := hok x (List.mem_of_getElem? hx)
  simp only [Nd.ok, Bool.and_eq_true] at hxok
  have hr := hxok.1.1
  have hle := N.le
  by_cases q0 : x.k = 0
  ·have e1 : spL l (n + 1) i = [(x.lo, x.hi)] := by simp [spL, hx, q0]
   have e2 : nuR l (n + 1) i = [(x.lo, x.hi)] := by simp [nuR, hx, q0]
   have hb := (rA _).1 (k0 q0)
   rw [e1, e2]
   exact ⟨rfl, ⟨hb.1, by simp, trivial⟩, fun y hy => by rw [List.mem_singleton.1 hy]; exact k0 q0, by simp⟩
  ·have sub : ∀ k, k < x.args.length → Both bg (aV x k) (spL l n (aV x k)) (nuR l n (aV x k)) := fun k hk => by
    obtain ⟨m1, m2, m3⟩ := eA N hk
    exact ih _ (by omega) (by omega) (he i x hx hP _ m1)
   by_cases one : x.args.length = 1
   ·have e1 : spL l (n + 1) i = spL l n (aV x 0) := by simp [spL, hx, q0, k1, k2, one]
    have e2 : nuR l (n + 1) i = nuR l n (aV x 0) := by simp [nuR, hx, q0, k1, one]
    obtain ⟨m1, m2, m3⟩ := eA N (k := 0) (by omega)
    obtain ⟨b1, b2, b3, b4⟩ := sub 0 (by omega)
    rw [e1, e2]
    exact ⟨b1, b2, b3, by omega⟩
   ·have two : x.args.length = 2 := by
     unfold Nd.right at hr
     simp only [q0, k1, k2, k3, or_self, if_false] at hr
     split at hr
     ·simpa using hr
     ·split at hr
      ·have := of_decide_eq_true hr
       omega
      ·cases hr
    obtain ⟨m1, m2, m3⟩ := eA N (k := 0) (by omega)
    obtain ⟨p1, p2, p3⟩ := eA N (k := 1) (by omega)
    have ap := vW N two
    have le0 := (T.node (aV x 0) _ (List.getElem?_eq_getElem (show aV x 0 < l.length by omega))).le
    have le1 := (T.node (aV x 1) _ (List.getElem?_eq_getElem (show aV x 1 < l.length by omega))).le
    obtain ⟨a1, a2, a3, a4⟩ := sub 0 (by omega)
    obtain ⟨b1, b2, b3, b4⟩ := sub 1 (by omega)
    have e2 : nuR l (n + 1) i = gJ (opN x.k) (nuR l n (aV x 0)) (nuR l n (aV x 1)) [] (cB (nuR l n (aV x 0) ++ nuR l n (aV x 1))) := by
     simp [nuR, hx, q0, k1, one]
    rw [← a1, ← b1] at e2
    have e1 : spL l (n + 1) i = cC (if opN x.k = 1 then cN (spL l n (aV x 0)) (spL l n (aV x 1)) else if opN x.k = 2 then aZ (spL l n (aV x 0)) (spL l n (aV x 1)) else spL l n (aV x 0) ++ spL l n (aV x 1)) := by
     by_cases q5 : x.k = 5
     ·simp [spL, hx, q5, two, opN]
     ·by_cases q6 : x.k = 6
      ·simp [spL, hx, q6, two, opN]
      ·simp [spL, hx, q0, k1, k2, q5, q6, two, opN]
    obtain ⟨c1, c2, c3, c4⟩ := aGJ (opN x.k) a2 b2 a3 b3 _ e1 (yY _)
    exact ⟨c1.trans e2.symm, c2, c3, by omega⟩
theorem aIA {l : List Nd} {bg : List Nat} (T : iG l bg) (hok : ∀ x ∈ l, x.ok = true) (P Q : Nat → Prop)
  (hn : ∀ p x, l[p]? = some x → P p → x.k ≠ 1 ∧ x.k ≠ 2 ∧ x.k ≠ 3 ∧ (x.k = 0 → bad (x.lo, x.hi) = false)) (he : ∀ p x, l[p]? = some x → P p → ∀ c : Nat, (c : Int) ∈ x.args → P c)
  (hq : ∀ p x, l[p]? = some x → Q p → x.k ≠ 0 ∧ x.k ≠ 1 ∧ x.k ≠ 3) (hf : ∀ p x, l[p]? = some x → Q p → ∀ c : Nat, (c : Int) ∈ x.args → if x.k = 2 then P c else Q c) :
  ∀ n i, i < n → i < l.length → Q i → Both bg i (spL l n i) (szR l n i) := by
 intro n
 induction n with
 | zero => intro i hi; omega
 | succ n ih =>
  intro i hin hil hQ
  have hx : l[i]? = some (l[i]'hil) := List.getElem?_eq_getElem _
  generalize l[i]'hil = x at hx
  have N := T.node i x hx
  obtain ⟨k0, k1, k3⟩ := hq i x hx hQ
  have hxok := hok x (List.mem_of_getElem? hx)
  simp only [Nd.ok, Bool.and_eq_true] at hxok
  have hr := hxok.1.1
  have hle := N.le
  by_cases q2 : x.k = 2
  ·have one : x.args.length = 1 := by
    unfold Nd.right at hr
    simpa [q2] using hr
   have e1 : spL l (n + 1) i = spL l n (aV x 0) := by simp [spL, hx, q2]
   have e2 : szR l (n + 1) i = nuR l n (aV x 0) := by simp [szR, hx, q2]
   obtain ⟨m1, m2, m3⟩ := eA N (k := 0) (by omega)
   have hP := hf i x hx hQ _ m1
   rw [if_pos q2] at hP
   obtain ⟨b1, b2, b3, b4⟩ := aDR T hok P hn he n (aV x 0) (by omega) (by omega) hP
   rw [e1, e2]
   exact ⟨b1, b2, b3, by omega⟩
  ·have sub : ∀ k, k < x.args.length → Both bg (aV x k) (spL l n (aV x k)) (szR l n (aV x k)) := fun k hk => by
    obtain ⟨m1, m2, m3⟩ := eA N hk
    have := hf i x hx hQ _ m1
    rw [if_neg q2] at this
    exact ih _ (by omega) (by omega) this
   by_cases one : x.args.length = 1
   ·have e1 : spL l (n + 1) i = spL l n (aV x 0) := by simp [spL, hx, k0, k1, q2, one]
    have e2 : szR l (n + 1) i = szR l n (aV x 0) := by simp [szR, hx, q2, one]
    obtain ⟨m1, m2, m3⟩ := eA N (k := 0) (by omega)
    obtain ⟨b1, b2, b3, b4⟩ := sub 0 (by omega)
    rw [e1, e2]
    exact ⟨b1, b2, b3, by omega⟩
   ·have two : x.args.length = 2 := by
     unfold Nd.right at hr
     simp only [k0, k1, q2, k3, or_self, if_false] at hr
     split at hr
     ·simpa using hr
     ·split at hr
      ·have := of_decide_eq_true hr
       omega
      ·cases hr
    obtain ⟨m1, m2, m3⟩ := eA N (k := 0) (by omega)
    obtain ⟨p1, p2, p3⟩ := eA N (k := 1) (by omega)
    have ap := vW N two
    have le0 := (T.node (aV x 0) _ (List.getElem?_eq_getElem (show aV x 0 < l.length by omega))).le
    have le1 := (T.node (aV x 1) _ (List.getElem?_eq_getElem (show aV x 1 < l.length by omega))).le
    obtain ⟨a1, a2, a3, a4⟩ := sub 0 (by omega)
    obtain ⟨b1, b2, b3, b4⟩ := sub 1 (by omega)
    have e2 : szR l (n + 1) i = gJ (opN x.k) (szR l n (aV x 0)) (szR l n (aV x 1)) [] (cB (szR l n (aV x 0) ++ szR l n (aV x 1))) := by
     simp [szR, hx, q2, one]
    rw [← a1, ← b1] at e2
    have e1 : spL l (n + 1) i = cC (if opN x.k = 1 then cN (spL l n (aV x 0)) (spL l n (aV x 1)) else if opN x.k = 2 then aZ (spL l n (aV x 0)) (spL l n (aV x 1)) else spL l n (aV x 0) ++ spL l n (aV x 1)) := by
     by_cases q5 : x.k = 5
     ·simp [spL, hx, q5, two, opN]
     ·by_cases q6 : x.k = 6
      ·simp [spL, hx, q6, two, opN]
      ·simp [spL, hx, k0, k1, q2, q5, q6, two, opN]
    obtain ⟨c1, c2, c3, c4⟩ := aGJ (opN x.k) a2 b2 a3 b3 _ e1 (yY _)
    exact ⟨c1.trans e2.symm, c2, c3, by omega⟩
end Go.Proofs.YtdpbobkcbakpfaaGreatDoor

namespace Go.Proofs.YtdpbobkcbakpfaaGreatDoor
open Go Go.Ab
set_option maxRecDepth 100000
set_option maxHeartbeats 4000000
theorem rB : ∀ {l : List Int}, (cK l).2 = 0 → ∀ e ∈ l, e = 0
 | [], _, e, he => by cases he
 | x :: r, h, e, he => by
  by_cases hx : x = 0
  ·simp only [cK, hx, beq_self_eq_true, if_true] at h
   rcases List.mem_cons.1 he with q | q
   ·rw [q]; exact hx
   ·exact rB h e q
  ·simp [cK, hx] at h
theorem tF {t : Ty} {x : Nd} {r : Bool} {a : Int} (h : nR t x r a = 0) : dZ t.kind x.k a = true ∧ (x.k = 0 → nQ x (jC t.kind a) = true) := by
 simp only [nR] at h
 cases hs : dZ t.kind x.k a
 ·rw [hs] at h
  simp only [bV, eQ] at h
  by_cases q : (x.k != 7 || r) = true
  ·simp [q] at h
  ·simp [q] at h
 ·refine ⟨rfl, fun k0 => ?_⟩
  rw [hs] at h
  cases hb : nQ x (jC t.kind a)
  ·simp [bV, eQ, k0, hb] at h
  ·rfl
theorem aDS {x : Nd} {k a : Int} (h : nQ x (jC k a) = true) (ha : a = 0 ∨ a = 3) : bad (x.lo, x.hi) = false := by
 rw [rA]
 simp only [nQ, Bool.and_eq_true, decide_eq_true_eq] at h
 obtain ⟨⟨h1, h2⟩, h3⟩ := h
 rcases ha with rfl | rfl
 ·simp only [jC, show ((0 : Int) == 3) = false by decide, show ((0 : Int) == 4) = false by decide, Bool.false_eq_true, if_false] at h2 h3
  exact ⟨h1, h2, h3⟩
 ·have e : jC k 3 = (0, jH k) := rfl
  rw [e] at h2 h3
  have m : jH k ≤ 200 := by unfold jH; split <;> omega
  exact ⟨h1, by omega, by omega⟩
theorem aKT {t : Ty} (h : (kX t).2 = 0) : t.check = 0 ∧ (aB0 t).2 = 0 := by
 simp only [kX] at h
 by_cases q : t.check = 0
 ·simp only [q, bne_self_eq_false, Bool.false_eq_true, if_false] at h
  exact ⟨q, h⟩
 ·have : (t.check != 0) = true := by simpa using q
  rw [if_pos this] at h
  exact absurd h q
theorem aDT {t : Ty} (h : (kX t).2 = 0) (hl : t.limits.length ≠ 0) : bE t.limits = true ∧ ∃ L : Nat → Int, L (t.limits.length - 1) = eC t.kind ∧ Lab t.limits gX L (t.limits.length - 1) 0 ∧ ∀ p x, t.limits[p]? = some x → ∃ r, nR t x r (L p) = 0 := by
 obtain ⟨h1, h2⟩ := aKT h
 have ht := iR t h1
 obtain ⟨hlen, bg, T⟩ := cZ ht
 have h3 : (cK (lL t (lk (cL t)))).2 = 0 := by
  simp only [aB0] at h2
  have e : (t.limits.length == 0) = false := by simpa using hl
  rw [e] at h2
  simp only [Bool.false_eq_true, if_false] at h2
  split at h2
  ·cases h2
  ·exact h2
 obtain ⟨_, p2, p3⟩ := sY (f := gX) T t.limits.length (t.limits.length - 1) (eC t.kind) (List.replicate t.limits.length 0) (by omega) (by omega) (by simp)
 rw [T.root] at p3
 refine ⟨ht, lk (cL t), p2, p3, fun p x hx => ⟨p + 1 == t.limits.length, ?_⟩⟩
 have hp := (List.getElem?_eq_some_iff.1 hx).1
 have he : (lL t (lk (cL t)))[p]? = some (nR t x (p + 1 == t.limits.length) (lk (cL t) p)) := by
  simp [lL, List.getElem?_mapIdx, hx]
 exact rB h3 _ (List.mem_of_getElem? he)
theorem aFU {t : Ty} (h : (kX t).2 = 0) (hl : t.limits.length ≠ 0) (hk : t.kind = 2 ∨ t.kind = 11 ∨ t.kind = 12) : ∃ bg, ∃ P Q : Nat → Prop, iG t.limits bg ∧ t.limits.length ≤ 20 ∧ (∀ x ∈ t.limits, x.ok = true) ∧
  (∀ p x, t.limits[p]? = some x → P p → x.k ≠ 1 ∧ x.k ≠ 2 ∧ x.k ≠ 3 ∧ (x.k = 0 → bad (x.lo, x.hi) = false)) ∧ (∀ p x, t.limits[p]? = some x → P p → ∀ c : Nat, (c : Int) ∈ x.args → P c) ∧
  (∀ p x, t.limits[p]? = some x → Q p → x.k ≠ 0 ∧ x.k ≠ 1 ∧ x.k ≠ 3) ∧ (∀ p x, t.limits[p]? = some x → Q p → ∀ c : Nat, (c : Int) ∈ x.args → if x.k = 2 then P c else Q c) ∧
  (t.kind = 2 → P (t.limits.length - 1)) ∧ (t.kind ≠ 2 → Q (t.limits.length - 1)) := by
 obtain ⟨ht, L, h1, h2, h3⟩ := aDT h hl
 obtain ⟨hlen, bg, T⟩ := cZ ht
 have hn : ∀ p x, t.limits[p]? = some x → (L p = 0 ∨ L p = 3) → x.k ≠ 1 ∧ x.k ≠ 2 ∧ x.k ≠ 3 ∧ (x.k = 0 → bad (x.lo, x.hi) = false) := fun p x hx ha => by
  obtain ⟨r, hr⟩ := h3 p x hx
  obtain ⟨s1, s2⟩ := tF hr
  refine ⟨fun e => ?_, fun e => ?_, fun e => ?_, fun e => aDS (s2 e) ha⟩
  all_goals
   rw [e] at s1
   rcases ha with q | q <;> rw [q] at s1 <;> simp [dZ] at s1
 have hq : ∀ p x, t.limits[p]? = some x → L p = 2 → x.k ≠ 0 ∧ x.k ≠ 1 ∧ x.k ≠ 3 := fun p x hx ha => by
  obtain ⟨r, hr⟩ := h3 p x hx
  obtain ⟨s1, _⟩ := tF hr
  refine ⟨fun e => ?_, fun e => ?_, fun e => ?_⟩
  all_goals
   rw [e, ha] at s1
   simp [dZ] at s1
 refine ⟨bg, fun p => L p = 0 ∨ L p = 3, fun p => L p = 2, T, hlen, aI9 ht, hn, fun p x hx ha c hc => ?_, hq, fun p x hx ha c hc => ?_, fun hk2 => ?_, fun hk2 => ?_⟩
 ·have hp := (List.getElem?_eq_some_iff.1 hx).1
  obtain ⟨_, k2, k3, _⟩ := hn p x hx ha
  show L c = 0 ∨ L c = 3
  rw [h2.edge p x (Nat.zero_le _) (by omega) hx c hc]
  simpa [gX, k2, k3] using ha
 ·have hp := (List.getElem?_eq_some_iff.1 hx).1
  obtain ⟨_, _, k3⟩ := hq p x hx ha
  have e := h2.edge p x (Nat.zero_le _) (by omega) hx c hc
  by_cases k2 : x.k = 2
  ·rw [if_pos k2]; right; rw [e]; simp [gX, k2]
  ·rw [if_neg k2]
   show L c = 2
   rw [e]; simpa [gX, k2, k3] using ha
 ·left; rw [h1, hk2]; rfl
 ·show L (t.limits.length - 1) = 2
  rw [h1]
  rcases hk with q | q | q
  ·exact absurd q hk2
  ·rw [q]; rfl
  ·rw [q]; rfl
end Go.Proofs.YtdpbobkcbakpfaaGreatDoor

namespace Go.Proofs.YtdpbobkcbakpfaaGreatDoor
open Go Go.Ab
set_option maxRecDepth 100000
theorem rZ.more {d : D} {h : Hp} {nx nx' did did' : Nat} {acc : List Sp} (ho : rZ d h nx acc did) (hn : nx ≤ nx') (hd : nx ≤ did' ∨ did' = did) : rZ d h nx' acc did' := by
 rcases ho with ho | ⟨h1, id, ver, h2, h3, h4⟩
 ·exact .inl ho
 ·exact .inr ⟨h1, id, ver, by omega, by omega, h4⟩
theorem rZ.set {d : D} {h : Hp} {nx did j : Nat} {o : O} {acc : List Sp} (ho : rZ d h nx acc did) (hj : nx ≤ j) : rZ d (h.set j o) nx acc did := by
 rcases ho with ho | ⟨h1, id, ver, h2, h3, h4, h5, h6, h7, h8⟩
 ·exact .inl ho
 ·have hne : id ≠ j := by omega
  refine .inr ⟨h1, id, ver, h2, h3, h4, ?_, ?_, ?_, ?_⟩
  ·unfold Ab.alive Hp.set at *; rw [if_neg hne]; exact h5
  ·unfold Hp.rows Hp.set at *; rw [if_neg hne]; exact h6
  ·unfold Hp.sz Hp.set at *; rw [if_neg hne]; exact h7
  ·unfold Hp.shut Hp.set at *; rw [if_neg hne]; exact h8
def BIn (x : Sp) (b : List Sp) (bx : Nat) (wX : List Sp) (st : St) (k : Nat) (st1 : St) : Prop :=
 ∃ (j : Nat) (acc : List Sp), k = b.length - j ∧ j ≤ b.length ∧ acc = wX ++ (b.take j).flatMap (meet x) ∧ acc.length ≤ wX.length + j ∧ st1.tmps 7 = st.tmps 7 ∧ Data st1.heap bx 0 #[x] ∧ st.nx ≤ st1.nx ∧ st1.tmps 18 = st.tmps 18 ∧ st1.tmps 19 = st.tmps 19 ∧ st1.tmps 20 = .one (.t (I j)) ∧
  rZ (st1.tmps 5) st1.heap st1.nx acc bx ∧ st1.tmps 0 = st.tmps 0 ∧ st1.tmps 1 = st.tmps 1 ∧ st1.tmps 12 = st.tmps 12 ∧ st1.tmps 13 = st.tmps 13 ∧ st1.tmps 14 = st.tmps 14
theorem take_one {b : List Sp} {j : Nat} (h : j < b.length) : b.take (j + 1) = b.take j ++ [b[j]] := by rw [List.take_add_one, List.getElem?_eq_getElem h]; rfl
theorem aIB {n : Nat} {A : Exit → St → Prop} {ks : List KF} (x : Sp) (b : List Sp) (bx : Nat) (wX : List Sp) (hlen : wX.length + b.length ≤ 100000) (st : St) (h7 : st.tmps 7 = .one (.ptr ⟨bx, 0, 2, 0, 0⟩)) (hx : Data st.heap bx 0 #[x]) (hbx : bx < st.nx)
  (h18 : st.tmps 18 = .one (.t (spans b))) (h19 : st.tmps 19 = .one (.t (I b.length))) (h20 : st.tmps 20 = .one (.t (I 0))) (h5 : rZ (st.tmps 5) st.heap st.nx wX bx)
  (K : ∀ st' : St, rZ (st'.tmps 5) st'.heap st'.nx (wX ++ b.flatMap (meet x)) bx → st.nx ≤ st'.nx → st'.tmps 0 = st.tmps 0 → st'.tmps 1 = st.tmps 1 → st'.tmps 12 = st.tmps 12 → st'.tmps 13 = st.tmps 13 → st'.tmps 14 = st.tmps 14 → cO Tryz.prog n A ks .normal st') :
  W Tryz.prog n (.loop c132b12) (kont Tryz.prog n A (.blk 2 :: ks)) st := by
 refine W.fJ (fun k st1 => BIn x b bx wX st k st1) b.length
  ⟨0, wX, by simp, by simp, by simp, by simp, rfl, hx, Nat.le_refl _, rfl, rfl, h20, h5, rfl, rfl, rfl, rfl, rfl⟩ ?_
 rintro k st1 ⟨j, acc, hk, hj, hacc, hal, e7, hd, hnx, e18, e19, e20, e5, e0, e1, e12, e13, e14⟩
 rw [h7] at e7; rw [h18] at e18; rw [h19] at e19
 rcases Nat.lt_or_ge j b.length with hlt | hge
 ·have gQ : (j : Int) < b.length := by omega
  have hw : IntKind.i64.wrap ((j : Int) + 1) = ((j + 1 : Nat) : Int) := bZ _ (by omega) (by omega)
  have hr : st1.heap.rows bx = [cell x] := by rw [hd.rows]; rfl
  have hn1 : ¬ bx = st1.nx + 1 + 2 := by omega
  have hn1' : ¬ st1.nx + 1 + 2 = bx := by omega
  obtain ⟨y, hy⟩ : ∃ y, y = b[j] := ⟨_, rfl⟩
  have htake : wX ++ (b.take (j + 1)).flatMap (meet x) = acc ++ meet x y := by
   rw [hacc, take_one hlt, List.flatMap_append, hy]
   simp
  have hmax : max x.1 y.1 = if x.1 < y.1 then y.1 else x.1 := by rw [Int.max_def]; split <;> split <;> omega
  have hmin : min x.2 y.2 = if y.2 < x.2 then y.2 else x.2 := by rw [Int.min_def]; split <;> split <;> omega
  simp [c132b12, c132r6, c132r7, c132r8, c132r9, e18, e19, e20, spans, hlt, gQ, spr, e7, hd.alive, hd.sz, hr, hn1, cell, ← hy]
  rw [← hmax, ← hmin]
  have hml : (meet x y).length ≤ 1 := by unfold meet; split <;> simp
  have aKU : ∀ st' : St, st'.tmps 7 = .one (.ptr ⟨bx, 0, 2, 0, 0⟩) → Data st'.heap bx 0 #[x] → st1.nx ≤ st'.nx → st'.tmps 18 = st1.tmps 18 → st'.tmps 19 = st1.tmps 19 → st'.tmps 20 = .one (.t (I ((j + 1 : Nat) : Int))) → rZ (st'.tmps 5) st'.heap st'.nx (acc ++ meet x y) bx →
    st'.tmps 0 = st1.tmps 0 → st'.tmps 1 = st1.tmps 1 → st'.tmps 12 = st1.tmps 12 → st'.tmps 13 = st1.tmps 13 → st'.tmps 14 = st1.tmps 14 → ∃ k', k' < k ∧ BIn x b bx wX st k' st' := by
   intro st' u7 ud un u18 u19 u20 u5 u0 u1 u12 u13 u14
   refine ⟨b.length - (j + 1), by omega, j + 1, _, rfl, by omega, htake.symm, by simp; omega, by rw [u7, h7], ud, by omega, by rw [u18, e18, h18], by rw [u19, e19, h19], u20, u5, by rw [u0, e0], by rw [u1, e1], by rw [u12, e12], by rw [u13, e13], by rw [u14, e14]⟩
  have hmt : meet x y = if max x.1 y.1 ≤ min x.2 y.2 then [(max x.1 y.1, min x.2 y.2)] else [] := rfl
  generalize max x.1 y.1 = lo at *
  generalize min x.2 y.2 = hiV at *
  have hd' : ∀ o : O, ∀ o' : O, Data ((st1.heap.set (st1.nx + 1 + 2) o).set (st1.nx + 1 + 2) o') bx 0 #[x] := fun o o' => (hd.set (by omega)).set (by omega)
  constructor
  ·intro hle
   rw [if_pos hle] at hmt
   rw [hmt] at aKU
   rcases e5 with ⟨rfl, e5⟩ | ⟨hne, id, ver, h2, h3, h4, h5', h6, h7', h8⟩
   ·simp [c132r10, c132r11, e5, hw, e20]
    refine aKU _ (by simp [e7]) ((hd' _ _).set (by omega)) (by simp; omega) (by simp) (by simp) (by simp) (.inr ⟨by simp, _, 0, ?_, ?_, by simp; rfl, by simp, ?_, by simp, by simp⟩) (by simp) (by simp) (by simp) (by simp) (by simp)
    ·simp <;> omega
    ·omega
    ·rw [dF, if_pos rfl]; rfl
   ·have aDO : ¬ id = st1.nx + 1 + 2 := by omega
    have aB7 : (st1.heap.rows id).length = acc.length := by rw [h6]; simp
    simp [c132r10, c132r11, h4, hw, e20, h5', h7', aB7, aDO]
    refine ⟨by omega, aKU _ (by simp [e7]) ((hd' _ _).set (by omega)) (by simp; omega) (by simp) (by simp) (by simp) (.inr ⟨by simp, id, ver + 1, by simp; omega, by omega, by simp, by simp, ?_, by simp, by simp [h8]⟩) (by simp) (by simp) (by simp) (by simp) (by simp)⟩
    rw [dF, if_pos rfl, h6]; simp [cell]
  ·intro hgt
   rw [if_neg (by omega)] at hmt
   rw [hmt] at aKU
   simp [c132r11, hw, e20]
   exact aKU _ (by simp [e7]) (hd' _ _) (by simp; omega) (by simp) (by simp) (by simp) (by simpa using ((e5.set (by omega)).set (by omega)).more (by omega) (.inr rfl)) (by simp) (by simp) (by simp) (by simp) (by simp)
 ·have hj' : j = b.length := by omega
  subst hj'
  have gQ : ¬ (b.length : Int) < b.length := by omega
  simp at hacc
  simp [c132b12, c132r6, e19, e20]
  exact K _ (by rw [← hacc]; exact e5.more (by simp) (.inr rfl)) (by simp; omega) (by simp [e0]) (by simp [e1]) (by simp [e12]) (by simp [e13]) (by simp [e14])
def aVP (a b : List Sp) (k : Nat) (st1 : St) : Prop :=
 ∃ (i : Nat), k = a.length - i ∧ i ≤ a.length ∧ st1.tmps 0 = .one (.t (spans a)) ∧ st1.tmps 1 = .one (.t (spans b)) ∧ st1.tmps 12 = .one (.t (spans a)) ∧ st1.tmps 13 = .one (.t (I a.length)) ∧ st1.tmps 14 = .one (.t (I i)) ∧
  rZ (st1.tmps 5) st1.heap st1.nx (cN (a.take i) b) st1.nx
theorem yZ (x : Sp) : ∀ b : List Sp, (b.flatMap (meet x)).length ≤ b.length
 | [] => by simp
 | y :: b => by
  have h1 := yZ x b
  have h2 := qZ x y
  rw [List.flatMap_cons, List.length_append, List.length_cons]; omega
theorem zD (b : List Sp) : ∀ a : List Sp, (cN a b).length ≤ a.length * b.length
 | [] => by simp [cN]
 | x :: a => by
  have h1 := zD b a
  have h2 : (b.flatMap fun y => meet x y).length ≤ b.length := yZ x b
  unfold cN at *
  rw [List.flatMap_cons, List.length_append, List.length_cons, Nat.add_mul]
  simp only [Nat.one_mul] at *
  omega
theorem aKV {a b : List Sp} (ha : ∀ x ∈ a, bad x = false) (hb : ∀ x ∈ b, bad x = false) : ∀ z ∈ cN a b, bad z = false := by
 intro z hz
 obtain ⟨x, hx, hz⟩ := List.mem_flatMap.1 hz
 obtain ⟨y, hy, hz⟩ := List.mem_flatMap.1 hz
 have h1 := ha x hx
 have h2 := hb y hy
 unfold meet at hz
 split at hz
 ·rename_i h
  simp at hz
  subst hz
  simp [bad] at h1 h2 ⊢
  omega
 ·cases hz
theorem aSA (a b : List Sp) (hs : (cN a b).length ≤ 12) (ha : a.length ≤ 300) (hb : b.length ≤ 300) (hoa : ∀ x ∈ a, bad x = false) (hob : ∀ x ∈ b, bad x = false) : PSp Tryz.prog 132 [.one (.t (spans a)), .one (.t (spans b))] (.one (.t (spans (cC (cN a b))))) := by
 refine k132.aG (by simp) rfl rfl ?_
 simp [c132, c132r0, c132r1, c132r2, spans]
 have hbl : ∀ i, i ≤ a.length → (cN (a.take i) b).length + b.length ≤ 100000 := fun i hi => by
  have h1 := zD b (a.take i)
  have h2 : (a.take i).length * b.length ≤ 300 * 300 := Nat.mul_le_mul (by rw [List.length_take]; omega) hb
  omega
 refine W.fJ (fun k st => aVP a b k st) a.length ⟨0, by simp, by simp, by simp [spans], by simp [spans], by simp [spans], by simp, by simp, .inl ⟨by simp [cN], by simp⟩⟩ ?_
 rintro k st ⟨i, hk, hi, h0, h1, h12, h13, h14, h5⟩
 rcases Nat.lt_or_ge i a.length with hlt | hge
 ·have gQ : (i : Int) < a.length := by omega
  have hw : IntKind.i64.wrap ((i : Int) + 1) = ((i + 1 : Nat) : Int) := bZ _ (by omega) (by omega)
  obtain ⟨x, hx⟩ : ∃ x, x = a[i] := ⟨_, rfl⟩
  simp [c132b14, c132r3, c132r4, c132r5, h1, h12, h13, h14, hlt, gQ, spans, spr, ← hx]
  refine aIB x b (st.nx + 1 + 2) (cN (a.take i) b) (hbl i hi) _ (by simp) ⟨by simp, ?_, by simp, by simp⟩ (by simp <;> omega) (by simp [spans]) (by simp) (by simp) (by simpa using ((h5.set (by omega)).set (by omega)).more (by omega) (.inl (by omega))) fun st' u5 un u0 u1 u12 u13 u14 => ?_
  ·rw [dF, if_pos rfl]; simp [cell]
  simp [h0, h1, h12, h13, h14] at u0 u1 u12 u13 u14
  simp [c132r12, u14, hw]
  refine ⟨a.length - (i + 1), by omega, i + 1, rfl, by omega, by simp [u0], by simp [u1], by simp [u12], by simp [u13], by simp, ?_⟩
  have e : cN (a.take (i + 1)) b = cN (a.take i) b ++ b.flatMap (meet x) := by
   rw [take_one hlt]; unfold cN; rw [List.flatMap_append, hx]; simp
  rw [e]
  simpa using u5.more (by simp) (.inl (by simp))
 ·have hi' : i = a.length := by omega
  subst hi'
  have gQ : ¬ (a.length : Int) < a.length := by omega
  simp at h5
  have hN := aB6 (cN a b) hs (aKV hoa hob)
  simp [c132b14, c132r3, h13, h14, c132r13]
  rcases h5 with ⟨e, h5⟩ | ⟨_, id, ver, _, _, h5, q1, q2, q3, q4⟩
  ·rw [e] at hN ⊢
   rw [h5]
   refine aD.pure hN (by simp) (by simp [spans]) ?_
   simp [aC, spans]
  ·have e1 : ((cN a b).map spr).length = (cN a b).length := by simp
   rw [h5, ← e1]
   have q2' : st.heap.rows id = ((cN a b).map spr).map (·.map .t) := by rw [q2, List.map_map]; rfl
   refine aD.pure hN (by simpa using jD q1 q3 q2') (by simp only [List.map_cons, List.map_nil, D.frz, lO q2', spans]) ?_
   simp [aC, spans]
end Go.Proofs.YtdpbobkcbakpfaaGreatDoor

