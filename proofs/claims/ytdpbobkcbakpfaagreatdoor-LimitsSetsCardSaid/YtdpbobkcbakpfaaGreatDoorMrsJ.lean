/- For every type the law LimitsSets answers true and leaves its argument as it was (the row lists two tables of package utf8; the card ties them). -/
import Derived.Test.YtdpbobkcbakpfaaGreatDoorMrsI
namespace Go.Proofs.YtdpbobkcbakpfaaGreatDoor
open Go Go.Ab Go.ChangeShapes Go.WideShapes Go.ChangeAt Go.RowKit
set_option maxRecDepth 100000
namespace lawSets
theorem aPD : (Tryz.f5.params.toList.all fun t => Tryz.prog.readableRec t && decide (t < Tryz.prog.types.size)) = true := by kernel_rfl
theorem shapes (tss : List (List T)) (h : qU Tryz.prog Tryz.f5.params.toList tss) : PSp Tryz.prog 5 (mU Tryz.prog Tryz.f5.params.toList tss) (.one (.t (.bool true))) := by
 rw [Tryz.params5] at h ⊢
 match tss, h with
 | [x], h =>
  obtain ⟨h1, _⟩ := h
  obtain ⟨t, rfl, ht⟩ := aKM h1
  have e : mU Tryz.prog [28] [t.row] = [.agg (tyC t)] := by
   simp [mU, aMR, Tryz.underlying28, aMW]
  show PSp Tryz.prog 5 (mU Tryz.prog [28] [t.row]) _
  rw [e]
  exact P5 aO8 t ht
theorem contract (H : Type) (enc : TypeId × Value → H) (W : World) (base : Nat) (args : Array Value) (ds gs : List (DataW H)) (before : List MemPlace)
  (hval : ∀ (j : Nat) t v, Tryz.f5.params[j]? = some t → args[j]? = some v → Value.okWide Tryz.prog W .any base t v)
  (hW : DataW.Whole enc Tryz.prog Tryz.f5.params.toList Rows.limitsSetsSpec.vars false W args.toList ds gs before) (hsh : W.ShapedOpen Tryz.prog) :
  Calls Tryz.prog 5 args W fun e W' => ∃ v, e = .returned v ∧ Rows.limitsSetsSpec.post enc Tryz.prog Tryz.f5 false true false false W args v W' :=
 aB2 (l := aGG) trees (by kernel_rfl) laidOut aPD shapes rfl Tryz.underlying4 rfl (fun H ds hl => by
  match ds, hl with
  | [d1], _ => rfl) W base args ds gs before hval hW (aI1 hsh)
noncomputable def world (os : Os) : World := World.laidAll Tryz.prog os Rows.limitsSetsRow.laid
def rD : Array Value := #[type0]
theorem aKX (os : Os) : laidMetH Tryz.prog Rows.limitsSetsRow.laid ((world os).forCall (fun _ _ => 0) ⟨#[], rD, []⟩).memory := by
 rw [MakeChecks.laidMetH_plain _ _ _ (by kernel_rfl)]
 exact laidMet_laidAll _ (by kernel_rfl) (by kernel_rfl)
theorem reads (os : Os) {H : Type} (enc : TypeId × Value → H) : DataW.whole enc Tryz.prog ((world os).forCall (fun _ _ => 0) ⟨#[], rD, []⟩).memory Tryz.f5.params.toList (OpenSpec.ofChange Rows.limitsSetsSpec).vars false rD.toList 8 = some ([.agg [.lit (.int .i64 0), .lit (.string []), .nil, .nil, .lit (.bool false), .lit (.int .i64 0), .nil, .nil]], [], []) := by kernel_rfl
theorem aKY (os : Os) : ((world os).forCall (fun _ _ => 0) ⟨#[], rD, []⟩).Shaped Tryz.prog := World.shaped_of_ZipB (by kernel_rfl) (by kernel_rfl)
theorem pre (os : Os) (H : Type) (enc : TypeId × Value → H) : (OpenSpec.ofChange Rows.limitsSetsSpec).preRow enc Tryz.prog Tryz.f5 Rows.limitsSetsRow.domain false Rows.limitsSetsRow.laid ((world os).forCall (fun _ _ => 0) ⟨#[], rD, []⟩).memory rD :=
 OpenSpec.preRow_of_cond 8 (reads os enc) (by kernel_rfl) (fun k hk => by cases hk) (by kernel_rfl) (aKX os)
theorem aVT (os : Os) : Input.okWideB Tryz.prog ((world os).forCall (fun _ _ => 0) ⟨#[], rD, []⟩) 5 ⟨#[], rD, []⟩ = true := by kernel_rfl
theorem lifted (os : Os) (started : os.Started) (H : Type) (enc : TypeId × Value → H) (F : Stop.Interp) :
  ReturnsInHanded {} Tryz.checked os 5 .any ((OpenSpec.ofChange Rows.limitsSetsSpec).preRow enc Tryz.prog Tryz.f5 Rows.limitsSetsRow.domain false Rows.limitsSetsRow.laid) (((OpenSpec.ofChange Rows.limitsSetsSpec).at F).post enc Tryz.prog Tryz.f5 false true false false) := by
 refine returnsInHanded_of_row (C := Tryz.checked) (s := OpenSpec.ofChange Rows.limitsSetsSpec) own started (by kernel_rfl) Tryz.func5
  ⟨world os, fun _ _ => 0, ⟨#[], rD, []⟩, World.laidAll_os _ _ _, aKY os, rfl, (Input.okWide_of_okWideB (aVT os)).2, pre os H enc, by
   simp only [Assume.holds]
   refine ⟨?_, ?_, ?_, ?_, ?_, ?_⟩ <;> first | (intro h; cases h; done) | (intro d h; cases h; done)⟩ ?_
 intro W base args ds gs before hval hW _ _ _ _ hsh _
 exact contract H enc W base args ds gs before hval hW hsh
theorem wf : Rows.limitsSetsRow.wf (OpenSpec.ofChange (OpenSpec.ofChange Rows.limitsSetsSpec).bare) = true := by kernel_rfl
theorem inPlace : (Rows.limitsSetsRow.inPlace == PG.inPlace 5) = true := by kernel_rfl
theorem unfollowed : (Rows.limitsSetsRow.unfollowed == PG.unfollowed 5) = true := by kernel_rfl
theorem recurses : (Rows.limitsSetsRow.recurses == PG.recurses 5) = true := by kernel_rfl
theorem named : (Rows.limitsSetsRow.named == PG.varsNamed 5) = true := by kernel_rfl
theorem aVU : namedTie PG Rows.limitsSetsRow.named (OpenSpec.ofChange Rows.limitsSetsSpec).bare.vars = true := by kernel_rfl
theorem closed : joinedFacts PG 5 Tryz.f5 (OpenSpec.ofChange Rows.limitsSetsSpec).bare Rows.limitsSetsRow = true := by
 unfold joinedFacts
 refine band (band (band (band (band (band (band (band (band (band (band (band (band (band (band (band (band (band (band (band (band (band (band (band (band (band (band (band (band (band (band wf aKN) aFL) ?_) aVU) ?_) aP2) ?_) aFM) inPlace) unfollowed) recurses) named) ?_) ?_) ?_) ?_) ?_) ?_) ?_) ?_) ?_) ?_) ?_) aP4) aI0) aP5) aS3) ?_) ?_) ?_) ?_
 all_goals kernel_rfl
theorem said : Rows.LimitsSetsSaid :=
 OpenClaim.holds_of_cond 5 Tryz.f5 rfl rfl rfl rfl rfl rfl rfl ⟨rfl, rfl, rfl, rfl, rfl⟩ rfl rfl rfl rfl rfl (by kernel_rfl) Tryz.func5 closed
  (of_decide_eq_true (by kernel_rfl)) (by unfold Func.isWrapper; first | (rw [if_pos (by decide +kernel)]; kernel_rfl) | (rw [if_neg (by decide +kernel)]; exact ⟨rfl, rfl⟩))
  (fun os started H enc _ F => by rw [OpenClaim.pre_eq_preRow]; exact lifted os started H enc F)
theorem plain (f : FuncId) (fn : Func) (hf : Tryz.pinned.checked.prog.funcNamed "examiner/examinerlaw04.LimitsSets" = some f) (hfn : Tryz.pinned.checked.prog.funcs[f]? = some fn) :
  false = Tryz.pinned.checked.prog.looks [] ∧ ∀ (j : Nat) t, fn.params[j]? = some t → Tryz.pinned.checked.prog.wantsStandIn t = false := by
 obtain rfl : f = 5 := Option.some.inj ((show Tryz.prog.funcNamed "examiner/examinerlaw04.LimitsSets" = some 5 by kernel_rfl).symm.trans hf) |>.symm
 obtain rfl : fn = Tryz.f5 := (Option.some.inj (Tryz.func5.symm.trans hfn)).symm
 refine ⟨by kernel_rfl, fun j t ht => ?_⟩
 rw [Tryz.params5] at ht
 have : t = 28 := by simpa using Array.mem_of_getElem? ht
 subst this
 exact (show Tryz.prog.wantsStandIn 28 = false by kernel_rfl)
theorem card : Rows.LimitsSetsCardSaid :=
 Claim7.holds_tied_plain_at .later [] _ _ _ _ said (fun _ h => by cases h) (by kernel_rfl) (fun _ h => by cases h) limitsSets_row_tie rfl ⟨rfl, rfl⟩ (by kernel_rfl) rfl plain (by kernel_rfl)
end lawSets
#print axioms lawSets.card
end Go.Proofs.YtdpbobkcbakpfaaGreatDoor

