/- For every input the law oW answers true and leaves its arguments as they were (the row lists two tables of package utf8; the card ties them). -/
import Derived.Test.YtdpbobkcbakpfaaGreatDoorMrpI
namespace Go.Proofs.YtdpbobkcbakpfaaGreatDoor
open Go Go.Ab Go.ChangeShapes Go.WideShapes Go.ChangeAt Go.RowKit
set_option maxRecDepth 100000
namespace lawPermits
theorem aNZ:(Tryz.f4.params.toList.all fun t=>Tryz.prog.readableRec t&&decide (t<Tryz.prog.types.size))=true:=by kernel_rfl
theorem shapes (tss:List (List T)) (h:qW Tryz.prog Tryz.f4.params.toList tss):PSp Tryz.prog 4 (mX Tryz.prog Tryz.f4.params.toList tss) (.one (.t (.bool true))):=by
 rw[Tryz.params4]at h ⊢
 match tss,h with
 | [x,y],h=>
  obtain⟨h1,h2,_⟩:=h
  obtain⟨t,rfl,ht⟩:=aIL h1
  obtain⟨v,rfl,hv⟩:=aIM h2
  have e:mX Tryz.prog [28,47] [t.row,v.row]=[.agg (tyC t),.agg (vlC v)]:=by
   simp[mX,aL5,Tryz.underlying28,aLA,Tryz.underlying47,aLB]
  show PSp Tryz.prog 4 (mX Tryz.prog [28,47] [t.row,v.row]) _
  rw[e]
  exact P4 t v ht hv
theorem contract (H:Type) (enc:TypeId×Value→H) (W:World) (base:Nat) (args:Array Value) (ds gs:List (DataW H)) (before:List MemPlace)
  (hval:∀ (j:Nat) t v,Tryz.f4.params[j]? =some t→args[j]? =some v→Value.okWide Tryz.prog W .any base t v)
  (hW:DataW.Whole enc Tryz.prog Tryz.f4.params.toList Rows.limitsPermitsSpec.vars false W args.toList ds gs before) (hsh:W.ShapedOpen Tryz.prog):
  Calls Tryz.prog 4 args W fun e W'=>∃ v,e= .returned v∧Rows.limitsPermitsSpec.post enc Tryz.prog Tryz.f4 false true false false W args v W':=
 aAD (l:=aEQ) trees (by kernel_rfl) laidOut aNZ shapes rfl Tryz.underlying4 rfl (fun H ds hl=>by
  match ds,hl with
  | [d1,d2],_=>rfl) W base args ds gs before hval hW (aG6 hsh)
noncomputable def world (os:Os):World:=World.laidAll Tryz.prog os Rows.limitsPermitsRow.laid
def aO0:Value:= .agg #[.int .i64 0,.int .i64 0,.int .i64 0,.string ⟨#[]⟩,.slice none 0 0,.slice none 0 0]
def rD:Array Value:= #[type0,aO0]
theorem aJC (os:Os):laidMetH Tryz.prog Rows.limitsPermitsRow.laid ((world os).forCall (fun _ _=>0) ⟨#[],rD,[]⟩).memory:=by
 rw[MakeChecks.laidMetH_plain _ _ _ (by kernel_rfl)]
 exact laidMet_laidAll _ (by kernel_rfl) (by kernel_rfl)
theorem reads (os:Os) {H:Type} (enc:TypeId×Value→H):DataW.whole enc Tryz.prog ((world os).forCall (fun _ _=>0) ⟨#[],rD,[]⟩).memory Tryz.f4.params.toList (OpenSpec.ofChange Rows.limitsPermitsSpec).vars false rD.toList 8=some ([.agg [.lit (.int .i64 0),.lit (.string []),.nil,.nil,.lit (.bool false),.lit (.int .i64 0),.nil,.nil],.agg [.lit (.int .i64 0),.lit (.int .i64 0),.lit (.int .i64 0),.lit (.string []),.nil,.nil]],[],[]):=by kernel_rfl
theorem aJD (os:Os):((world os).forCall (fun _ _=>0) ⟨#[],rD,[]⟩).Shaped Tryz.prog:=World.shaped_of_ZipB (by kernel_rfl) (by kernel_rfl)
theorem pre (os:Os) (H:Type) (enc:TypeId×Value→H):(OpenSpec.ofChange Rows.limitsPermitsSpec).preRow enc Tryz.prog Tryz.f4 Rows.limitsPermitsRow.domain false Rows.limitsPermitsRow.laid ((world os).forCall (fun _ _=>0) ⟨#[],rD,[]⟩).memory rD:=
 OpenSpec.preRow_of_cond 8 (reads os enc) (by kernel_rfl) (fun k hk=>by cases hk) (by kernel_rfl) (aJC os)
theorem aUF (os:Os):Input.okWideB Tryz.prog ((world os).forCall (fun _ _=>0) ⟨#[],rD,[]⟩) 4 ⟨#[],rD,[]⟩=true:=by kernel_rfl
theorem lifted (os:Os) (started:os.Started) (H:Type) (enc:TypeId×Value→H) (F:Stop.Interp):
  ReturnsInHanded {} Tryz.checked os 4 .any ((OpenSpec.ofChange Rows.limitsPermitsSpec).preRow enc Tryz.prog Tryz.f4 Rows.limitsPermitsRow.domain false Rows.limitsPermitsRow.laid) (((OpenSpec.ofChange Rows.limitsPermitsSpec).at F).post enc Tryz.prog Tryz.f4 false true false false):=by
 refine returnsInHanded_of_row (C:=Tryz.checked) (s:=OpenSpec.ofChange Rows.limitsPermitsSpec) own started (by kernel_rfl) Tryz.func4
  ⟨world os,fun _ _=>0,⟨#[],rD,[]⟩,World.laidAll_os _ _ _,aJD os,rfl,(Input.okWide_of_okWideB (aUF os)).2,pre os H enc,by
   simp only[Assume.holds]
   refine⟨?_,?_,?_,?_,?_,?_⟩<;>first | (intro h;cases h;done) | (intro d h;cases h;done)⟩ ?_
 intro W base args ds gs before hval hW _ _ _ _ hsh _
 exact contract H enc W base args ds gs before hval hW hsh
theorem wf:Rows.limitsPermitsRow.wf (OpenSpec.ofChange (OpenSpec.ofChange Rows.limitsPermitsSpec).bare)=true:=by kernel_rfl
theorem inPlace:(Rows.limitsPermitsRow.inPlace==PG.inPlace 4)=true:=by kernel_rfl
theorem unfollowed:(Rows.limitsPermitsRow.unfollowed==PG.unfollowed 4)=true:=by kernel_rfl
theorem recurses:(Rows.limitsPermitsRow.recurses==PG.recurses 4)=true:=by kernel_rfl
theorem named:(Rows.limitsPermitsRow.named==PG.varsNamed 4)=true:=by kernel_rfl
theorem aUG:namedTie PG Rows.limitsPermitsRow.named (OpenSpec.ofChange Rows.limitsPermitsSpec).bare.vars=true:=by kernel_rfl
theorem closed:joinedFacts PG 4 Tryz.f4 (OpenSpec.ofChange Rows.limitsPermitsSpec).bare Rows.limitsPermitsRow=true:=by
 unfold joinedFacts
 refine band (band (band (band (band (band (band (band (band (band (band (band (band (band (band (band (band (band (band (band (band (band (band (band (band (band (band (band (band (band (band wf aIN) aDW) ?_) aUG) ?_) aNH) ?_) aDX) inPlace) unfollowed) recurses) named) ?_) ?_) ?_) ?_) ?_) ?_) ?_) ?_) ?_) ?_) ?_) aNI) aG5) aNJ) aQF) ?_) ?_) ?_) ?_
 all_goals kernel_rfl
theorem said:Rows.LimitsPermitsSaid:=
 OpenClaim.holds_of_cond 4 Tryz.f4 rfl rfl rfl rfl rfl rfl rfl ⟨rfl,rfl,rfl,rfl,rfl⟩ rfl rfl rfl rfl rfl (by kernel_rfl) Tryz.func4 closed
  (of_decide_eq_true (by kernel_rfl)) (by unfold Func.isWrapper;first | (rw[if_pos (by decide+kernel)];kernel_rfl) | (rw[if_neg (by decide+kernel)];exact⟨rfl,rfl⟩))
  (fun os started H enc _ F=>by rw[OpenClaim.pre_eq_preRow];exact lifted os started H enc F)
theorem plain (f:FuncId) (fn:Func) (hf:Tryz.pinned.checked.prog.funcNamed "examiner/examinerlaw04.LimitsPermits" =some f) (hfn:Tryz.pinned.checked.prog.funcs[f]? =some fn):
  false=Tryz.pinned.checked.prog.looks []∧∀(j:Nat) t,fn.params[j]? =some t→Tryz.pinned.checked.prog.wantsStandIn t=false:=by
 obtain rfl:f=4:=Option.some.inj ((show Tryz.prog.funcNamed "examiner/examinerlaw04.LimitsPermits" =some 4 by kernel_rfl).symm.trans hf) |>.symm
 obtain rfl:fn=Tryz.f4:=(Option.some.inj (Tryz.func4.symm.trans hfn)).symm
 refine⟨by kernel_rfl,fun j t ht=>?_⟩
 rw[Tryz.params4]at ht
 have:t=28∨t=47:=by simpa using Array.mem_of_getElem? ht
 rcases this with rfl | rfl
 ·exact(show Tryz.prog.wantsStandIn 28=false by kernel_rfl)
 ·exact(show Tryz.prog.wantsStandIn 47=false by kernel_rfl)
theorem card:Rows.LimitsPermitsCardSaid:=
 Claim7.holds_tied_plain_at .later [] _ _ _ _ said (fun _ h=>by cases h) (by kernel_rfl) (fun _ h=>by cases h) limitsPermits_row_tie rfl ⟨rfl,rfl⟩ (by kernel_rfl) rfl plain (by kernel_rfl)
end lawPermits
#print axioms lawPermits.card
end Go.Proofs.YtdpbobkcbakpfaaGreatDoor

