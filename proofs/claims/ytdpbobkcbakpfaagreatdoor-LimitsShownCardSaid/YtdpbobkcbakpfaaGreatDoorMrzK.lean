/- For every input the law uV answers true and leaves its arguments as they were (the row lists two tables of package utf8; the card ties them). -/
import Derived.Test.YtdpbobkcbakpfaaGreatDoorMrzJ
namespace Go.Proofs.YtdpbobkcbakpfaaGreatDoor
open Go Go.Ab Go.ChangeShapes Go.WideShapes Go.ChangeAt Go.RowKit
open Go.Proofs.Tryz
set_option maxRecDepth 100000
set_option maxHeartbeats 4000000
namespace lawShown
theorem aQ5:(Tryz.f9.params.toList.all fun t=>prog.readableRec t&&decide (t<prog.types.size))=true:=by kernel_rfl
theorem shapes(tss:List (List T))(h:sI prog Tryz.f9.params.toList tss):PSp prog 9 (oG prog Tryz.f9.params.toList tss) (.one (.t (.bool true))):=by
 rw[Tryz.params9]at h ⊢
 match tss,h with
 | [x,y],h=>
  obtain⟨h1,h2,_⟩:=h;obtain⟨t,rfl,ht⟩:=aKF h1;obtain⟨v,rfl,hv⟩:=aKG h2
  have e:oG prog [28,47] [t.row,v.row]=[.agg (tyC t),.agg (vlC v)]:=by
   simp[oG,aN9,Tryz.underlying28,aNE,Tryz.underlying47,aNF]
  show PSp prog 9 (oG prog [28,47] [t.row,v.row]) _;rw[e];exact P9 t v ht hv
theorem contract(H:Type)(enc:TypeId×Value→H)(W:World)(base:Nat)(args:Array Value)(ds gs:List (DataW H))(before:List MemPlace)
  (hval:∀ (j:Nat) t v,Tryz.f9.params[j]? =some t→args[j]? =some v→Value.okWide prog W .any base t v)
  (hW:DataW.Whole enc prog Tryz.f9.params.toList Rows.limitsShownSpec.vars false W args.toList ds gs before) (hsh:W.ShapedOpen prog):
  Calls prog 9 args W fun e W'=>∃ v,e= .returned v∧Rows.limitsShownSpec.post enc prog Tryz.f9 false true false false W args v W':=
 aBT (l:=aGN) trees (by kernel_rfl) laidOut aQ5 shapes rfl Tryz.underlying4 rfl (fun H ds hl=>by
  match ds,hl with
  | [d1,d2],_=>rfl) W base args ds gs before hval hW (aI0 hsh)
noncomputable def world(os:Os):World:=World.laidAll prog os Rows.limitsShownRow.laid
def aQ6:Value:= .agg #[.int .i64 0,.int .i64 0,.int .i64 0,.string ⟨#[]⟩,.slice none 0 0,.slice none 0 0]
def sR:Array Value:= #[type0,aQ6]
theorem aLH(os:Os):laidMetH prog Rows.limitsShownRow.laid ((world os).forCall (fun _ _=>0) ⟨#[],sR,[]⟩).memory:=by
 rw[MakeChecks.laidMetH_plain _ _ _ (by kernel_rfl)];exact laidMet_laidAll _ (by kernel_rfl) (by kernel_rfl)
theorem reads(os:Os){H:Type}(enc:TypeId×Value→H):DataW.whole enc prog ((world os).forCall (fun _ _=>0) ⟨#[],sR,[]⟩).memory Tryz.f9.params.toList (OpenSpec.ofChange Rows.limitsShownSpec).vars false sR.toList 8=some ([.agg [.lit (.int .i64 0),.lit (.string []),.nil,.nil,.lit (.bool false),.lit (.int .i64 0),.nil,.nil],.agg [.lit (.int .i64 0),.lit (.int .i64 0),.lit (.int .i64 0),.lit (.string []),.nil,.nil]],[],[]):=by kernel_rfl
theorem aLI(os:Os):((world os).forCall (fun _ _=>0) ⟨#[],sR,[]⟩).Shaped prog:=World.shaped_of_ZipB (by kernel_rfl) (by kernel_rfl)
theorem pre(os:Os)(H:Type)(enc:TypeId×Value→H):(OpenSpec.ofChange Rows.limitsShownSpec).preRow enc prog Tryz.f9 Rows.limitsShownRow.domain false Rows.limitsShownRow.laid ((world os).forCall (fun _ _=>0) ⟨#[],sR,[]⟩).memory sR:=
 OpenSpec.preRow_of_cond 8 (reads os enc) (by kernel_rfl) (fun k hk=>by cases hk) (by kernel_rfl) (aLH os)
theorem aWL(os:Os):Input.okWideB prog ((world os).forCall (fun _ _=>0) ⟨#[],sR,[]⟩) 9 ⟨#[],sR,[]⟩=true:=by kernel_rfl
theorem lifted(os:Os)(started:os.Started)(H:Type)(enc:TypeId×Value→H)(F:Stop.Interp):
  ReturnsInHanded {} Tryz.checked os 9 .any ((OpenSpec.ofChange Rows.limitsShownSpec).preRow enc prog Tryz.f9 Rows.limitsShownRow.domain false Rows.limitsShownRow.laid) (((OpenSpec.ofChange Rows.limitsShownSpec).at F).post enc prog Tryz.f9 false true false false):=by
 refine returnsInHanded_of_row (C:=Tryz.checked) (s:=OpenSpec.ofChange Rows.limitsShownSpec) own started (by kernel_rfl) func9
  ⟨world os,fun _ _=>0,⟨#[],sR,[]⟩,World.laidAll_os _ _ _,aLI os,rfl,(Input.okWide_of_okWideB (aWL os)).2,pre os H enc,by
   simp only[Assume.holds]
   refine⟨?_,?_,?_,?_,?_,?_⟩<;>first | (intro h;cases h;done) | (intro d h;cases h;done)⟩ ?_
 intro W base args ds gs before hval hW _ _ _ _ hsh _;exact contract H enc W base args ds gs before hval hW hsh
theorem wf:Rows.limitsShownRow.wf (OpenSpec.ofChange (OpenSpec.ofChange Rows.limitsShownSpec).bare)=true:=by kernel_rfl
theorem inPlace:(Rows.limitsShownRow.inPlace==PG.inPlace 9)=true:=by kernel_rfl
theorem unfollowed:(Rows.limitsShownRow.unfollowed==PG.unfollowed 9)=true:=by kernel_rfl
theorem recurses:(Rows.limitsShownRow.recurses==PG.recurses 9)=true:=by kernel_rfl
theorem named:(Rows.limitsShownRow.named==PG.varsNamed 9)=true:=by kernel_rfl
theorem aWM:namedTie PG Rows.limitsShownRow.named (OpenSpec.ofChange Rows.limitsShownSpec).bare.vars=true:=by kernel_rfl
theorem closed:joinedFacts PG 9 Tryz.f9 (OpenSpec.ofChange Rows.limitsShownSpec).bare Rows.limitsShownRow=true:=by
 unfold joinedFacts;refine band (band (band (band (band (band (band (band (band (band (band (band (band (band (band (band (band (band (band (band (band (band (band (band (band (band (band (band (band (band (band wf aKH) aFO) ?_) aWM) ?_) aPO) ?_) aFP) inPlace) unfollowed) recurses) named) ?_) ?_) ?_) ?_) ?_) ?_) ?_) ?_) ?_) ?_) ?_) aPP) aHZ) aPQ) aSM) ?_) ?_) ?_) ?_
 all_goals kernel_rfl
theorem said:Rows.LimitsShownSaid:=
 OpenClaim.holds_of_cond 9 Tryz.f9 rfl rfl rfl rfl rfl rfl rfl ⟨rfl,rfl,rfl,rfl,rfl⟩ rfl rfl rfl rfl rfl (by kernel_rfl) func9 closed
  (of_decide_eq_true (by kernel_rfl)) (by unfold Func.isWrapper;first | (rw[if_pos (by decide+kernel)];kernel_rfl) | (rw[if_neg (by decide+kernel)];exact⟨rfl,rfl⟩))
  (fun os started H enc _ F=>by rw[OpenClaim.pre_eq_preRow];exact lifted os started H enc F)
theorem plain(f:FuncId)(fn:Func)(hf:Tryz.pinned.checked.prog.funcNamed "examiner/examinerlaw04.LimitsShown" =some f)(hfn:Tryz.pinned.checked.prog.funcs[f]? =some fn):
  false=Tryz.pinned.checked.prog.looks []∧∀(j:Nat) t,fn.params[j]? =some t→Tryz.pinned.checked.prog.wantsStandIn t=false:=by
 obtain rfl:f=9:=Option.some.inj ((show prog.funcNamed "examiner/examinerlaw04.LimitsShown" =some 9 by kernel_rfl).symm.trans hf) |>.symm;obtain rfl:fn=Tryz.f9:=(Option.some.inj (func9.symm.trans hfn)).symm;refine⟨by kernel_rfl,fun j t ht=>?_⟩;rw[Tryz.params9]at ht;have:t=28∨t=47:=by simpa using Array.mem_of_getElem? ht
 rcases this with rfl | rfl
 ·exact(show prog.wantsStandIn 28=false by kernel_rfl)
 ·exact(show prog.wantsStandIn 47=false by kernel_rfl)
theorem card:Rows.LimitsShownCardSaid:=
 Claim7.holds_tied_plain_at .later [] _ _ _ _ said (fun _ h=>by cases h) (by kernel_rfl) (fun _ h=>by cases h) limitsShown_row_tie rfl ⟨rfl,rfl⟩ (by kernel_rfl) rfl plain (by kernel_rfl)
end lawShown
#print axioms lawShown.card
end Go.Proofs.YtdpbobkcbakpfaaGreatDoor
