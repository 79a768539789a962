/- For every input the law xP answers true and leaves its arguments as they were (the row lists two tables of package utf8; the card ties them). -/
import Derived.Test.YtdpbobkcbakpfaaGreatDoorMrqJ
namespace Go.Proofs.YtdpbobkcbakpfaaGreatDoor
open Go Go.Ab Go.ChangeShapes Go.WideShapes Go.ChangeAt Go.RowKit
open Go.Proofs.Tryz
set_option maxRecDepth 100000
namespace lawSeen
theorem aQ1:(Tryz.f8.params.toList.all fun t=>prog.readableRec t&&decide (t<prog.types.size))=true:=by kernel_rfl
theorem shapes(tss:List (List T))(h:sD prog Tryz.f8.params.toList tss):PSp prog 8 (oD prog Tryz.f8.params.toList tss) (.one (.t (.bool true))):=by
 rw[Tryz.params8]at h ⊢
 match tss,h with
 | [x],h=>
  obtain⟨h1,_⟩:=h;obtain⟨t,rfl,ht⟩:=aKE h1
  have e:oD prog [28] [t.row]=[.agg (tyC t)]:=by
   simp[oD,aN4,Tryz.underlying28,aN9]
  show PSp prog 8 (oD prog [28] [t.row]) _;rw[e];exact P8 t ht
theorem contract(H:Type)(enc:TypeId×Value→H)(W:World)(base:Nat)(args:Array Value)(ds gs:List (DataW H))(before:List MemPlace)
  (hval:∀ (j:Nat) t v,Tryz.f8.params[j]? =some t→args[j]? =some v→Value.okWide prog W .any base t v)
  (hW:DataW.Whole enc prog Tryz.f8.params.toList Rows.limitsSeenSpec.vars false W args.toList ds gs before) (hsh:W.ShapedOpen prog):
  Calls prog 8 args W fun e W'=>∃ v,e= .returned v∧Rows.limitsSeenSpec.post enc prog Tryz.f8 false true false false W args v W':=
 aBS (l:=aGI) trees (by kernel_rfl) laidOut aQ1 shapes rfl Tryz.underlying4 rfl (fun H ds hl=>by
  match ds,hl with
  | [d1],_=>rfl) W base args ds gs before hval hW (aHZ hsh)
noncomputable def world(os:Os):World:=World.laidAll prog os Rows.limitsSeenRow.laid
def sR:Array Value:= #[type0]
theorem aLC(os:Os):laidMetH prog Rows.limitsSeenRow.laid ((world os).forCall (fun _ _=>0) ⟨#[],sR,[]⟩).memory:=by
 rw[MakeChecks.laidMetH_plain _ _ _ (by kernel_rfl)];exact laidMet_laidAll _ (by kernel_rfl) (by kernel_rfl)
theorem reads(os:Os){H:Type}(enc:TypeId×Value→H):DataW.whole enc prog ((world os).forCall (fun _ _=>0) ⟨#[],sR,[]⟩).memory Tryz.f8.params.toList (OpenSpec.ofChange Rows.limitsSeenSpec).vars false sR.toList 8=some ([.agg [.lit (.int .i64 0),.lit (.string []),.nil,.nil,.lit (.bool false),.lit (.int .i64 0),.nil,.nil]],[],[]):=by kernel_rfl
theorem aLD(os:Os):((world os).forCall (fun _ _=>0) ⟨#[],sR,[]⟩).Shaped prog:=World.shaped_of_ZipB (by kernel_rfl) (by kernel_rfl)
theorem pre(os:Os)(H:Type)(enc:TypeId×Value→H):(OpenSpec.ofChange Rows.limitsSeenSpec).preRow enc prog Tryz.f8 Rows.limitsSeenRow.domain false Rows.limitsSeenRow.laid ((world os).forCall (fun _ _=>0) ⟨#[],sR,[]⟩).memory sR:=
 OpenSpec.preRow_of_cond 8 (reads os enc) (by kernel_rfl) (fun k hk=>by cases hk) (by kernel_rfl) (aLC os)
theorem aWG(os:Os):Input.okWideB prog ((world os).forCall (fun _ _=>0) ⟨#[],sR,[]⟩) 8 ⟨#[],sR,[]⟩=true:=by kernel_rfl
theorem lifted(os:Os)(started:os.Started)(H:Type)(enc:TypeId×Value→H)(F:Stop.Interp):
  ReturnsInHanded {} Tryz.checked os 8 .any ((OpenSpec.ofChange Rows.limitsSeenSpec).preRow enc prog Tryz.f8 Rows.limitsSeenRow.domain false Rows.limitsSeenRow.laid) (((OpenSpec.ofChange Rows.limitsSeenSpec).at F).post enc prog Tryz.f8 false true false false):=by
 refine returnsInHanded_of_row (C:=Tryz.checked) (s:=OpenSpec.ofChange Rows.limitsSeenSpec) own started (by kernel_rfl) func8
  ⟨world os,fun _ _=>0,⟨#[],sR,[]⟩,World.laidAll_os _ _ _,aLD os,rfl,(Input.okWide_of_okWideB (aWG os)).2,pre os H enc,by
   simp only[Assume.holds]
   refine⟨?_,?_,?_,?_,?_,?_⟩<;>first | (intro h;cases h;done) | (intro d h;cases h;done)⟩ ?_
 intro W base args ds gs before hval hW _ _ _ _ hsh _;exact contract H enc W base args ds gs before hval hW hsh
theorem wf:Rows.limitsSeenRow.wf (OpenSpec.ofChange (OpenSpec.ofChange Rows.limitsSeenSpec).bare)=true:=by kernel_rfl
theorem inPlace:(Rows.limitsSeenRow.inPlace==PG.inPlace 8)=true:=by kernel_rfl
theorem unfollowed:(Rows.limitsSeenRow.unfollowed==PG.unfollowed 8)=true:=by kernel_rfl
theorem recurses:(Rows.limitsSeenRow.recurses==PG.recurses 8)=true:=by kernel_rfl
theorem named:(Rows.limitsSeenRow.named==PG.varsNamed 8)=true:=by kernel_rfl
theorem aWH:namedTie PG Rows.limitsSeenRow.named (OpenSpec.ofChange Rows.limitsSeenSpec).bare.vars=true:=by kernel_rfl
theorem closed:joinedFacts PG 8 Tryz.f8 (OpenSpec.ofChange Rows.limitsSeenSpec).bare Rows.limitsSeenRow=true:=by
 unfold joinedFacts;refine band (band (band (band (band (band (band (band (band (band (band (band (band (band (band (band (band (band (band (band (band (band (band (band (band (band (band (band (band (band (band wf aKF) aFM) ?_) aWH) ?_) aPJ) ?_) aFN) inPlace) unfollowed) recurses) named) ?_) ?_) ?_) ?_) ?_) ?_) ?_) ?_) ?_) ?_) ?_) aPK) aHY) aPL) aSH) ?_) ?_) ?_) ?_
 all_goals kernel_rfl
theorem said:Rows.LimitsSeenSaid:=
 OpenClaim.holds_of_cond 8 Tryz.f8 rfl rfl rfl rfl rfl rfl rfl ⟨rfl,rfl,rfl,rfl,rfl⟩ rfl rfl rfl rfl rfl (by kernel_rfl) func8 closed
  (of_decide_eq_true (by kernel_rfl)) (by unfold Func.isWrapper;first | (rw[if_pos (by decide+kernel)];kernel_rfl) | (rw[if_neg (by decide+kernel)];exact⟨rfl,rfl⟩))
  (fun os started H enc _ F=>by rw[OpenClaim.pre_eq_preRow];exact lifted os started H enc F)
theorem plain(f:FuncId)(fn:Func)(hf:Tryz.pinned.checked.prog.funcNamed "examiner/examinerlaw04.LimitsSeen" =some f)(hfn:Tryz.pinned.checked.prog.funcs[f]? =some fn):
  false=Tryz.pinned.checked.prog.looks []∧∀(j:Nat) t,fn.params[j]? =some t→Tryz.pinned.checked.prog.wantsStandIn t=false:=by
 obtain rfl:f=8:=Option.some.inj ((show prog.funcNamed "examiner/examinerlaw04.LimitsSeen" =some 8 by kernel_rfl).symm.trans hf) |>.symm;obtain rfl:fn=Tryz.f8:=(Option.some.inj (func8.symm.trans hfn)).symm;refine⟨by kernel_rfl,fun j t ht=>?_⟩;rw[Tryz.params8]at ht;have:t=28:=by simpa using Array.mem_of_getElem? ht
 subst this;exact(show prog.wantsStandIn 28=false by kernel_rfl)
theorem card:Rows.LimitsSeenCardSaid:=
 Claim7.holds_tied_plain_at .later [] _ _ _ _ said (fun _ h=>by cases h) (by kernel_rfl) (fun _ h=>by cases h) limitsSeen_row_tie rfl ⟨rfl,rfl⟩ (by kernel_rfl) rfl plain (by kernel_rfl)
end lawSeen
#print axioms lawSeen.card
end Go.Proofs.YtdpbobkcbakpfaaGreatDoor
