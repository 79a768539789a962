/- For every input the law qR answers true and leaves its arguments as they were (the row lists two tables of package utf8; the card ties them). -/
import Derived.Test.YtdpbobkcbakpfaaGreatDoorMraJ
namespace Go.Proofs.YtdpbobkcbakpfaaGreatDoor
open Go Go.Ab Go.ChangeShapes Go.WideShapes Go.ChangeAt Go.RowKit
open Go.Proofs.Tryz
set_option maxRecDepth 100000
set_option maxHeartbeats 4000000
namespace lawAlgebra
theorem aRE:(Tryz.f7.params.toList.all fun t=>prog.readableRec t&&decide (t<prog.types.size))=true:=by kernel_rfl
theorem shapes(tss:List (List T))(h:sO prog Tryz.f7.params.toList tss):PSp prog 7 (oN prog Tryz.f7.params.toList tss) (.one (.t (.bool true))):=by
 rw[Tryz.params7]at h ⊢
 match tss,h with
 | [x,y,z],h=>
  obtain⟨h1,h2,h3,_⟩:=h;obtain⟨t,rfl,ht⟩:=aEF h1;obtain⟨u,rfl,hu⟩:=aEF h2;obtain⟨n,rfl,_⟩:=h3.aHI Tryz.underlying3
  have e:oN prog [28,28,3] [t.row,u.row,[T.int .i64 n]]=[.agg (tyC t),.agg (tyC u),.one (.t (I n))]:=by
   simp[oN,aOD,Tryz.underlying28,aOH,Tryz.underlying3]
  show PSp prog 7 (oN prog [28,28,3] [t.row,u.row,[T.int .i64 n]]) _;rw[e];exact P7 t u n ht hu
theorem contract(H:Type)(enc:TypeId×Value→H)(W:World)(base:Nat)(args:Array Value)(ds gs:List (DataW H))(before:List MemPlace)
  (hval:∀ (j:Nat) t v,Tryz.f7.params[j]? =some t→args[j]? =some v→Value.okWide prog W .any base t v)
  (hW:DataW.Whole enc prog Tryz.f7.params.toList Rows.limitsAlgebraSpec.vars false W args.toList ds gs before) (hsh:W.ShapedOpen prog):
  Calls prog 7 args W fun e W'=>∃ v,e= .returned v∧Rows.limitsAlgebraSpec.post enc prog Tryz.f7 false true false false W args v W':=
 aCD (l:=aHJ) trees (by kernel_rfl) laidOut aRE shapes rfl Tryz.underlying4 rfl (fun H ds hl=>by
  match ds,hl with
  | [d1,d2,d3],_=>rfl) W base args ds gs before hval hW (aJ0 hsh)
noncomputable def world(os:Os):World:=World.laidAll prog os Rows.limitsAlgebraRow.laid
def tD:Array Value:= #[type0,type0,.int .i64 0]
theorem aMJ(os:Os):laidMetH prog Rows.limitsAlgebraRow.laid ((world os).forCall (fun _ _=>0) ⟨#[],tD,[]⟩).memory:=by
 rw[MakeChecks.laidMetH_plain _ _ _ (by kernel_rfl)];exact laidMet_laidAll _ (by kernel_rfl) (by kernel_rfl)
theorem reads(os:Os){H:Type}(enc:TypeId×Value→H):DataW.whole enc prog ((world os).forCall (fun _ _=>0) ⟨#[],tD,[]⟩).memory Tryz.f7.params.toList (OpenSpec.ofChange Rows.limitsAlgebraSpec).vars false tD.toList 8=some ([.agg [.lit (.int .i64 0),.lit (.string []),.nil,.nil,.lit (.bool false),.lit (.int .i64 0),.nil,.nil],.agg [.lit (.int .i64 0),.lit (.string []),.nil,.nil,.lit (.bool false),.lit (.int .i64 0),.nil,.nil],.lit (.int .i64 0)],[],[]):=by kernel_rfl
theorem aMK(os:Os):((world os).forCall (fun _ _=>0) ⟨#[],tD,[]⟩).Shaped prog:=World.shaped_of_ZipB (by kernel_rfl) (by kernel_rfl)
theorem pre(os:Os)(H:Type)(enc:TypeId×Value→H):(OpenSpec.ofChange Rows.limitsAlgebraSpec).preRow enc prog Tryz.f7 Rows.limitsAlgebraRow.domain false Rows.limitsAlgebraRow.laid ((world os).forCall (fun _ _=>0) ⟨#[],tD,[]⟩).memory tD:=
 OpenSpec.preRow_of_cond 8 (reads os enc) (by kernel_rfl) (fun k hk=>by cases hk) (by kernel_rfl) (aMJ os)
theorem aY4(os:Os):Input.okWideB prog ((world os).forCall (fun _ _=>0) ⟨#[],tD,[]⟩) 7 ⟨#[],tD,[]⟩=true:=by kernel_rfl
theorem lifted(os:Os)(started:os.Started)(H:Type)(enc:TypeId×Value→H)(F:Stop.Interp):
  ReturnsInHanded {} Tryz.checked os 7 .any ((OpenSpec.ofChange Rows.limitsAlgebraSpec).preRow enc prog Tryz.f7 Rows.limitsAlgebraRow.domain false Rows.limitsAlgebraRow.laid) (((OpenSpec.ofChange Rows.limitsAlgebraSpec).at F).post enc prog Tryz.f7 false true false false):=by
 refine returnsInHanded_of_row (C:=Tryz.checked) (s:=OpenSpec.ofChange Rows.limitsAlgebraSpec) own started (by kernel_rfl) func7
  ⟨world os,fun _ _=>0,⟨#[],tD,[]⟩,World.laidAll_os _ _ _,aMK os,rfl,(Input.okWide_of_okWideB (aY4 os)).2,pre os H enc,by
   simp only[Assume.holds]
   refine⟨?_,?_,?_,?_,?_,?_⟩<;>first | (intro h;cases h;done) | (intro d h;cases h;done)⟩ ?_
 intro W base args ds gs before hval hW _ _ _ _ hsh _;exact contract H enc W base args ds gs before hval hW hsh
theorem wf:Rows.limitsAlgebraRow.wf (OpenSpec.ofChange (OpenSpec.ofChange Rows.limitsAlgebraSpec).bare)=true:=by kernel_rfl
theorem inPlace:(Rows.limitsAlgebraRow.inPlace==PG.inPlace 7)=true:=by kernel_rfl
theorem unfollowed:(Rows.limitsAlgebraRow.unfollowed==PG.unfollowed 7)=true:=by kernel_rfl
theorem recurses:(Rows.limitsAlgebraRow.recurses==PG.recurses 7)=true:=by kernel_rfl
theorem named:(Rows.limitsAlgebraRow.named==PG.varsNamed 7)=true:=by kernel_rfl
theorem aY5:namedTie PG Rows.limitsAlgebraRow.named (OpenSpec.ofChange Rows.limitsAlgebraSpec).bare.vars=true:=by kernel_rfl
theorem closed:joinedFacts PG 7 Tryz.f7 (OpenSpec.ofChange Rows.limitsAlgebraSpec).bare Rows.limitsAlgebraRow=true:=by
 unfold joinedFacts;refine band (band (band (band (band (band (band (band (band (band (band (band (band (band (band (band (band (band (band (band (band (band (band (band (band (band (band (band (band (band (band wf aLK) aGE) ?_) aY5) ?_) aQR) ?_) aGF) inPlace) unfollowed) recurses) named) ?_) ?_) ?_) ?_) ?_) ?_) ?_) ?_) ?_) ?_) ?_) aQS) aIZ) aQT) aTU) ?_) ?_) ?_) ?_
 all_goals kernel_rfl
theorem said:Rows.LimitsAlgebraSaid:=
 OpenClaim.holds_of_cond 7 Tryz.f7 rfl rfl rfl rfl rfl rfl rfl ⟨rfl,rfl,rfl,rfl,rfl⟩ rfl rfl rfl rfl rfl (by kernel_rfl) func7 closed
  (of_decide_eq_true (by kernel_rfl)) (by unfold Func.isWrapper;first | (rw[if_pos (by decide+kernel)];kernel_rfl) | (rw[if_neg (by decide+kernel)];exact⟨rfl,rfl⟩))
  (fun os started H enc _ F=>by rw[OpenClaim.pre_eq_preRow];exact lifted os started H enc F)
theorem plain(f:FuncId)(fn:Func)(hf:Tryz.pinned.checked.prog.funcNamed "examiner/examinerlaw04.LimitsAlgebra" =some f)(hfn:Tryz.pinned.checked.prog.funcs[f]? =some fn):
  false=Tryz.pinned.checked.prog.looks []∧∀(j:Nat) t,fn.params[j]? =some t→Tryz.pinned.checked.prog.wantsStandIn t=false:=by
 obtain rfl:f=7:=Option.some.inj ((show prog.funcNamed "examiner/examinerlaw04.LimitsAlgebra" =some 7 by kernel_rfl).symm.trans hf) |>.symm;obtain rfl:fn=Tryz.f7:=(Option.some.inj (func7.symm.trans hfn)).symm;refine⟨by kernel_rfl,fun j t ht=>?_⟩;rw[Tryz.params7]at ht;have:t=28∨t=3:=by simpa using Array.mem_of_getElem? ht
 rcases this with rfl | rfl
 ·exact(show prog.wantsStandIn 28=false by kernel_rfl)
 ·exact(show prog.wantsStandIn 3=false by kernel_rfl)
theorem card:Rows.LimitsAlgebraCardSaid:=
 Claim7.holds_tied_plain_at .later [] _ _ _ _ said (fun _ h=>by cases h) (by kernel_rfl) (fun _ h=>by cases h) limitsAlgebra_row_tie rfl ⟨rfl,rfl⟩ (by kernel_rfl) rfl plain (by kernel_rfl)
end lawAlgebra
#print axioms lawAlgebra.card
end Go.Proofs.YtdpbobkcbakpfaaGreatDoor
