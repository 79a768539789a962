/- Texts of this proof. -/
import Derived.Test.YtdpbobkcbakpfaaGreatDoorMraE
namespace Go.Proofs.YtdpbobkcbakpfaaGreatDoor
open Go Go.Ab
open Go.Proofs.Tryz
set_option maxRecDepth 100000
set_option maxHeartbeats 4000000
section
attribute [-simp] Go.Ab.aA Go.Ab.gval
def tyC(t:Ty):List A:=[.t (I t.kind),.t (.str t.name),.t (bE t.tags),.t (aM t.fields),.t (.bool t.opn),.t (I t.root),.t (aQ t.of),.t (aG t.limits)]
def fdC(f:Fd):List A:=[.t (.str f.name),.t (I f.num),.t (I f.ty.kind),.t (.str f.ty.name),.t (bE f.ty.tags),.t (aM f.ty.fields),.t (.bool f.ty.opn),.t (I f.ty.root),.t (aQ f.ty.of),.t (aG f.ty.limits),.t (I f.pres),.t (aV f.dflt),.t (I f.grp)]
def vlC(v:Vl):List A:=[.t (I v.kind),.t (I v.n),.t (I v.e),.t (.str v.s),.t (aO v.names),.t (aV v.items)]
def ndC(x:Nd):List A:=[.t (I x.k),.t (I x.lo),.t (I x.hi),.t (.str x.s),.t (aX x.args)]
theorem aKT(t:Ty):t.row.map A.t=tyC t:=by rw[Ty.aP];rfl
theorem aKU(f:Fd):f.row.map A.t=fdC f:=by rw[Fd.aP];rfl
theorem aC2(v:Vl):v.row.map A.t=vlC v:=by rw[Vl.aP];rfl
def Ty.isZ(t:Ty):Bool:=t.kind==0&&bR t.name (bs [])&&(t.tags.length:Int)==0&&(t.fields.length:Int)==0&& !t.opn&&t.root==0&&(t.of.length:Int)==0&&(t.limits.length:Int)==0
def Fd.alone(f:Fd):Bool:=f.pres==0&&(f.dflt.length:Int)==0&&f.grp==0
def Fd.fits(k:Int)(f:Fd):Bool:=
 if k==3 then f.alone&&f.ty.isZ else if k==14 then f.alone&&f.ty.isZ&&f.num==0 else if k==15 then f.alone&&f.num==0&&bR f.name (bs [])
 else if k==13 then f.num==0&&f.pres==0&&(f.dflt.length:Int)==0 else f.num==0&&(f.pres==2||(f.dflt.length:Int)==0)
attribute [local simp] bE aM aQ aG aV aO aX tyC fdC vlC ndC
attribute [local simp] c214 in
theorem aSA(t:Ty):PSp prog 214 [.agg (tyC t)] (.one (.t (.bool t.isZ))):=by
 refine k214.aI (by simp) (by simp[D.closed,A.closed]) rfl ?_;simp -implicitDefEqProofs [aC,Ty.isZ,bR]
attribute [local simp] c175 in
theorem aVG(k:Int)(f:Fd):PSp prog 175 [.one (.t (I k)),.agg (fdC f)] (.one (.t (.bool (f.fits k)))):=by
 refine k175.aI (by simp) (by simp[D.closed,A.closed]) rfl ?_;obtain⟨a,hb⟩:∃ a,(f.pres==0&&(f.dflt.length:Int)==0&&f.grp==0)=a:=⟨_,rfl⟩;have ha:f.alone=a:=hb;rcases eqCases k 3 with rfl | q3
 ·cases a
  ·simp -implicitDefEqProofs [hb,ha,Fd.fits,aC]
  ·simp -implicitDefEqProofs [hb];refine aD.tree (aSA _) rfl ?_;simp -implicitDefEqProofs [Fd.fits,ha,aC]
 ·rcases eqCases k 14 with rfl | q14
  ·cases a
   ·simp -implicitDefEqProofs [q3,hb,ha,Fd.fits,aC]
   ·simp -implicitDefEqProofs [q3,hb];refine aD.tree (aSA _) rfl ?_;cases hz:f.ty.isZ
    ·simp -implicitDefEqProofs [q3,Fd.fits,ha,hz,aC]
    ·simp -implicitDefEqProofs [q3,Fd.fits,ha,hz,aC]
  ·rcases eqCases k 15 with rfl | q15
   ·simp -implicitDefEqProofs [q3,q14,Fd.fits,ha,hb,bR,aC]
   ·rcases eqCases k 13 with rfl | q13
    ·simp -implicitDefEqProofs [q3,q14,q15,Fd.fits,hb,aC]
    ·simp -implicitDefEqProofs [q3,q14,q15,q13,Fd.fits,hb,aC];intro h;simp[h]
end
section
attribute [-simp] Go.Ab.aA Go.Ab.gval
attribute [local simp] bE aM aQ aG aV aO aX tyC fdC vlC ndC
def Look(f:FuncId)(h:Hp)(xs:List D)(r:D):Prop:=∀ n,ISp prog f h n xs r h
attribute [local simp] c174 in
theorem aVH(t:Ty)(f:Fd)(h:Hp)(id:Nat)(hid:h id=some (.arr 0 false 8 [tyC t])):Look 174 h [.agg (fdC f),.one (.ptr ⟨id,0,8,0,0⟩)] (.one (.t (.bool (!f.fits t.kind)))):=fun n=>by
 refine ISp.ok fun ho=>?_
 have hlt:=fZ ho hid;refine k174.gQ (by simp) ?_;obtain⟨o1,o2,o3,o4⟩:=aK hid;have hne:¬ id=n:=by omega
 simp -implicitDefEqProofs [o1,o2,o3,hne];refine aD.tree (aVG _ f) rfl ?_;simp -implicitDefEqProofs;exact dQ (.inr rfl) (by simp) (fun j hj=>by simp[Hp.set];omega) ho
attribute [local simp] c176 in
theorem aVI(f:Fd):PSp prog 176 [.agg (fdC f)] (.one (.t (.bool (f.grp != 0)))):=by
 refine k176.aI (by simp) (by simp[D.closed,A.closed]) rfl ?_;simp -implicitDefEqProofs [aC]
attribute [local simp] c183 in
theorem aVJ(f:Fd):PSp prog 183 [.agg (fdC f)] (.one (.t (.bool (!(decide (-1152921504606846976≤f.num)&&decide (f.num≤1152921504606846976)))))):=by
 refine k183.aI (by simp) (by simp[D.closed,A.closed]) rfl ?_;simp -implicitDefEqProofs;refine aD.tree (aRX _) rfl ?_;simp -implicitDefEqProofs [aC]
attribute [local simp] c216 in
theorem aVK(f:Fd):PSp prog 216 [.agg (fdC f)] (.one (.t (.bool (f.pres==2&&(f.dflt.length:Int) != 1)))):=by
 refine k216.aI (by simp) (by simp[D.closed,A.closed]) rfl ?_;simp -implicitDefEqProofs [aC]
attribute [local simp] c220 in
theorem aVL(f:Fd)(hf:f.name.size≤9223372036854775807):PSp prog 220 [.agg (fdC f)] (.one (.t (.bool (!bF f.name)))):=by
 refine k220.aI (by simp) (by simp[D.closed,A.closed]) rfl ?_;simp -implicitDefEqProofs;refine aD.tree (aNI _ hf) rfl ?_;simp -implicitDefEqProofs [aC]
attribute [local simp] c221 in
theorem aVM(t:Ty)(f g:Fd)(h:Hp)(id jd:Nat)(hid:h id=some (.arr 0 false 13 [fdC f]))(hjd:h jd=some (.arr 0 false 8 [tyC t])):Look 221 h [.agg (fdC g),.one (.ptr ⟨id,0,13,0,0⟩),.one (.ptr ⟨jd,0,8,0,0⟩)] (.one (.t (.bool (bR g.name f.name||(t.kind==3&&g.num==f.num))))):=fun n=>by
 refine ISp.ok fun ho=>?_
 have hlt:=fZ ho hid;have aUT:=fZ ho hjd;refine k221.gQ (by simp) ?_;obtain⟨o1,o2,o3,o4⟩:=aK hid;obtain⟨p1,p2,p3,p4⟩:=aK hjd;have hne:¬ id=n:=by omega
 have wX:¬ jd=n:=by omega
 rcases Bool.eq_false_or_eq_true (g.name.toList==f.name.toList)with hb | hb
 ·simp -implicitDefEqProofs [o1,o2,o3,hne,p1,p2,p3,wX,hb];exact dQ (.inr rfl) (by simp[bR,hb]) (fun j hj=>by simp[Hp.set];omega) ho
 ·simp -implicitDefEqProofs [o1,o2,o3,hne,p1,p2,p3,wX,hb];exact dQ (.inr rfl) (by simp[bR,hb]) (fun j hj=>by simp[Hp.set];omega) ho
attribute [local simp] b7j c256 in
theorem aVN(l:List ByteArray)(s:ByteArray)(hl:short l):PSp prog 256 [.one (.t (aO l)),.one (.t (.str s))] (.one (.t (I (idxOf l fun x=>bR s x)))):=by
 refine k256.aI (by simp) rfl rfl ?_;simp -implicitDefEqProofs [aO];refine nU l (fun x=>bR s x) [0,1,7] [] (fun i st=>st.tmps 8= .one (.t (I i))) hl ⟨by simp,by simp,by simp⟩ ?_ ?_
 ·intro i y st hi hiI hw hg hy hany hx hk hh;simp at hk;simp -implicitDefEqProofs [hx,hk,hiI,hi,aE hg,hw,aC];exact⟨fun e=>by simp[idxOf,hany (by simp[bR,e])],fun e=>by simp[bR,e]⟩
 ·intro st hany hx hk hh;simp at hk;simp -implicitDefEqProofs [hx,hk,aC,idxOf,hany]
attribute [local simp] c218 in
theorem aSB(l:List ByteArray)(s:ByteArray)(hl:short l):PSp prog 218 [.one (.t (aO l)),.one (.t (.str s))] (.one (.t (.bool (l.any fun x=>bR s x)))):=by
 refine k218.aI (by simp) rfl rfl ?_;simp -implicitDefEqProofs [aO];refine aD.tree (aVN l s hl) rfl ?_;simp -implicitDefEqProofs [aC,tS]
end
section
attribute [-simp] Go.Ab.aA Go.Ab.gval
attribute [local simp] bE aM aQ aG aV aO aX tyC fdC vlC ndC
theorem aC3(l:List Fd)(hl:short l)(p:Fd→Bool)(clo:FuncId)(hc:callable prog clo=true)(hp:∀ x∈l,PSp prog clo [.agg (fdC x)] (.one (.t (.bool (p x)))))(h:Hp)(n:Nat):
  ISp prog 173 h n [.one (.t (aM l)),.one (.fn clo [])] (.one (.t (.bool (l.any p)))) h:=
 aS9 l hl p clo [] h n hc fun x hx new K hn hK=>aD.tree (by rw[aKU];exact hp x hx) (by simp[D.kB,uO]) hK
theorem aHF(l:List Fd)(hl:short l)(p:Fd→Bool)(clo:FuncId)(caps:List Pt)(hc:callable prog clo=true)(h:Hp)(hp:∀ x∈l,Look clo h (.agg (fdC x)::caps.map fun q=> .one (.ptr q)) (.one (.t (.bool (p x)))))(n:Nat):
  ISp prog 173 h n [.one (.t (aM l)),.one (.fn clo caps)] (.one (.t (.bool (l.any p)))) h:=
 aS9 l hl p clo caps h n hc fun x hx new K hn hK=>aD.imp (by rw[aKU];exact hp x hx new) hK
def iC(k:Int):Bool:=(k==11||k==12)||(k==2||k==4||k==5||k==6||k==15)
attribute [local simp] b6u c254 in
theorem aVO(l:List Int)(n:Int)(hl:short l):PSp prog 254 [.one (.t (aX l)),.one (.t (I n))] (.one (.t (I (idxOf l fun x=>n==x)))):=by
 refine k254.aI (by simp) rfl rfl ?_;simp -implicitDefEqProofs;refine nU l (fun x=>n==x) [0,1,7] [] (fun i st=>st.tmps 8= .one (.t (I i))) hl ⟨by simp,by simp,by simp⟩ ?_ ?_
 ·intro i y st hi hiI hw hg hy hany hx hk hh;simp at hk;simp -implicitDefEqProofs [hx,hk,hiI,hi,aE hg,hw,aC];exact fun e=>by simp[idxOf,hany (by simp[e])]
 ·intro st hany hx hk hh;simp at hk;simp -implicitDefEqProofs [hx,hk,aC,idxOf,hany]
attribute [local simp] c215 in
theorem aVP(l:List Int)(n:Int)(hl:short l):PSp prog 215 [.one (.t (aX l)),.one (.t (I n))] (.one (.t (.bool (l.any fun x=>n==x)))):=by
 refine k215.aI (by simp) rfl rfl ?_;simp -implicitDefEqProofs;refine aD.tree (aVO l n hl) rfl ?_;simp -implicitDefEqProofs [aC,tS]
attribute [local simp] c178 in
theorem aSC(k:Int):PSp prog 178 [.one (.t (I k))] (.one (.t (.bool (iC k)))):=by
 refine k178.aI (by simp) rfl rfl ?_;simp -implicitDefEqProofs;refine aD.tree (aPX _) rfl ?_;cases hb:(k==11||k==12)with
 | true=>simp -implicitDefEqProofs [aC,iC,hb]
 | false=>
  simp -implicitDefEqProofs;refine aD.pure (aVP [2,4,5,6,15] k (by simp[short])) (by simp) (by simp) ?_;simp -implicitDefEqProofs [aC,iC,hb,Bool.or_assoc]
def ne0(x:Int):Option Int:=if x != 0 then some x else none
def bZ(l:List Int):Int:=(l.findSome? ne0).getD 0
attribute [local simp] b5Z c179 in
theorem aSD(l:List Int)(hl:short l):PSp prog 179 [.one (.t (aX l))] (.one (.t (I (bZ l)))):=by
 refine k179.aI (by simp) rfl rfl ?_;simp -implicitDefEqProofs;refine wW l ne0 [5,6] [] (fun i st=>st.tmps 7= .one (.t (I i))) hl ⟨by simp,by simp,by simp⟩ ?_ ?_
 ·intro i y st hi hiI hw hg hy hany hx hk hh;simp at hk;rcases eqCases y 0 with e | e
  ·simp -implicitDefEqProofs [hx,hk,hiI,hi,aE hg,hw,e,ne0]
  ·simp -implicitDefEqProofs [hx,hk,hiI,hi,aE hg,e,aC];simp[bZ,hany y (by simp[e,ne0])]
 ·intro st hany hx hk hh;simp at hk;simp -implicitDefEqProofs [hx,hk,aC,bZ,hany]
def Ty.aC4(t:Ty):Bool:=((t.kind==11||t.kind==12)&&(t.of.length:Int) != 1)||((t.kind==3||t.kind==13)&&decide (t.root<1))
def Ty.iP(t:Ty):Bool:=t.kind==14&&((bR t.name (bs [])&&decide ((t.fields.length:Int)>0))||(!bR t.name (bs [])&&(t.fields.length:Int) != 2&&(t.fields.length:Int) != 3))
def Ty.eH(t:Ty):Bool:= !t.aC4&& !t.iP&& !(t.fields.any fun f=>f.pres==2&&(f.dflt.length:Int) != 1)&&bC t.limits
theorem bb(a:Bool):a=true∨a=false:=by cases a<;>simp
def TB(t:Ty)(i:Nat)(st:St):Prop:=st.tmps i= .one (.ptr ⟨0,0,8,0,0⟩)∧st.heap 0=some (.arr 0 false 8 [tyC t])
attribute [local simp] a9d a9e a9f a9g a9h c180 in
theorem aFV(t:Ty)(hl:short t.fields)(ha:∀ x∈t.limits,x.args.length≤1000000)(st:St)(h1:TB t 1 st):
  aZ prog 67 (aC [.tmp 2] (.one (.t (.bool (!t.iP&& !(t.fields.any fun f=>f.pres==2&&(f.dflt.length:Int) != 1)&&bC t.limits))))) a9g [] st:=by
 obtain⟨h1,h2⟩:=h1;obtain⟨o1,o2,o3,o4⟩:=aK h2;obtain⟨a,e0⟩:∃ a,(t.kind==14)=a:=⟨_,rfl⟩;obtain⟨b,e1⟩:∃ b,(t.name.toList==(bs []).toList)=b:=⟨_,rfl⟩;obtain⟨c,e2⟩:∃ c,decide (0<t.fields.length)=c:=⟨_,rfl⟩;have e2':decide ((t.fields.length:Int)>0)=c:=by rw[←e2];congr 1;simp
 obtain⟨d,e3⟩:∃ c,((t.fields.length:Int)==2)=c:=⟨_,rfl⟩;obtain⟨e,e4⟩:∃ c,((t.fields.length:Int)==3)=c:=⟨_,rfl⟩
 have s2:t.iP=(a&&((b&&c)||(!b&& !d&& !e))):=by
  simp only[Ty.iP,bR,e0,e1,e2',bne,e3,e4]
 rw[s2];have hany:=aC3 t.fields hl (fun f=>f.pres==2&&(f.dflt.length:Int) != 1) 216 (by kernel_rfl) (fun x hx=>aVK x);generalize (t.fields.any fun f=>f.pres==2&&(f.dflt.length:Int) != 1)=q at*;have tree:=aN8 t.limits ha;rcases bb a with rfl | rfl
 ·rcases bb b with rfl | rfl
  ·rcases bb c with rfl | rfl
   ·simp -implicitDefEqProofs [h1,o1,o2,o3,e0,e1,e2,aC]
   ·simp -implicitDefEqProofs [h1,o1,o2,o3,e0,e1,e2];refine aD.imp (hany _ _) ?_;cases q
    ·simp -implicitDefEqProofs [h1,o1,o2,o3];refine aD.tree tree rfl ?_;simp -implicitDefEqProofs [aC]
    ·simp -implicitDefEqProofs [aC]
  ·rcases bb d with rfl | rfl
   ·simp -implicitDefEqProofs [h1,o1,o2,o3,e0,e1,e3,bne];refine aD.imp (hany _ _) ?_;cases q
    ·simp -implicitDefEqProofs [h1,o1,o2,o3];refine aD.tree tree rfl ?_;simp -implicitDefEqProofs [aC]
    ·simp -implicitDefEqProofs [aC]
   ·rcases bb e with rfl | rfl
    ·simp -implicitDefEqProofs [h1,o1,o2,o3,e0,e1,e3,e4,bne];refine aD.imp (hany _ _) ?_;cases q
     ·simp -implicitDefEqProofs [h1,o1,o2,o3];refine aD.tree tree rfl ?_;simp -implicitDefEqProofs [aC]
     ·simp -implicitDefEqProofs [aC]
    ·simp -implicitDefEqProofs [h1,o1,o2,o3,e0,e1,e3,e4,bne,aC]
 ·simp -implicitDefEqProofs [h1,o1,o2,o3,e0];refine aD.imp (hany _ _) ?_;cases q
  ·simp -implicitDefEqProofs [h1,o1,o2,o3];refine aD.tree tree rfl ?_;simp -implicitDefEqProofs [aC]
  ·simp -implicitDefEqProofs [aC]
attribute [local simp] a9d a9e a9f a9h c180 in
theorem aVQ(t:Ty)(hl:short t.fields)(ha:∀ x∈t.limits,x.args.length≤1000000):PSp prog 180 [.agg (tyC t)] (.one (.t (.bool t.eH))):=by
 refine k180.aI (by simp) (by simp[D.closed,A.closed]) rfl ?_;obtain⟨a,e0⟩:∃ a,(t.kind==11||t.kind==12)=a:=⟨_,rfl⟩;obtain⟨b,e1⟩:∃ b,((t.of.length:Int) != 1)=b:=⟨_,rfl⟩;obtain⟨c,e2⟩:∃ c,(t.kind==3)=c:=⟨_,rfl⟩;obtain⟨d,e3⟩:∃ d,(t.kind==13)=d:=⟨_,rfl⟩;obtain⟨e,e4⟩:∃ e,decide (t.root<1)=e:=⟨_,rfl⟩
 have s1:t.eH=(!((a&&b)||((c||d)&&e))&&(!t.iP&& !(t.fields.any fun f=>f.pres==2&&(f.dflt.length:Int) != 1)&&bC t.limits)):=by
  simp only[Ty.eH,Ty.aC4,e0,e1,e2,e3,e4,Bool.and_assoc]
 rw[s1];have rest:=aFV t hl ha;generalize (!t.iP&& !(t.fields.any fun f=>f.pres==2&&(f.dflt.length:Int) != 1)&&bC t.limits)=R at*;simp -implicitDefEqProofs;refine aD.tree (aPX _) rfl ?_;rw[e0];rcases bb a with rfl | rfl<;>rcases bb b with rfl | rfl<;>rcases bb c with rfl | rfl<;>rcases bb d with rfl | rfl<;>rcases bb e with rfl | rfl
 all_goals simp -implicitDefEqProofs [e1,e2,e3,e4,aC]
 all_goals exact rest _ ⟨by simp,by simp[Hp.set]⟩
end
section
attribute [-simp] Go.Ab.aA Go.Ab.gval
attribute [local simp] bE aM aQ aG aV aO aX tyC fdC vlC ndC
theorem eZ{P:Program}{n:Nat}{A:Exit→St→Prop}{ks:List KF}{st:St}{x:aB}{α σ ρ:Type}(l:List α)(G:Nat→List α→σ→ρ)(R:ρ)(s0:σ)(kt kh:List Nat)(X:Nat→σ→St→Prop)(hs:short l)(hR:G 0 l s0=R)(h0:X 0 s0 st∧dD kt st.tmps st.tmps∧fK kh st.heap st.heap st.nx)
  (round:∀ i y s st',i<l.length→(i:Int)<(l.length:Int)→IntKind.i64.wrap ((i:Int)+1)=((i+1:Nat):Int)→l[i]? =some y→y∈l→G i (y::l.drop (i+1)) s=R→
   X i s st'→dD kt st.tmps st'.tmps→fK kh st.heap st'.heap st'.nx→aZ P n A x (.post (fun st''=>∃ s',G (i+1) (l.drop (i+1)) s'=R∧X (i+1) s' st''∧dD kt st.tmps st''.tmps∧fK kh st.heap st''.heap st''.nx)::ks) st')
  (last:∀ s st',G l.length [] s=R→X l.length s st'→dD kt st.tmps st'.tmps→fK kh st.heap st'.heap st'.nx→aZ P n A x (.post (fun _=>False)::ks) st'):W P n (.loop x) (kont P n A ks) st:=by
 refine W.loop (fun k st'=>∃ i s,k=l.length - i∧i≤l.length∧G i (l.drop i) s=R∧X i s st'∧dD kt st.tmps st'.tmps∧fK kh st.heap st'.heap st'.nx) l.length ⟨0,s0,by omega,by omega,by simpa using hR,h0⟩ ?_;rintro k st' ⟨i,s,rfl,hi,hg,hJ,hT,hH⟩;rcases Nat.lt_or_ge i l.length with h | h
 ·have hy:l[i]? =some l[i]:=gE9 h;rw[List.drop_eq_getElem_cons h]at hg;refine fD (round i _ s st' h (by omega) (oV h hs) hy (gL9 h) hg hJ hT hH) fun st'' ⟨s',hq⟩=>⟨l.length - (i+1),by omega,i+1,s',rfl,by omega,hq⟩
 ·have:i=l.length:=by omega
  subst this;rw[List.drop_length]at hg;exact fD (last s st' hg hJ hT hH) fun st'' h=>h.elim
theorem aL{h:Hp}{i:Nat}{a b:O}:(h.set i a).set i b=h.set i b:=by funext j;simp only[Hp.set];split<;>rfl
attribute [local simp] aL D.cR D.pt
def jC:List ByteArray:=[bs [78,117,109,101,114,105,99,83,116,114,105,110,103],bs [80,114,105,110,116,97,98,108,101,83,116,114,105,110,103],bs [86,105,115,105,98,108,101,83,116,114,105,110,103],bs [73,65,53,83,116,114,105,110,103]]
def gY(s:ByteArray):Bool:=jC.any fun x=>bR s x
def Ty.pY(t:Ty):Int:=
 if t.kind==6 then(if gY t.name then 0 else 7)else if t.kind==15 then(if bF t.name then 0 else 7)
 else if t.kind==14&& !bR t.name (bs [])&& !bF t.name then 7 else if t.fields.any (fun f=> !bF f.name)then 7 else 0
attribute [local simp] b50 b51 b52 b53 b54 b55 c181 in
theorem aVR(t:Ty)(hl:short t.fields)(hn:t.name.size≤9223372036854775807)(hf:∀ f∈t.fields,f.name.size≤9223372036854775807):PSp prog 181 [.agg (tyC t)] (.one (.t (I t.pY))):=by
 refine k181.aI (by simp) (by simp[D.closed,A.closed]) rfl ?_;have hany:=aC3 t.fields hl (fun f=> !bF f.name) 220 (by kernel_rfl) (fun x hx=>aVL x (hf x hx))
 have e0:t.pY=if t.kind==6 then(if gY t.name then 0 else 7)else if t.kind==15 then(if bF t.name then 0 else 7)
  else if t.kind==14&& !bR t.name (bs [])&& !bF t.name then 7 else if t.fields.any (fun f=> !bF f.name)then 7 else 0:=rfl
 rw[e0];generalize (t.fields.any fun f=> !bF f.name)=q at*;have pn:=aNI t.name hn;rcases eqCases t.kind 6 with q6 | q6
 ·simp -implicitDefEqProofs [q6];refine aD.pure (aSB jC t.name (by simp[short,jC])) (by simp) (by simp[jC]) ?_;have e1:(jC.any fun x=>bR t.name x)=gY t.name:=rfl;rw[e1];cases gY t.name
  ·simp -implicitDefEqProofs;refine aD.tree (mX _ _) rfl ?_;simp -implicitDefEqProofs [aC]
  ·simp -implicitDefEqProofs;refine aD.tree (mX _ _) rfl ?_;simp -implicitDefEqProofs [aC]
 ·rcases eqCases t.kind 15 with q15 | q15
  ·simp -implicitDefEqProofs [q15];refine aD.tree pn rfl ?_;cases bF t.name
   ·simp -implicitDefEqProofs;refine aD.tree (mX _ _) rfl ?_;simp -implicitDefEqProofs [aC]
   ·simp -implicitDefEqProofs;refine aD.tree (mX _ _) rfl ?_;simp -implicitDefEqProofs [aC]
  ·rcases eqCases t.kind 14 with q14 | q14
   ·obtain⟨z,hz⟩:∃ z,(t.name.toList==(bs []).toList)=z:=⟨_,rfl⟩;have hz':bR t.name (bs [])=z:=hz;rw[hz'];cases z
    ·simp -implicitDefEqProofs [q14,hz];refine aD.tree pn rfl ?_;cases bF t.name
     ·simp -implicitDefEqProofs [aC]
     ·simp -implicitDefEqProofs;refine aD.imp (hany _ _) ?_;cases q
      ·simp -implicitDefEqProofs;refine aD.tree (mX _ _) rfl ?_;simp -implicitDefEqProofs [aC]
      ·simp -implicitDefEqProofs;refine aD.tree (mX _ _) rfl ?_;simp -implicitDefEqProofs [aC]
    ·simp -implicitDefEqProofs [q14,hz];refine aD.imp (hany _ _) ?_;cases q
     ·simp -implicitDefEqProofs;refine aD.tree (mX _ _) rfl ?_;simp -implicitDefEqProofs [aC]
     ·simp -implicitDefEqProofs;refine aD.tree (mX _ _) rfl ?_;simp -implicitDefEqProofs [aC]
   ·simp -implicitDefEqProofs [q6,q15,q14];refine aD.imp (hany _ _) ?_;cases q
    ·simp -implicitDefEqProofs;refine aD.tree (mX _ _) rfl ?_;simp -implicitDefEqProofs [aC]
    ·simp -implicitDefEqProofs;refine aD.tree (mX _ _) rfl ?_;simp -implicitDefEqProofs [aC]
def dup(k:Int)(f g:Fd):Bool:=bR g.name f.name||(k==3&&g.num==f.num)
def jJ(k:Int)(l:List Fd)(i:Nat):Bool:=match l[i]? with | some f=>(l.take i).any (dup k f) | none=>false
def Ty.lA(t:Ty):Int:=if t.kind==15||t.kind==14 then 0 else if(List.range t.fields.length).any (jJ t.kind t.fields)then 13 else 0
attribute [local simp] a9i a9j a9k a9l a9m a9n a9o a9p a9q c182 in
theorem aKV(t:Ty)(hl:short t.fields)(R:Int)(hR:R=if(List.range t.fields.length).any (jJ t.kind t.fields)then 13 else 0)(st:St)(h1:TB t 1 st)(_hnx:0<st.nx):
  aZ prog 28 (aC [.tmp 2] (.one (.t (I R)))) a9p [] st:=by
 obtain⟨h1,h2⟩:=h1;obtain⟨o1,o2,o3,o4⟩:=aK h2;simp -implicitDefEqProofs [h1,o1,o2,o3];refine bS (List.range t.fields.length) (jJ t.kind t.fields) [1,14,15] [0] (fun i st=>st.tmps 16= .one (.t (I i))) (by simpa[short]using hl) ⟨by simp,by simp,by simp[]⟩ ?_ ?_
 ·intro i y st' hi hiI hw hg hy hany hx hk hh;obtain rfl:=iJ hg;simp[h1]at hk hh;have hi':y<t.fields.length:=by simpa using hi
  have aIJ:(y:Int)<(t.fields.length:Int):=by omega
  have hf:t.fields[y]? =some t.fields[y]:=gE9 hi';have hd:jJ t.kind t.fields y=(t.fields.take y).any (dup t.kind t.fields[y]):=by simp[jJ,hf]
  rw[hd]at hany ⊢;generalize t.fields[y]=f at*;have hne:¬ 0=st'.nx+1+3:=by omega
  obtain⟨o1,o2,o3,o4⟩:=aK (hh.1.trans h2);simp -implicitDefEqProofs [h1,hx,hk,aIJ,hi',aE hf,Fd.aP,o1,o2,o3,-List.getElem_map];have hle:y≤t.fields.length:=by omega
  obtain⟨fo,hfo⟩:∃ fo,fo=st'.nx+1+3:=⟨_,rfl⟩;rw[←hfo]at hne ⊢;refine⟨hle,?_⟩;have hr:(T.rows 13 (List.take y (List.map Fd.row t.fields)))=aM (t.fields.take y):=by simp[List.map_take]
  have hlook:∀ x∈t.fields.take y,Look 221 (st'.heap.set fo (.arr 0 false 13 [fdC f])) [.agg (fdC x),.one (.ptr ⟨fo,0,13,0,0⟩),.one (.ptr ⟨0,0,8,0,0⟩)] (.one (.t (.bool (dup t.kind f x)))):=fun x _=>
   aVM t f x _ fo 0 (by simp[Hp.set]) (by simp only[Hp.set];rw[if_neg hne];exact hh.1.trans h2)
  have hc:=aHF (t.fields.take y) (by simp[short]at hl ⊢;omega) (dup t.kind f) 221 [⟨fo,0,13,0,0⟩,⟨0,0,8,0,0⟩] (by kernel_rfl) _ hlook;simp only[fdC,bE,aM,aQ,aG,aV]at hc;rw[List.map_take]at hc;refine aD.imp (hc _) ?_;cases hb:(t.fields.take y).any (dup t.kind f)with
  | true=>
   simp -implicitDefEqProofs [aC];rw[hR,if_pos (hany hb)]
  | false=>
   simp -implicitDefEqProofs [hx,hk,hw];refine⟨by simpa using hb,?_⟩;simp only[Hp.set];rw[if_neg hne];exact hh.1
 ·intro st' hany hx hk hh;simp[h1]at hk hh hx;simp -implicitDefEqProofs [hx,hk,aC];rw[hR,hany];rfl
attribute [local simp] a9i a9j a9k a9l a9m a9n a9o a9q c182 in
theorem aVS(t:Ty)(hl:short t.fields):PSp prog 182 [.agg (tyC t)] (.one (.t (I t.lA))):=by
 refine k182.aI (by simp) (by simp[D.closed,A.closed]) rfl ?_;have rest:=aKV t hl _ rfl;have e0:t.lA=if t.kind==15||t.kind==14 then 0 else if(List.range t.fields.length).any (jJ t.kind t.fields)then 13 else 0:=rfl
 rw[e0];generalize (if(List.range t.fields.length).any (jJ t.kind t.fields)then(13:Int)else 0)=R at*;rcases eqCases t.kind 15 with q | q
 ·simp -implicitDefEqProofs [q,aC]
 ·rcases eqCases t.kind 14 with q' | q'
  ·simp -implicitDefEqProofs [q',aC]
  ·simp -implicitDefEqProofs [q,q'];exact rest _ ⟨by simp,by simp[Hp.set]⟩ (by simp)
def eP(root:Int):Nat→List Fd→Int×Int→Bool
 | _,[],_=>true
 | i,f::r,(last,before)=>if f.grp==0||(decide ((i:Int)≥root)&&(f.grp==IntKind.i64.wrap (last+1)||(f.grp==last&&before==last)))then eP root (i+1) r (if last<f.grp then f.grp else last,f.grp)else false
attribute [local simp] b56 b57 b58 b59 b6a b6b b6c b6d b6e c185 in
theorem aVT(t:Ty)(hl:short t.fields):PSp prog 185 [.agg (tyC t)] (.one (.t (.bool (eP t.root 0 t.fields (0,0))))):=by
 refine k185.aI (by simp) (by simp[D.closed,A.closed]) rfl ?_;simp -implicitDefEqProofs;refine eZ t.fields (eP t.root) _ (0,0) [1,9,10] [0] (fun i s st=>st.tmps 11= .one (.t (I i))∧st.tmps 3= .one (.t (I s.1))∧st.tmps 4= .one (.t (I s.2))) hl rfl ⟨by simp,by simp,by simp[Hp.set]⟩ ?_ ?_
 ·rintro i f ⟨last,before⟩ st hi hiI hw hg hy hR ⟨h11,h3,h4⟩ hk hh;simp[Hp.set]at hk hh h3 h4;have hne:¬ 0=st.nx+1+3:=by omega
  obtain⟨o1,o2,o3,o4⟩:=aK hh.1;generalize eP t.root 0 t.fields (0,0)=R at*;obtain⟨b0,e0⟩:∃ b,(f.grp==0)=b:=⟨_,rfl⟩;obtain⟨b1,e1⟩:∃ b,decide ((i:Int)≥t.root)=b:=⟨_,rfl⟩;obtain⟨b2,e2⟩:∃ b,(f.grp==IntKind.i64.wrap (last+1))=b:=⟨_,rfl⟩;obtain⟨b3,e3⟩:∃ b,(f.grp==last)=b:=⟨_,rfl⟩;obtain⟨b4,e4⟩:∃ b,(before==last)=b:=⟨_,rfl⟩;have e1':decide (t.root≤(i:Int))=b1:=e1;simp only[eP,e0,e1,e2,e3,e4]at hR;rcases bb b0 with rfl | rfl
  ·simp at hR;simp -implicitDefEqProofs [hk,h11,h3,h4,hiI,hi,aE hg,Fd.aP,o1,o2,o3,e0,e1,e2,e3,e4,-List.getElem_map];exact⟨_,_,hR,⟨by simpa using hw,rfl,rfl⟩,by simp[Hp.set,hh.1]⟩
  ·rcases bb b1 with rfl | rfl
   ·rcases bb b2 with rfl | rfl
    ·simp at hR;simp -implicitDefEqProofs [hk,h11,h3,h4,hiI,hi,aE hg,Fd.aP,o1,o2,o3,e0,e1,e2,e3,e4,-List.getElem_map];exact⟨_,_,hR,⟨by simpa using hw,rfl,rfl⟩,by simp[Hp.set,hh.1]⟩
    ·rcases bb b3 with rfl | rfl
     ·rcases bb b4 with rfl | rfl
      ·simp at hR;simp -implicitDefEqProofs [hk,h11,h3,h4,hiI,hi,aE hg,Fd.aP,o1,o2,o3,e0,e1,e2,e3,e4,-List.getElem_map];exact⟨_,_,hR,⟨by simpa using hw,rfl,rfl⟩,by simp[Hp.set,hh.1]⟩
      ·simp at hR;simp -implicitDefEqProofs [hk,h11,h3,h4,hiI,hi,aE hg,Fd.aP,o1,o2,o3,e0,e1,e2,e3,e4,-List.getElem_map,aC];exact hR
     ·simp at hR;simp -implicitDefEqProofs [hk,h11,h3,h4,hiI,hi,aE hg,Fd.aP,o1,o2,o3,e0,e1,e2,e3,e4,-List.getElem_map,aC];exact hR
   ·simp at hR;simp -implicitDefEqProofs [hk,h11,h3,h4,hiI,hi,aE hg,Fd.aP,o1,o2,o3,e0,e1,e2,e3,e4,-List.getElem_map,aC];exact hR
 ·rintro⟨last,before⟩ st hR ⟨h11,h3,h4⟩ hk hh;simp[Hp.set]at hk hh h3 h4;simp only[eP]at hR;rw[←hR];simp -implicitDefEqProofs [hk,h11,aC]
end
section
attribute [-simp] Go.Ab.aA Go.Ab.gval
attribute [local simp] bE aM aQ aG aV aO aX tyC fdC vlC ndC aL D.cR D.pt
def cM(k:Int):Bool:=k==9||k==10||k==13
def mZ(k:Int):Bool:=k==11||k==12
def isNum(n:Int):Bool:=decide (-1152921504606846976≤n)&&decide (n≤1152921504606846976)
def Ty.aDN(t:Ty):Bool:=t.fields.any (fun f=> !f.fits t.kind)||(t.fields.take t.root.toNat).any fun f=>f.grp != 0
def fL(a b c d e o p q:Bool):Bool:=(!a&& !b)||(!c&&d)||(!e&&(o||p))||(e&& !o&&q)
def Ty.bM(t:Ty):Bool:=
 fL (t.kind==6||t.kind==14||t.kind==15) (bR t.name (bs [])) (cM t.kind||t.kind==3||t.kind==14||t.kind==15) (decide (0<t.fields.length)) (cM t.kind||t.kind==3) t.opn (t.root != 0) (t.root != (t.fields.length:Int))||
  (!mZ t.kind&&decide (0<t.of.length))||(!iC t.kind&&decide (0<t.limits.length))||t.aDN
def Ty.lB(t:Ty):Int:=bZ [if !cM t.kind||eP t.root 0 t.fields (0,0)then 0 else 14,if t.kind != 3|| !(t.fields.any fun f=> !isNum f.num)then 0 else 3]
def Ty.dK(t:Ty):Int:=bZ [if t.eH then 0 else 6,t.pY,t.lA]
def Ty.dR(t:Ty):Int:=if t.bM then 5 else if t.dK != 0 then t.dK else t.lB
attribute [local simp] a5V a5W a5X a4F a5Y a5Z a50 a52 a55 c147 in
theorem aNK(t:Ty)(R:Int)(a c e:Bool)(st:St)(h1:TB t 1 st)(h3:st.tmps 3= .one (.t (.bool a)))(h4:st.tmps 4= .one (.t (.bool e)))(h5:st.tmps 5= .one (.t (.bool c)))(w:Bool)(h6:st.tmps 6= .one (.t (.bool w)))
  (hR:(fL a (bR t.name (bs [])) c (decide (0<t.fields.length)) e t.opn (t.root != 0) (t.root != (t.fields.length:Int))||(!mZ t.kind&&decide (0<t.of.length))||(!iC t.kind&&decide (0<t.limits.length))||w)=true→R=5)
  (rest:(fL a (bR t.name (bs [])) c (decide (0<t.fields.length)) e t.opn (t.root != 0) (t.root != (t.fields.length:Int))||(!mZ t.kind&&decide (0<t.of.length))||(!iC t.kind&&decide (0<t.limits.length))||w)=false→∀st:St,TB t 1 st→aZ prog 165 (aC [.tmp 2] (.one (.t (I R)))) a4E [] st):
  aZ prog 165 (aC [.tmp 2] (.one (.t (I R)))) a4F [] st:=by
 obtain⟨h1,h2⟩:=h1;obtain⟨o1,o2,o3,o4⟩:=aK h2;obtain⟨b,e0⟩:∃ b,(t.name.toList==(bs []).toList)=b:=⟨_,rfl⟩;obtain⟨d,e1⟩:∃ b,decide (0<t.fields.length)=b:=⟨_,rfl⟩;obtain⟨p,e2⟩:∃ b,(t.root==0)=b:=⟨_,rfl⟩;obtain⟨q,e3⟩:∃ b,(t.root==(t.fields.length:Int))=b:=⟨_,rfl⟩;obtain⟨m,e4⟩:∃ b,decide (0<t.of.length)=b:=⟨_,rfl⟩;obtain⟨v,e5⟩:∃ b,decide (0<t.limits.length)=b:=⟨_,rfl⟩;have e0':bR t.name (bs [])=b:=e0;simp only[e0',e1,bne,e2,e3,e4,e5]at hR rest;obtain⟨x1,f1⟩:∃ x,(!a&& !b)=x:=⟨_,rfl⟩;obtain⟨x2,f2⟩:∃ x,(!c&&d)=x:=⟨_,rfl⟩;obtain⟨y2,f3⟩:∃ x,(x1||x2)=x:=⟨_,rfl⟩;obtain⟨x3,f4⟩:∃ x,(t.opn|| !p)=x:=⟨_,rfl⟩;obtain⟨x4,f5⟩:∃ x,(!e&&x3)=x:=⟨_,rfl⟩;obtain⟨y3,f6⟩:∃ x,(y2||x4)=x:=⟨_,rfl⟩;obtain⟨x5,f7⟩:∃ x,(e&& !t.opn)=x:=⟨_,rfl⟩;obtain⟨x6,f8⟩:∃ x,(x5&& !q)=x:=⟨_,rfl⟩;obtain⟨y4,f9⟩:∃ x,(y3||x6)=x:=⟨_,rfl⟩;have ef:fL a b c d e t.opn (!p) (!q)=y4:=by simp only[fL,f1,f2,f4,f5,f7,f8,f3,f6,f9]
 rw[ef]at hR rest;simp -implicitDefEqProofs [h1,h3,h4,h5,h6,o1,o2,o3,e0,e1,e2,e3,e4,e5,bne,f1,f2,f3,f4,f5,f6,f7,f8,f9,-Bool.not_or,-Bool.not_and];have iv1:mZ t.kind=(t.kind==11||t.kind==12):=rfl;refine⟨fun h=>by simp[h],fun h h'=>by simp[h,h'],fun h=>by simp[h],fun h=>by simp[h],fun h=>by simp[h],?_⟩;have fin:∀ z,(z||w)=true→R=5→True:=fun _ _ _=>trivial
 rcases bb y4 with rfl | rfl
 ·have:=hR (by simp);subst this;simp -implicitDefEqProofs [aC]
 ·simp -implicitDefEqProofs;refine aD.tree (aPX _) rfl ?_;rw[←iv1];obtain⟨l,g1⟩:∃ l,mZ t.kind=l:=⟨_,rfl⟩;rw[g1]at hR rest ⊢;have step:∀ st:St,(!l&&m)=false→True:=fun _ _=>trivial
  rcases bb l with rfl | rfl
  ·simp -implicitDefEqProofs [h1,h6,o1,o2,o3];refine aD.tree (aSC _) rfl ?_;rcases bb (iC t.kind)with g2 | g2
   ·rw[g2]at hR rest ⊢;cases w
    ·simp -implicitDefEqProofs [h6];exact rest (by simp) _ ⟨by simp[h1],by simp[h2]⟩
    ·have:=hR (by simp);subst this;simp -implicitDefEqProofs [h6,aC]
   ·rw[g2]at hR rest ⊢;cases v
    ·cases w
     ·simp -implicitDefEqProofs [h1,h6,o1,o2,o3,e5];exact rest (by simp) _ ⟨by simp[h1],by simp[h2]⟩
     ·have:=hR (by simp);subst this;simp -implicitDefEqProofs [h1,h6,o1,o2,o3,e5,aC]
    ·have:=hR (by simp);subst this;simp -implicitDefEqProofs [h1,h6,o1,o2,o3,e5,aC]
  ·cases m
   ·simp -implicitDefEqProofs [h1,h6,o1,o2,o3,e4];refine aD.tree (aSC _) rfl ?_;rcases bb (iC t.kind)with g2 | g2
    ·rw[g2]at hR rest ⊢;cases w
     ·simp -implicitDefEqProofs [h6];exact rest (by simp) _ ⟨by simp[h1],by simp[h2]⟩
     ·have:=hR (by simp);subst this;simp -implicitDefEqProofs [h6,aC]
    ·rw[g2]at hR rest ⊢;cases v
     ·cases w
      ·simp -implicitDefEqProofs [h1,h6,o1,o2,o3,e5];exact rest (by simp) _ ⟨by simp[h1],by simp[h2]⟩
      ·have:=hR (by simp);subst this;simp -implicitDefEqProofs [h1,h6,o1,o2,o3,e5,aC]
     ·have:=hR (by simp);subst this;simp -implicitDefEqProofs [h1,h6,o1,o2,o3,e5,aC]
   ·have:=hR (by simp);subst this;simp -implicitDefEqProofs [h1,o1,o2,o3,e4,aC]
attribute [local simp] a5V a5W a5X a4E a4F a5Y a5Z a50 a52 a55 c147 in
theorem aNL(t:Ty)(hl:short t.fields)(ha:∀ x∈t.limits,x.args.length≤1000000)(hn:t.name.size≤9223372036854775807)(hf:∀ f∈t.fields,f.name.size≤9223372036854775807)(st:St)(h1:TB t 1 st):
  aZ prog 165 (aC [.tmp 2] (.one (.t (I (if t.dK != 0 then t.dK else t.lB))))) a4E [] st:=by
 obtain⟨h1,h2⟩:=h1;obtain⟨o1,o2,o3,o4⟩:=aK h2;simp -implicitDefEqProofs [h1,o1,o2,o3];refine aD.bN (aVQ t hl ha) rfl ?_;simp -implicitDefEqProofs;refine aD.bN (mX _ _) rfl ?_;simp -implicitDefEqProofs [h1,o1,o2,o3];refine aD.bN (aVR t hl hn hf) rfl ?_;simp -implicitDefEqProofs [h1,o1,o2,o3];refine aD.bN (aVS t hl) rfl ?_;simp -implicitDefEqProofs;have e1:t.dK=bZ [if t.eH then 0 else 6,t.pY,t.lA]:=rfl;have e2:t.lB=bZ [if !cM t.kind||eP t.root 0 t.fields (0,0)then 0 else 14,if t.kind != 3|| !(t.fields.any fun f=> !isNum f.num)then 0 else 3]:=rfl;refine aD.draw (aSD [if t.eH then 0 else 6,t.pY,t.lA] (by simp[short])) (by simp) (by simp) (.inl rfl) ?_;rw[←e1];generalize t.dK=r1 at*;rcases eqCases r1 0 with q0 | q0
 ·have hany:=aC3 t.fields hl (fun f=> !isNum f.num) 183 (by kernel_rfl) (fun x hx=>aVJ x);rw[q0];have ig:cM t.kind=(t.kind==9||t.kind==10||t.kind==13):=rfl;have aVU:=aVT t hl;generalize eP t.root 0 t.fields (0,0)=gr at*;generalize (t.fields.any fun f=> !isNum f.num)=q at*;have fin:∀ a b:Int,PSp prog 179 [.one (.t (aX [a,b]))] (.one (.t (I (bZ [a,b])))):=fun a b=>aSD [a,b] (by simp[short])
  rcases eqCases t.kind 3 with q3 | q3
  ·rw[ig,q3]at e2;simp -implicitDefEqProofs [h1,o1,o2,o3,q3];refine aD.imp (hany _ _) ?_;simp -implicitDefEqProofs [h1,o1,o2,o3,q3];refine aD.tree (aFR _) rfl ?_;simp -implicitDefEqProofs;refine aD.tree (mX _ _) rfl ?_;simp -implicitDefEqProofs;refine aD.tree (mX _ _) rfl ?_;simp -implicitDefEqProofs;refine aD.pure (fin 0 (if q then 3 else 0)) (by simp) (by cases q<;>simp) ?_;simp -implicitDefEqProofs [aC,e2];cases q<;>simp
  ·have h3:(t.kind != 3)=true:=q3.2.2.2.2.1;rw[h3,Bool.true_or]at e2;simp -implicitDefEqProofs [h1,o1,o2,o3,q3];refine aD.tree (aFR _) rfl ?_;rw[←ig];obtain⟨g,hg⟩:∃ g,cM t.kind=g:=⟨_,rfl⟩;rw[hg]at e2 ⊢;cases g
   ·simp -implicitDefEqProofs;refine aD.tree (mX _ _) rfl ?_;simp -implicitDefEqProofs;refine aD.tree (mX _ _) rfl ?_;simp -implicitDefEqProofs;refine aD.pure (fin 0 0) (by simp) (by simp) ?_;simp -implicitDefEqProofs [aC,e2]
   ·simp -implicitDefEqProofs [h1,o1,o2,o3];refine aD.tree aVU rfl ?_;simp -implicitDefEqProofs;refine aD.tree (mX _ _) rfl ?_;simp -implicitDefEqProofs;refine aD.tree (mX _ _) rfl ?_;simp -implicitDefEqProofs;refine aD.pure (fin (if gr then 0 else 14) 0) (by simp) (by simp) ?_;simp -implicitDefEqProofs [aC,e2]
 ·simp -implicitDefEqProofs [q0,aC]
attribute [local simp] a5V a5W a5X a4E a5Y a5Z a50 a52 a55 c147 in
theorem aVV(t:Ty)(hl:short t.fields)(ha:∀ x∈t.limits,x.args.length≤1000000)(hn:t.name.size≤9223372036854775807)(hf:∀ f∈t.fields,f.name.size≤9223372036854775807)(hr0:0≤t.root)(hr1:t.root≤t.fields.length):
  PSp prog 147 [.agg (tyC t)] (.one (.t (I t.dR))):=by
 refine k147.aI (by simp) (by simp[D.closed,A.closed]) rfl ?_;have e0:t.dR=if t.bM then 5 else(if t.dK != 0 then t.dK else t.lB):=rfl
 have r17:=aNK t t.dR (t.kind==6||t.kind==14||t.kind==15) (cM t.kind||t.kind==3||t.kind==14||t.kind==15) (cM t.kind||t.kind==3);have r16:=aNL t hl ha hn hf;have ig:cM t.kind=(t.kind==9||t.kind==10||t.kind==13):=rfl;obtain⟨a,ea⟩:∃ x,(t.kind==6||t.kind==14||t.kind==15)=x:=⟨_,rfl⟩;obtain⟨g,eg⟩:∃ x,cM t.kind=x:=⟨_,rfl⟩;obtain⟨e,ee⟩:∃ x,(g||t.kind==3)=x:=⟨_,rfl⟩;obtain⟨e',ee'⟩:∃ x,(e||t.kind==14)=x:=⟨_,rfl⟩;obtain⟨c,ec⟩:∃ x,(e'||t.kind==15)=x:=⟨_,rfl⟩;rw[ea,eg,ee,ee',ec]at r17;have ebad:t.aDN=(t.fields.any (fun f=> !f.fits t.kind)||(t.fields.take t.root.toNat).any fun f=>f.grp != 0):=rfl
 have eform:t.bM=(fL a (bR t.name (bs [])) c (decide (0<t.fields.length)) e t.opn (t.root != 0) (t.root != (t.fields.length:Int))||(!mZ t.kind&&decide (0<t.of.length))||(!iC t.kind&&decide (0<t.limits.length))||t.aDN):=by
  simp only[Ty.bM,ea,eg,ee,ee',ec]
 have go:∀ st:St,TB t 1 st→st.tmps 3= .one (.t (.bool a))→st.tmps 4= .one (.t (.bool e))→st.tmps 5= .one (.t (.bool c))→st.tmps 6= .one (.t (.bool t.aDN))→aZ prog 165 (aC [.tmp 2] (.one (.t (I t.dR)))) a4F [] st:=fun st k1 k3 k4 k5 k6=>
  r17 st k1 k3 k4 k5 _ k6 (fun h=>by rw[←eform]at h;rw[e0,if_pos h]) fun h st' k=>by rw[←eform]at h;rw[e0,h];exact r16 st' k
 simp -implicitDefEqProofs [ea];refine aD.tree (aFR _) rfl ?_;rw[←ig,eg];simp -implicitDefEqProofs [ee,ee',ec,-Bool.not_or];have hb:(jM.set 0 (O.arr 0 false 8 [tyC t])) 0=some (O.arr 0 false 8 [tyC t]):=by simp[Hp.set]
 have hc:=aHF t.fields hl (fun f=> !f.fits t.kind) 174 [⟨0,0,8,0,0⟩] (by kernel_rfl) _ fun x hx=>aVH t x _ 0 hb
 simp only[tyC,bE,aM,aQ,aG]at hc;refine aD.imp (hc _) ?_;generalize (t.fields.any fun f=> !f.fits t.kind)=b1 at*;cases b1
 ·obtain⟨rn,hrn⟩:∃ n:Nat,t.root=(n:Int):=⟨t.root.toNat,by omega⟩;have h5:¬ ((t.fields.length:Int)<(rn:Int)):=by omega
  have h6:rn≤t.fields.length:=by omega
  have h7:t.root.toNat=rn:=by omega
  simp -implicitDefEqProofs [hrn,h5,h6];have hany:=aC3 (t.fields.take rn) (by simp[short]at hl ⊢;omega) (fun f=>f.grp != 0) 176 (by kernel_rfl) (fun x hx=>aVI x);rw[h7]at ebad;simp only[aM,List.map_take]at hany;refine aD.imp (hany _ _) ?_;simp -implicitDefEqProofs;exact go _ ⟨by simp,by simp[Hp.set,hrn]⟩ (by simp) (by simp) (by simp) (by simp[ebad])
 ·simp -implicitDefEqProofs;exact go _ ⟨by simp,by simp[Hp.set]⟩ (by simp) (by simp) (by simp) (by simp[ebad])
end
section
attribute [-simp] Go.Ab.aA Go.Ab.gval
attribute [local simp] bE aM aQ aG aV aO aX tyC fdC vlC ndC aL D.cR D.pt
def kD(a b:Int):Int:=if a<b then -1 else if a>b then 1 else 0
def fC(a b:ByteArray):Int:=if Op.bytesLess a.toList b.toList then -1 else if !(Op.bytesLess a.toList b.toList||a.toList==b.toList)then 1 else 0
def bV:List ByteArray→List ByteArray→Int
 | [],[]=>0
 | [],_::_=> -1
 | _::_,[]=>1
 | x::xs,y::ys=>if fC x y != 0 then fC x y else bV xs ys
mutual
def Vl.cmp:Vl→Vl→Int
 | .mk k n e s ns is,b=>bZ [kD k b.kind,kD n b.n,kD e b.e,Lib.compareBytes s.data.toList b.s.data.toList,bV ns b.names,bU is b.items]
def bU:List Vl→List Vl→Int
 | [],[]=>0
 | [],_::_=> -1
 | _::_,[]=>1
 | x::xs,y::ys=>if x.cmp y != 0 then x.cmp y else bU xs ys
end
attribute [local simp] c294 in
theorem aSE(s:ByteArray):PSp prog 294 [.one (.t (.str s))] (.one (.t (.bool false))):=by
 refine k294.aI (by simp) rfl rfl ?_;simp -implicitDefEqProofs [aC]
attribute [local simp] c268 in
theorem aQ2(a b:Int):PSp prog 268 [.one (.t (I a)),.one (.t (I b))] (.one (.t (I (kD a b)))):=by
 refine k268.aI (by simp) rfl rfl ?_;simp -implicitDefEqProofs;refine aD.tree (aRY _) rfl ?_;simp -implicitDefEqProofs;refine aD.tree (aRY _) rfl ?_;simp -implicitDefEqProofs;refine⟨fun h=>?_,fun h=>⟨fun h'=>?_,fun h'=>?_⟩⟩
 ·simp -implicitDefEqProofs [aC,kD,h]
 ·simp -implicitDefEqProofs [aC,kD,h'];omega
 ·have:a=b:=by omega
  subst this;simp -implicitDefEqProofs [aC,kD]
attribute [local simp] c286 in
theorem aVW(a b:ByteArray):PSp prog 286 [.one (.t (.str a)),.one (.t (.str b))] (.one (.t (I (fC a b)))):=by
 refine k286.aI (by simp) rfl rfl ?_;obtain⟨x,hx⟩:∃ x,Op.bytesLess a.toList b.toList=x:=⟨_,rfl⟩;obtain⟨y,hy⟩:∃ x,(a.toList==b.toList)=x:=⟨_,rfl⟩;simp -implicitDefEqProofs;refine aD.tree (aSE _) rfl ?_;simp -implicitDefEqProofs;refine aD.tree (aSE _) rfl ?_;cases x
 ·cases y
  ·simp -implicitDefEqProofs [hx,hy,aC,fC]
  ·simp -implicitDefEqProofs [hx,hy,aC,fC]
 ·simp -implicitDefEqProofs [hx,aC,fC]
attribute [local simp] b7t b7u b7v b7w b7x b7y b7z b7A c267 in
theorem aVX(l:List Int)(hl:short l):PSp prog 267 [.one (.t (aX l))] (.one (.t (I (bZ l)))):=by
 refine k267.aI (by simp) rfl rfl ?_;simp -implicitDefEqProofs;refine wW l ne0 [3,6,7] [] (fun i st=>st.tmps 8= .one (.t (I i))) hl ⟨by simp,by simp,by simp⟩ ?_ ?_
 ·intro i y st hi hiI hw hg hy hany hx hk hh;simp at hk;rcases eqCases y 0 with e | e
  ·simp -implicitDefEqProofs [hx,hk,hiI,hi,aE hg,hw,e,ne0]
  ·simp -implicitDefEqProofs [hx,hk,hiI,hi,aE hg,e,aC];simp[bZ,hany y (by simp[e,ne0])]
 ·intro st hany hx hk hh;simp at hk;simp -implicitDefEqProofs [hx,hk,aC,bZ,hany]
attribute [local simp] b7B b7C b7D b7E b7F b7G b7H b7I b7J b7K b7L b7M b7N c270 in
theorem aVY(a b:List ByteArray)(ha:short a)(_hb:short b):PSp prog 270 [.one (.t (aO a)),.one (.t (aO b))] (.one (.t (I (bV a b)))):=by
 refine k270.aI (by simp) rfl rfl ?_;simp -implicitDefEqProofs;refine eZ a (fun i r (_:Unit)=>bV r (b.drop i)) (bV a b) () [0,1,9,10] [] (fun i _ st=>st.tmps 11= .one (.t (I i))) ha (by simp) ⟨by simp,by simp,by simp⟩ ?_ ?_
 ·intro i y _ st hi hiI hw hg hy hR hx hk hh;simp at hk;generalize bV a b=R at*;rcases Nat.lt_or_ge i b.length with h | h
  ·have hg2:b[i]? =some b[i]:=gE9 h;rw[List.drop_eq_getElem_cons h,bV]at hR;generalize b[i]=z at*;have h':¬ ((b.length:Int)≤(i:Int)):=by omega
   have h'':(i:Int)<(b.length:Int):=by omega
   simp -implicitDefEqProofs [hx,hk,hiI,hi,aE hg,aE hg2,h',h'',h];refine aD.tree (aVW _ _) rfl ?_;rcases eqCases (fC y z) 0 with e | e
   ·rw[e]at hR ⊢;simp at hR;simp -implicitDefEqProofs [hx,hk,hw];exact hR
   ·simp -implicitDefEqProofs [e,aC];simpa[e]using hR
  ·rw[List.drop_eq_nil_of_le h,bV]at hR;have h':(b.length:Int)≤(i:Int):=by omega
   simp -implicitDefEqProofs [hx,hk,hiI,hi,aE hg,h',aC,hR]
 ·intro _ st hR hx hk hh;simp at hk;generalize bV a b=R at*;rcases Nat.lt_or_ge a.length b.length with h | h
  ·rw[List.drop_eq_getElem_cons h,bV]at hR;have h':(a.length:Int)<(b.length:Int):=by omega
   simp -implicitDefEqProofs [hx,hk,h,aC,hR]
  ·rw[List.drop_eq_nil_of_le h,bV]at hR;have h':¬ a.length<b.length:=by omega
   simp -implicitDefEqProofs [hx,hk,h',aC,hR]
theorem sI{h:Hp}{i:Nat}{o:O}:(h.set i o) i=some o:=by simp[Hp.set]
theorem nV{h:Hp}{i j:Nat}{o:O}(e:¬ j=i):(h.set i o) j=h j:=by simp[Hp.set,e]
attribute [local simp] b7O b7P b7Q b7R b7S b7T b7U b7V b7W b7X b7Y b7Z b70 c271 in
theorem aVZ(a b:List Vl)(ha:short a)(_hb:short b)(IH:∀ x∈a,∀y∈b,PSp prog 230 [.agg (vlC x),.agg (vlC y)] (.one (.t (I (x.cmp y))))):PSp prog 271 [.one (.t (aV a)),.one (.t (aV b)),.one (.fn 230 [])] (.one (.t (I (bU a b)))):=by
 refine k271.aI (by simp) (by simp[D.closed,A.closed]) rfl ?_;simp -implicitDefEqProofs;refine eZ a (fun i r (_:Unit)=>bU r (b.drop i)) (bU a b) () [0,1,2,11,12] [] (fun i _ st=>st.tmps 13= .one (.t (I i))) ha (by simp) ⟨by simp,by simp,by simp⟩ ?_ ?_
 ·intro i y _ st hi hiI hw hg hy hR hx hk hh;simp at hk;generalize bU a b=R at*;rcases Nat.lt_or_ge i b.length with h | h
  ·have hg2:b[i]? =some b[i]:=gE9 h;have hz:b[i]∈b:=gL9 h;rw[List.drop_eq_getElem_cons h,bU]at hR;generalize b[i]=z at*;have h':¬ ((b.length:Int)≤(i:Int)):=by omega
   have h'':(i:Int)<(b.length:Int):=by omega
   simp -implicitDefEqProofs [hx,hk,hiI,hi,aE hg,aE hg2,h',h'',h,Vl.aP,-List.getElem_map];refine⟨230,[],⟨rfl,rfl⟩,by kernel_rfl,?_⟩;refine aD.tree (IH y hy z hz) rfl ?_;rcases eqCases (y.cmp z) 0 with e | e
   ·rw[e]at hR ⊢;simp at hR;simp -implicitDefEqProofs [hx,hk,hw];exact hR
   ·simp -implicitDefEqProofs [e,aC];simpa[e]using hR
  ·rw[List.drop_eq_nil_of_le h,bU]at hR;have h':(b.length:Int)≤(i:Int):=by omega
   simp -implicitDefEqProofs [hx,hk,hiI,hi,aE hg,h',aC,hR,Vl.aP,-List.getElem_map]
 ·intro _ st hR hx hk hh;simp at hk;generalize bU a b=R at*;rcases Nat.lt_or_ge a.length b.length with h | h
  ·rw[List.drop_eq_getElem_cons h,bU]at hR;have h':(a.length:Int)<(b.length:Int):=by omega
   simp -implicitDefEqProofs [hx,hk,h,aC,hR]
  ·rw[List.drop_eq_nil_of_le h,bU]at hR;have h':¬ a.length<b.length:=by omega
   simp -implicitDefEqProofs [hx,hk,h',aC,hR]
theorem Vl.cmp_eq(a b:Vl):a.cmp b=bZ [kD a.kind b.kind,kD a.n b.n,kD a.e b.e,Lib.compareBytes a.s.data.toList b.s.data.toList,bV a.names b.names,bU a.items b.items]:=by
 cases a;rw[Vl.cmp];rfl
attribute [local simp] c230 in
theorem aNM(a b:Vl)(ha:a.fine)(hb:b.fine)(IH:∀ x∈a.items,∀y∈b.items,PSp prog 230 [.agg (vlC x),.agg (vlC y)] (.one (.t (I (x.cmp y))))):PSp prog 230 [.agg (vlC a),.agg (vlC b)] (.one (.t (I (a.cmp b)))):=by
 rw[Vl.cmp_eq];rw[Vl.bG]at ha hb;refine k230.aI (by simp) (by simp[D.closed,A.closed]) rfl ?_;have aW0:=aVZ a.items b.items ha.2.2.2.1 hb.2.2.2.1 IH;have aW1:=aVY a.names b.names ha.2.1 hb.2.1;simp -implicitDefEqProofs;refine aD.bN (aQ2 _ _) rfl ?_;simp -implicitDefEqProofs;refine aD.bN (aQ2 _ _) rfl ?_;simp -implicitDefEqProofs;refine aD.bN (aQ2 _ _) rfl ?_;simp -implicitDefEqProofs;refine aD.bN (aKQ _ _) rfl ?_;simp -implicitDefEqProofs;refine aD.bN aW1 rfl ?_;simp -implicitDefEqProofs;refine aD.draw aW0 (by simp) (by simp) (.inl rfl) ?_;simp -implicitDefEqProofs;refine aD.draw (aVX [kD a.kind b.kind,kD a.n b.n,kD a.e b.e,Lib.compareBytes a.s.data.toList b.s.data.toList,bV a.names b.names,bU a.items b.items] (by simp[short])) (by simp) (by simp) (.inl rfl) ?_;simp -implicitDefEqProofs [aC]
theorem aW2:∀ a:Vl,a.fine→∀b:Vl,b.fine→PSp prog 230 [.agg (vlC a),.agg (vlC b)] (.one (.t (I (a.cmp b)))):=by
 refine Vl.ind fun a IH ha b hb=>aNM a b ha hb fun x hx y hy=>?_
 rw[Vl.bG]at ha hb;exact IH x hx (ha.2.2.2.2 x hx) y (hb.2.2.2.2 y hy)
def lL(l:List Vl)(j:Nat):Bool:=match l[l.length - 1 - j]?,l[l.length - 2 - j]? with | some y,some x=>decide (y.cmp x<0) | _,_=>false
attribute [local simp] b7h c229 in
theorem aW3(l:List Vl)(hl:short l)(hf:∀ x∈l,x.fine):PSp prog 229 [.one (.t (aV l)),.one (.fn 230 [])] (.one (.t (.bool (!(List.range (l.length - 1)).any (lL l))))):=by
 refine k229.aI (by simp) (by simp[D.closed,A.closed]) rfl ?_;have hw0:IntKind.i64.wrap ((l.length:Int) - 1)=(l.length:Int) - 1:=wrap_i64 (by omega) (by simp[short]at hl;omega);simp -implicitDefEqProofs [hw0];refine bS (List.range (l.length - 1)) (lL l) [0,1] [] (fun i st=>st.tmps 5= .one (.t (I ((l.length:Int) - 1 - i)))) (by simp[short]at hl ⊢;omega) ⟨by simp,by simp,by simp⟩ ?_ ?_
 ·intro i y st hi hiI hw hg hy hany hx hk hh;obtain rfl:=iJ hg;simp at hk hi;have q1:l[l.length - 1 - y]? =some l[l.length - 1 - y]:=gE9 (by omega);have q2:l[l.length - 2 - y]? =some l[l.length - 2 - y]:=gE9 (by omega);have m1:=hf _ (gM9 q1);have m2:=hf _ (gM9 q2);obtain⟨k1,hk1⟩:∃ k,l.length - 1 - y=k:=⟨_,rfl⟩;obtain⟨k2,hk2⟩:∃ k,l.length - 2 - y=k:=⟨_,rfl⟩;have e1:((l.length:Int) - 1 - y)=(k1:Int):=by omega
  have e2:IntKind.i64.wrap ((k1:Int) - 1)=(k2:Int):=by simp[short]at hl;exact aH k2 (by omega) (by omega)
  have hd:lL l y=decide ((l[l.length - 1 - y]).cmp (l[l.length - 2 - y])<0):=by simp[lL,q1,q2]
  rw[hd]at hany ⊢;generalize l[l.length - 1 - y]=u at*;generalize l[l.length - 2 - y]=v at*;rw[hk1]at q1;rw[hk2]at q2;rw[e1]at hx;have h0:(0:Int)<(k1:Int):=by omega
  have b1:(k1:Int)<(l.length:Int):=by omega
  have b2:(k2:Int)<(l.length:Int):=by omega
  have c1:k1<l.length:=by omega
  have c2:k2<l.length:=by omega
  have c0:0<k1:=by omega
  simp -implicitDefEqProofs [hx,hk,c0,e2,b1,b2,c1,c2,aE q1,aE q2,Vl.aP,-List.getElem_map];refine⟨230,[],⟨rfl,rfl⟩,by kernel_rfl,?_⟩;refine aD.bN (aW2 u m1 v m2) rfl ?_;rcases pX (u.cmp v) 0 with q | q
  ·simp -implicitDefEqProofs [q,aC];simpa using hany (by simp[q])
  ·have e3:(k2:Int)=(l.length:Int) - 1 - ((y:Int)+1):=by omega
   have q':=q.1;simp -implicitDefEqProofs [q',hx,hk,e2];exact⟨q.2,e3⟩
 ·intro st hany hx hk hh;simp at hk;simp only[List.length_range]at hx;obtain⟨z,hz⟩:∃ z:Int,(l.length:Int) - 1 - ((l.length - 1:Nat):Int)=z:=⟨_,rfl⟩;rw[hz]at hx;have e3:¬ 0<z:=by omega
  rw[hany];simp -implicitDefEqProofs [hx,e3,aC]
end
section
attribute [-simp] Go.Ab.aA Go.Ab.gval
attribute [local simp] bE aM aQ aG aV aO aX tyC fdC vlC ndC aL D.cR D.pt
def lM(k:Int):Bool:=k==1||k==2||k==14||k==8
def nC(k:Int):Bool:=k==8
def kO(k:Int):Bool:=k==3||k==4||k==5||k==6||k==13
def iK(k:Int):Bool:=k==9||k==12
def gR(k:Int):Bool:=k==7||k==10||k==11||k==9||k==12||k==13
def oZ(k:Int):D:= .agg [.t (.bool (lM k)),.t (.bool (nC k)),.t (.bool (kO k)),.t (.bool (iK k)),.t (.bool (gR k))]
attribute [local simp] c222 in
theorem aW4(k:Int):PSp prog 222 [.one (.t (I k))] (oZ k):=by
 refine k222.aI (by simp) rfl rfl ?_;rcases eqCases k 1 with rfl | q1
 ·simp -implicitDefEqProofs [oZ,lM,nC,kO,iK,gR,aC]
 ·rcases eqCases k 2 with rfl | q2
  ·simp -implicitDefEqProofs [oZ,lM,nC,kO,iK,gR,aC]
  ·rcases eqCases k 14 with rfl | q14
   ·simp -implicitDefEqProofs [oZ,lM,nC,kO,iK,gR,aC]
   ·rcases eqCases k 3 with rfl | q3
    ·simp -implicitDefEqProofs [oZ,lM,nC,kO,iK,gR,aC]
    ·rcases eqCases k 4 with rfl | q4
     ·simp -implicitDefEqProofs [oZ,lM,nC,kO,iK,gR,aC]
     ·rcases eqCases k 5 with rfl | q5
      ·simp -implicitDefEqProofs [oZ,lM,nC,kO,iK,gR,aC]
      ·rcases eqCases k 6 with rfl | q6
       ·simp -implicitDefEqProofs [oZ,lM,nC,kO,iK,gR,aC]
       ·rcases eqCases k 7 with rfl | q7
        ·simp -implicitDefEqProofs [oZ,lM,nC,kO,iK,gR,aC]
        ·rcases eqCases k 10 with rfl | q10
         ·simp -implicitDefEqProofs [oZ,lM,nC,kO,iK,gR,aC]
         ·rcases eqCases k 11 with rfl | q11
          ·simp -implicitDefEqProofs [oZ,lM,nC,kO,iK,gR,aC]
          ·rcases eqCases k 8 with rfl | q8
           ·simp -implicitDefEqProofs [oZ,lM,nC,kO,iK,gR,aC]
           ·rcases eqCases k 9 with rfl | q9
            ·simp -implicitDefEqProofs [oZ,lM,nC,kO,iK,gR,aC]
            ·rcases eqCases k 12 with rfl | q12
             ·simp -implicitDefEqProofs [oZ,lM,nC,kO,iK,gR,aC]
             ·rcases eqCases k 13 with rfl | q13
              ·simp -implicitDefEqProofs [oZ,lM,nC,kO,iK,gR,aC]
              ·simp -implicitDefEqProofs [oZ,lM,nC,kO,iK,gR,aC,q1,q2,q14,q3,q4,q5,q6,q7,q10,q11,q8,q9,q12,q13]
def wY(i:Nat)(x x0:Vl):Bool:= !(decide (0≤x.n)&&decide (x.n≤1152921504606846976))||((i:Int)==0&&decide (x.n>2))||((i:Int)==1&&x0.kind==2&&decide (x0.n<2)&&decide (x.n>39))
def gC(l:List Vl)(i:Nat):Bool:=match l[i]?,l[0]? with | some x,some x0=>x.kind==2&&wY i x x0 | _,_=>false
def wZ(l:List Vl):Bool:= !(List.range l.length).any (gC l)
attribute [local simp] b7k b7l b7m b7n b7o b7p b7q b7r b7s c261 in
theorem aW5(l:List Vl)(hl:short l):PSp prog 261 [.one (.t (aV l))] (.one (.t (.bool (wZ l)))):=by
 refine k261.aI (by simp) rfl rfl ?_;simp -implicitDefEqProofs;refine bS (List.range l.length) (gC l) [0,5,6] [] (fun i st=>st.tmps 7= .one (.t (I i))) (by simpa[short]using hl) ⟨by simp,by simp,by simp⟩ ?_ ?_
 ·intro i y st hi hiI hw hg hy hany hx hk hh;obtain rfl:=iJ hg;simp at hk hi;have hi':(y:Int)<(l.length:Int):=by omega
  have q1:l[y]? =some l[y]:=gE9 hi;have q2:l[0]? =some l[0]:=gE9 (by omega);have c0:0<l.length:=by omega
  have c0':(0:Int)<(l.length:Int):=by omega
  have hd:gC l y=((l[y]).kind==2&&wY y l[y] l[0]):=by simp[gC,q1,q2]
  rw[hd]at hany ⊢;have e0:wZ l= !(List.range l.length).any (gC l):=rfl;rw[e0];generalize l[y]=x at*;generalize l[0]=x0 at*;rcases eqCases x.kind 2 with q | q
  ·obtain⟨a,ea⟩:∃ a,(decide (0≤x.n)&&decide (x.n≤1152921504606846976))=a:=⟨_,rfl⟩;obtain⟨b,eb⟩:∃ a,decide (x.n>2)=a:=⟨_,rfl⟩;obtain⟨c,ec⟩:∃ a,decide (x0.n<2)=a:=⟨_,rfl⟩;obtain⟨d,ed⟩:∃ a,decide (x.n>39)=a:=⟨_,rfl⟩;obtain⟨e,ee⟩:∃ a,(x0.kind==2)=a:=⟨_,rfl⟩;have eb':decide (2<x.n)=b:=eb;have ed':decide (39<x.n)=d:=ed;simp only[wY,ea,eb,ec,ed,ee]at hany ⊢;simp -implicitDefEqProofs [hx,hk,hi',hi,q,aE q1,Vl.aP,-List.getElem_map];refine aD.tree (tP _ _ _) rfl ?_;rw[ea];have w1:IntKind.i64.wrap 1=1:=wrap_i64 (by omega) (by omega);have w2:IntKind.i64.wrap 2=2:=wrap_i64 (by omega) (by omega)
   have eqy:y=0∨y=1∨((y:Int)==0)=false∧((y:Int)==1)=false∧¬y=0∧¬y=1∧¬(y:Int)=0∧¬(y:Int)=1:=by
    rcases y with - | - | y
    ·exact .inl rfl
    ·exact .inr (.inl rfl)
    ·refine .inr (.inr ⟨by simp;omega,by simp;omega,by omega,by omega,by omega,by omega⟩)
   rcases bb a with rfl | rfl
   ·rcases eqy with rfl | rfl | qy
    ·rcases bb b with rfl | rfl
     ·simp -implicitDefEqProofs [hk,c0,aE q2,Vl.aP,-List.getElem_map,aC,eb'];simpa using hany (by simp[q])
     ·simp -implicitDefEqProofs [hx,hk,w1,c0,aE q2,Vl.aP,-List.getElem_map,eb']
    ·rcases bb e with rfl | rfl
     ·rcases bb c with rfl | rfl
      ·rcases bb d with rfl | rfl
       ·simp -implicitDefEqProofs [hk,c0,aE q2,Vl.aP,-List.getElem_map,aC,ee,ec,ed'];simpa using hany (by simp[q])
       ·simp -implicitDefEqProofs [hx,hk,w2,c0,aE q2,Vl.aP,-List.getElem_map,ee,ec,ed']
      ·simp -implicitDefEqProofs [hx,hk,w2,c0,aE q2,Vl.aP,-List.getElem_map,ee,ec]
     ·simp -implicitDefEqProofs [hx,hk,w2,c0,aE q2,Vl.aP,-List.getElem_map,ee]
    ·simp -implicitDefEqProofs [hx,hk,hw,c0,aE q2,Vl.aP,-List.getElem_map,qy]
   ·simp -implicitDefEqProofs [hk,c0,aE q2,Vl.aP,-List.getElem_map,aC];simpa using hany (by simp[q])
  ·simp -implicitDefEqProofs [hx,hk,hi',hi,hw,q,aE q1,Vl.aP,-List.getElem_map]
 ·intro st hany hx hk hh;simp at hk;simp only[List.length_range]at hx;have e0:wZ l= !(List.range l.length).any (gC l):=rfl;rw[e0,hany];simp -implicitDefEqProofs [hx,hk,aC]
def Vl.cY(v:Vl):Bool:=
 if v.kind==1 then decide (0≤v.n)&&decide (v.n≤1)else if v.kind==2 then isNum v.n
 else if v.kind==8 then(v.n==0&&v.e==0)||(isNum v.n&&v.n.tmod 2 != 0&&(decide (-1000≤v.e)&&decide (v.e≤1000)))
 else if v.kind==14 then decide (0≤v.n)&&decide (v.n≤4)else if v.kind==7 then wZ v.items else true
attribute [local simp] b6f b6g b6h b6i b6j b6k b6l c223 in
theorem aW6(v:Vl)(hl:short v.items):PSp prog 223 [.agg (vlC v)] (.one (.t (.bool v.cY))):=by
 refine k223.aI (by simp) (by simp[D.closed,A.closed]) rfl ?_;have aSF:∀ n,PSp prog 184 [.one (.t (I n))] (.one (.t (.bool (isNum n)))):=aRX;rcases eqCases v.kind 1 with q1 | q1
 ·simp -implicitDefEqProofs [q1];refine aD.tree (tP _ _ _) rfl ?_;simp -implicitDefEqProofs [aC,Vl.cY,q1]
 ·rcases eqCases v.kind 2 with q2 | q2
  ·simp -implicitDefEqProofs [q2];refine aD.tree (aSF _) rfl ?_;simp -implicitDefEqProofs [aC,Vl.cY,q2]
  ·rcases eqCases v.kind 8 with q8 | q8
   ·obtain⟨a,ea⟩:∃ a,(v.n==0)=a:=⟨_,rfl⟩;obtain⟨b,eb⟩:∃ a,(v.e==0)=a:=⟨_,rfl⟩;obtain⟨c,ec⟩:∃ a,isNum v.n=a:=⟨_,rfl⟩;obtain⟨d,ed⟩:∃ a,(v.n.tmod 2==0)=a:=⟨_,rfl⟩;obtain⟨e,ee⟩:∃ a,(decide (-1000≤v.e)&&decide (v.e≤1000))=a:=⟨_,rfl⟩;obtain⟨f,ef⟩:∃ x,(a&&b)=x:=⟨_,rfl⟩
    have hR:v.cY=(f||(c&& !d&&e)):=by
     simp only[Vl.cY,q8,ea,eb,ec,bne,ed,ee,ef];rfl
    rw[hR];simp -implicitDefEqProofs [q8,ea,eb,ef];rcases bb f with rfl | rfl
    ·simp -implicitDefEqProofs [aC]
    ·simp -implicitDefEqProofs;refine aD.tree (aSF _) rfl ?_;rw[ec];rcases bb c with rfl | rfl
     ·simp -implicitDefEqProofs [ed,bne];rcases bb d with rfl | rfl
      ·simp -implicitDefEqProofs [aC]
      ·simp -implicitDefEqProofs;refine aD.tree (tP _ _ _) rfl ?_;rw[ee];simp -implicitDefEqProofs [aC]
     ·simp -implicitDefEqProofs [aC]
   ·rcases eqCases v.kind 14 with q14 | q14
    ·simp -implicitDefEqProofs [q14];refine aD.tree (tP _ _ _) rfl ?_;simp -implicitDefEqProofs [aC,Vl.cY,q14]
    ·rcases eqCases v.kind 7 with q7 | q7
     ·simp -implicitDefEqProofs [q7];refine aD.tree (aW5 v.items hl) rfl ?_;simp -implicitDefEqProofs [aC,Vl.cY,q7]
     ·simp -implicitDefEqProofs [q1,q2,q8,q14,q7,aC,Vl.cY]
attribute [local simp] c262 in
theorem aW7(v:Vl):PSp prog 262 [.agg (vlC v)] (.one (.t (.bool (v.kind==2)))):=by
 refine k262.aI (by simp) (by simp[D.closed,A.closed]) rfl ?_;simp -implicitDefEqProofs [aC]
attribute [local simp] c264 in
theorem aW8(v:Vl)(h:Hp)(id:Nat)(hid:h id=some (.arr 0 false 1 [[.fn 262 []]])):Look 264 h [.agg (vlC v),.one (.ptr ⟨id,0,1,0,0⟩)] (.one (.t (.bool (!(v.kind==2))))):=fun n=>by
 refine ISp.ok fun ho=>?_
 have hlt:=fZ ho hid;refine k264.gQ (by simp) ?_;obtain⟨o1,o2,o3,o4⟩:=aK hid;have hne:¬ id=n:=by omega
 simp -implicitDefEqProofs [o1,o2,o3,hne];refine⟨262,[],⟨rfl,rfl⟩,by kernel_rfl,?_⟩;refine aD.tree (aW7 v) rfl ?_;simp -implicitDefEqProofs;exact dQ (.inr rfl) (by simp) (fun j hj=>by simp[Hp.set];omega) ho
theorem aNN(l:List Vl)(hl:short l)(p:Vl→Bool)(clo:FuncId)(caps:List Pt)(hc:callable prog clo=true)(h:Hp)(hp:∀ x∈l,Look clo h (.agg (vlC x)::caps.map fun q=> .one (.ptr q)) (.one (.t (.bool (p x)))))(n:Nat):
  ISp prog 263 h n [.one (.t (aV l)),.one (.fn clo caps)] (.one (.t (.bool (l.any p)))) h:=
 aVE l hl p clo caps h n hc fun x hx new K hn hK=>aD.imp (by rw[aC2];exact hp x hx new) hK
def Vl.shaped(v:Vl):Bool:=
 if v.kind==7 then decide ((v.items.length:Int)≥2)&& !v.items.any (fun x=> !(x.kind==2))else if v.kind==9 then(v.names.length:Int)==(v.items.length:Int)
 else if v.kind==12 then(v.names.length:Int)==1&&(v.items.length:Int)==1 else if v.kind==13 then(v.items.length:Int)==1&&(!bR v.s (bs [])||(match v.items[0]? with | some x=>x.kind==5 | none=>false))else true
attribute [local simp] b6m b6n b6o b6p b6q b6r b6s b6t c224 in
theorem aW9(v:Vl)(hl:short v.items):PSp prog 224 [.agg (vlC v)] (.one (.t (.bool v.shaped))):=by
 refine k224.aI (by simp) (by simp[D.closed,A.closed]) rfl ?_;rcases eqCases v.kind 7 with q7 | q7
 ·have e0:v.shaped=(decide ((v.items.length:Int)≥2)&& !v.items.any (fun x=> !(x.kind==2))):=by simp only[Vl.shaped,q7];rfl
  rw[e0];rcases mB 2 (v.items.length:Int)with q | q
  ·simp -implicitDefEqProofs [q7,q];have hc:=aNN v.items hl (fun x=> !(x.kind==2)) 264 [⟨6,0,1,0,0⟩] (by kernel_rfl) ((jM.set 0 (O.arr 0 false 6 [vlC v])).set 6 (O.arr 0 false 1 [[A.fn 262 []]])) fun x _=>aW8 x _ 6 (by simp[Hp.set])
   simp only[vlC,aO,aV,q7]at hc;refine aD.imp (hc _) ?_;generalize v.items.any (fun x=> !(x.kind==2))=w;simp -implicitDefEqProofs [aC]
  ·simp -implicitDefEqProofs [q7,q,aC]
 ·rcases eqCases v.kind 9 with q9 | q9
  ·simp -implicitDefEqProofs [q9,aC,Vl.shaped]
  ·rcases eqCases v.kind 12 with q12 | q12
   ·simp -implicitDefEqProofs [q12,aC,Vl.shaped]
   ·rcases eqCases v.kind 13 with q13 | q13
    ·obtain⟨a,ea⟩:∃ a,((v.items.length:Int)==1)=a:=⟨_,rfl⟩;obtain⟨b,eb⟩:∃ a,(v.s.toList==(bs []).toList)=a:=⟨_,rfl⟩;have eb':bR v.s (bs [])=b:=eb;rcases bb a with rfl | rfl
     ·rcases bb b with rfl | rfl
      ·have hl1:v.items.length=1:=by have:=ea;simp at this;omega
       have g:v.items[0]? =some (v.items[0]'(by omega)):=gE9 (by omega);have hp:0<v.items.length:=by omega
       generalize hgx:v.items[0]'(by omega)=x at g;simp -implicitDefEqProofs [q13,ea,eb,hp,aE g,Vl.aP,-List.getElem_map,aC,Vl.shaped,eb',hgx]
      ·simp -implicitDefEqProofs [q13,ea,eb,eb',aC,Vl.shaped]
     ·simp -implicitDefEqProofs [q13,ea,aC,Vl.shaped]
    ·simp -implicitDefEqProofs [q7,q9,q12,q13,aC,Vl.shaped]
attribute [local simp] c228 in
theorem aWA(s:ByteArray)(hs:s.size≤9223372036854775807):PSp prog 228 [.one (.t (.str s))] (.one (.t (.bool (!bF s)))):=by
 refine k228.aI (by simp) rfl rfl ?_;simp -implicitDefEqProofs;refine aD.tree (aNI s hs) rfl ?_;simp -implicitDefEqProofs [aC]
end
theorem aAH(s:ByteArray)(p:Int→Bool):(chars s).any p=s.data.toList.any fun b=>p (b.toNat:Int):=by
 simp[chars,List.any_map,Function.comp_def]
theorem xA{α:Type}(p:α→Bool):∀ l:List α,(∀x∈l.dropWhile p,p x=true)→∀x∈l,p x=true
 | [],_,x,hx=>by simp at hx
 | a::r,h,x,hx=>by
  cases ha:p a with
  | true=>
   rw[List.dropWhile_cons_of_pos ha]at h;rcases List.mem_cons.1 hx with e | e
   ·rw[e];exact ha
   ·exact xA p r h x e
  | false=>
   rw[List.dropWhile_cons_of_neg (by simp[ha])]at h;have:=h a (List.mem_cons_self ..);rw[ha]at this;cases this
theorem drop_nil{α:Type}(p:α→Bool):∀ l:List α,(∀x∈l,p x=true)→l.dropWhile p=[]
 | [],_=>rfl
 | a::r,h=>by
  rw[List.dropWhile_cons_of_pos (h a (List.mem_cons_self ..))];exact drop_nil p r fun x hx=>h x (List.mem_cons_of_mem _ hx)
theorem aC5{α:Type}(p:α→Bool)(l:List α):l.dropWhile p=[]↔∀x∈l,p x=true:=
 ⟨fun h=>xA p l (by rw[h];simp),drop_nil p l⟩
theorem aIK(l cs:List UInt8):Lib.trimS l cs=[]↔∀b∈l,cs.contains b=true:=by
 rw[Lib.trimS,Lib.trimLeftS,Lib.trimRightS,aC5];constructor
 ·intro h b hb;exact xA (cs.contains ·) l.reverse (fun x hx=>h x (by simpa using hx)) b (by simpa using hb)
 ·intro h x hx;have hx':x∈l.reverse.dropWhile (cs.contains ·):=by simpa using hx
  exact h x (by simpa using(List.dropWhile_sublist _).mem hx')
theorem xB(s:ByteArray):(Lib.trimS s.data.toList [48,49]==(bs []).toList)= !(chars s).any fun c=> !(c==48||c==49):=by
 have e:(bs []).toList=[]:=by simp[bs]
 rw[e,aAH,Bool.eq_iff_iff,beq_iff_eq,aIK];simp only[Bool.not_eq_true',List.any_eq_false]
 have h:∀ b:UInt8,([48,49]:List UInt8).contains b=((b.toNat:Int)==48||(b.toNat:Int)==49):=fun b=>by
  have h48:(b==(48:UInt8))=(((b.toNat:Int))==48):=by
   rw[Bool.eq_iff_iff];simp only[beq_iff_eq];constructor
   ·rintro rfl;rfl
   ·intro h;apply UInt8.toNat_inj.1;simpa using(by omega:b.toNat=48)
  have h49:(b==(49:UInt8))=(((b.toNat:Int))==49):=by
   rw[Bool.eq_iff_iff];simp only[beq_iff_eq];constructor
   ·rintro rfl;rfl
   ·intro h;apply UInt8.toNat_inj.1;simpa using(by omega:b.toNat=49)
  rw[List.contains_cons,List.contains_cons,List.contains_nil,h48,h49,Bool.or_false]
 constructor
 ·intro k b hb;have:=k b hb;rw[h]at this;simp[this]
 ·intro k b hb;rw[h];have:=k b hb;simp at this ⊢;omega
theorem decode_high(s:ByteArray)(pos:Nat)(h:pos<s.size)(ha:128≤(s[pos]'h).toNat):127<(Utf8.decode s pos).1:=by
 have e:s.get! (pos+0)=s[pos]'h:=by
  show s.get! pos=_;simp[ByteArray.get!,getElem!_pos,h];rfl
 simp only[Utf8.decode,e];rw[if_neg (by omega)];have hr:127<Utf8.runeError:=by decide
 split
 ·split<;>simp_all;omega
 ·split
  ·split
   ·simp_all;omega
   ·simp_all
  ·split
   ·split
    ·simp_all;omega
    ·simp_all
   ·exact hr
theorem aDO(s:ByteArray):∀ (f pos:Nat),s.size≤pos+f→(0≤Lib.idxFuncFrom (fun x=>decide (127<x)) true s f pos↔∃j,∃h:j<s.size,pos≤j∧127<(s[j]'h).toNat)
 | 0,pos,hf=>by
  simp only[Lib.idxFuncFrom];constructor
  ·intro h;omega
  ·rintro⟨j,h,h1,_⟩;omega
 | f+1,pos,hf=>by
  rw[Lib.idxFuncFrom];rcases Nat.lt_or_ge pos s.size with h | h
  ·rw[if_pos h];rcases Nat.lt_or_ge (s[pos]'h).toNat 128 with hb | hb
   ·rw[Go.decode_ascii s pos h hb];have:¬ 127<(s[pos]'h).toNat:=by omega
    simp only[this,decide_false,Bool.false_eq_true,if_false];rw[aDO s f (pos+1) (by omega)];constructor
    ·rintro⟨j,hj,h1,h2⟩;exact⟨j,hj,by omega,h2⟩
    ·rintro⟨j,hj,h1,h2⟩;refine⟨j,hj,?_,h2⟩;rcases Nat.eq_or_lt_of_le h1 with e | e
     ·subst e;omega
     ·omega
   ·have:=decode_high s pos h hb;rw[if_pos (by simpa using this)];exact⟨fun _=>⟨pos,h,Nat.le_refl _,by omega⟩,fun _=>by omega⟩
  ·rw[if_neg (by omega)];constructor
   ·intro h;omega
   ·rintro⟨j,hj,h1,_⟩;omega
theorem aQ3(s:ByteArray):decide (0≤Lib.idxFunc (fun x=>decide (127<x)) true s)=(chars s).any fun c=>decide (127<c):=by
 rw[Bool.eq_iff_iff,decide_eq_true_iff,Lib.idxFunc,aDO s s.size 0 (by omega),aAH,List.any_eq_true];constructor
 ·rintro⟨j,hj,_,h⟩;refine⟨s[j]'hj,?_,by simp;omega⟩;have:s[j]'hj=s.data.toList[j]'(by simpa using hj):=by simp;rfl
  rw[this];exact gL9 _
 ·rintro⟨b,hb,h⟩;obtain⟨j,hj,rfl⟩:=List.getElem_of_mem hb;have hj':j<s.size:=by simpa using hj
  refine⟨j,hj',Nat.zero_le _,?_⟩;have:s[j]'hj'=s.data.toList[j]'hj:=by simp;rfl
  rw[this];simp at h ⊢;omega
section
attribute [-simp] Go.Ab.aA Go.Ab.gval
attribute [local simp] bE aM aQ aG aV aO aX tyC fdC vlC ndC aL D.cR D.pt
def Vl.bM(v:Vl):Bool:=(!lM v.kind&&v.n != 0)||(!nC v.kind&&v.e != 0)||(!kO v.kind&& !bR v.s (bs []))||(!iK v.kind&&decide (0<v.names.length))||(!gR v.kind&&decide (0<v.items.length))
def Vl.aC6(v:Vl):Bool:=v.kind==4||v.kind==5||v.kind==6
def Vl.large(v:Vl):Bool:=(v.aC6&&decide (200<v.s.size))||decide ((if v.kind==9 then 16 else 40)<v.items.length)
def Vl.sJ(v:Vl):Bool:=(v.kind==4&&(chars v.s).any fun c=> !(c==48||c==49))||(v.kind==6&&(chars v.s).any fun c=>decide (127<c))
def Vl.mE(v:Vl):Bool:=((v.kind==3||(v.kind==13&& !bR v.s (bs [])))&& !bF v.s)||v.names.any fun s=> !bF s
def kT(l:List ByteArray)(i:Nat):Bool:=match l[i]? with | some s=>(l.take i).any fun x=>bR s x | none=>false
def Vl.aFW(v:Vl):Int:=if(List.range v.names.length).any (kT v.names)then 13 else if v.kind != 11|| !(List.range (v.items.length - 1)).any (lL v.items)then 0 else 14
def Vl.aDP(v:Vl):Int:=if v.mE then 7 else v.aFW
def Vl.aIL(v:Vl):Int:=if v.sJ then 17 else v.aDP
def Vl.aFX(v:Vl):Int:=if v.shaped then v.aIL else 6
def Vl.aDQ(v:Vl):Int:=if v.large then 2 else v.aFX
def Vl.aFY(v:Vl):Int:=if v.cY then v.aDQ else 3
def Vl.aDR(v:Vl):Int:=if v.bM then 5 else v.aFY
def Vl.fU(v:Vl):Int:=if decide (0≤v.kind)&&decide (v.kind≤14)then v.aDR else 4
def VB(v:Vl)(i:Nat)(st:St):Prop:=st.tmps i= .one (.ptr ⟨0,0,6,0,0⟩)∧st.heap 0=some (.arr 0 false 6 [vlC v])
attribute [local simp] a04 a05 a06 a07 a08 a09 a1a a1b a1c a1d a1e a1f a1g a1h a1i a1j a1k a1l a1m a1n a1o a1p a1q a1r a1s a1t a1u a1v c186 in
theorem aSG(v:Vl)(hv:v.fine)(st:St)(h1:VB v 1 st)(_hnx:0<st.nx):aZ prog 173 (aC [.tmp 2] (.one (.t (I v.aFW)))) a1i [] st:=by
 rw[Vl.bG]at hv;obtain⟨f1,f2,f3,f4,f5⟩:=hv;obtain⟨h1,h2⟩:=h1;obtain⟨o1,o2,o3,o4⟩:=aK h2;have e0:v.aFW=if(List.range v.names.length).any (kT v.names)then 13 else if v.kind != 11|| !(List.range (v.items.length - 1)).any (lL v.items)then 0 else 14:=rfl
 generalize v.aFW=R at*;simp -implicitDefEqProofs [h1,o1,o2,o3];refine bS (List.range v.names.length) (kT v.names) [1,150,151] [0] (fun i st=>st.tmps 152= .one (.t (I i))) (by simpa[short]using f2) ⟨by simp,by simp,by simp[]⟩ ?_ ?_
 ·intro i y st' hi hiI hw hg hy hany hx hk hh;obtain rfl:=iJ hg;simp[h1]at hk hh hi;have hi':(y:Int)<(v.names.length:Int):=by omega
  have q1:v.names[y]? =some v.names[y]:=gE9 hi;have hd:kT v.names y=(v.names.take y).any fun x=>bR v.names[y] x:=by simp[kT,q1]
  rw[hd]at hany ⊢;obtain⟨o1,o2,o3,o4⟩:=aK (hh.1.trans h2);have hle:y≤v.names.length:=by omega
  generalize v.names[y]=s at*;simp -implicitDefEqProofs [h1,hx,hk,hi',hi,aE q1,o1,o2,o3,hle];have pc:=aSB (v.names.take y) s (by simp[short]at f2 ⊢;omega);simp only[aO,List.map_take]at pc;refine aD.tree pc rfl ?_;cases hb:(v.names.take y).any fun x=>bR s x with
  | true=>
   simp -implicitDefEqProofs [aC];rw[e0,if_pos (hany hb)]
  | false=>
   simp -implicitDefEqProofs [hx,hk,hw];exact⟨by simpa using hb,hh.1⟩
 ·intro st' hany hx hk hh;simp[h1]at hk hh;simp only[List.length_range]at hx;obtain⟨o1,o2,o3,o4⟩:=aK (hh.1.trans h2);rw[hany]at e0;rcases eqCases v.kind 11 with q | q
  ·simp -implicitDefEqProofs [hx,hk,q,o1,o2,o3];rw[q]at e0;refine aD.pure (aW3 v.items f4 f5) (by simp) (by simp) ?_;generalize (List.range (v.items.length - 1)).any (lL v.items)=w at*;simp -implicitDefEqProofs;refine aD.tree (mX _ _) rfl ?_;simp -implicitDefEqProofs [aC,e0]
  ·simp -implicitDefEqProofs [hx,hk,q,o1,o2,o3];refine aD.tree (mX _ _) rfl ?_;simp -implicitDefEqProofs [aC,e0,q]
theorem lN{v:Vl}(hv:v.fine):v.s.size≤9223372036854775807∧short v.names∧short v.items∧∀x∈v.names,x.size≤9223372036854775807:=by
 rw[Vl.bG]at hv;exact⟨hv.1,hv.2.1,hv.2.2.2.1,hv.2.2.1⟩
attribute [local simp] a04 a05 a06 a07 a08 a09 a1a a1b a1c a1d a1e a1f a1g a1h a1j a1k a1l a1m a1n a1o a1p a1q a1r a1s a1t a1u a1v c186 in
theorem aSH(v:Vl)(hv:v.fine)(st:St)(h1:VB v 1 st)(_hnx:0<st.nx):aZ prog 173 (aC [.tmp 2] (.one (.t (I v.aDP)))) a1j [] st:=by
 obtain⟨f1,f2,f4,f3⟩:=lN hv;have rest:=aSG v hv;obtain⟨h1,h2⟩:=h1;obtain⟨o1,o2,o3,o4⟩:=aK h2;obtain⟨a,ea⟩:∃ a,(v.kind==3)=a:=⟨_,rfl⟩;obtain⟨b,eb⟩:∃ a,(v.kind==13)=a:=⟨_,rfl⟩;obtain⟨c,ec⟩:∃ a,(v.s.toList==(bs []).toList)=a:=⟨_,rfl⟩;obtain⟨d,ed⟩:∃ x,(b&& !c)=x:=⟨_,rfl⟩;obtain⟨e,ee⟩:∃ x,(a||d)=x:=⟨_,rfl⟩
 have e0:v.aDP=if(e&& !bF v.s)||v.names.any (fun s=> !bF s)then 7 else v.aFW:=by
  simp only[Vl.aDP,Vl.mE,bR,ea,eb,ec,ed,ee]
 have hany:∀ h n,ISp prog 227 h n [.one (.t (aO v.names)),.one (.fn 228 [])] (.one (.t (.bool (v.names.any fun s=> !bF s)))) h:=fun h n=>
  aVD v.names f2 (fun s=> !bF s) 228 [] h n (by kernel_rfl) fun x hx new K hn hK=>aD.tree (aWA x (f3 x hx)) (by simp[D.kB,uO]) hK
 simp only[aO]at hany;rw[e0];generalize (v.names.any fun s=> !bF s)=w at*;simp -implicitDefEqProofs [h1,o1,o2,o3,ea,eb,ec,ed,ee];refine⟨fun h=>by simp[h],?_,?_⟩
 ·intro he;rw[he];refine aD.tree (aNI _ f1) rfl ?_;cases hn:bF v.s with
  | true=>
   simp -implicitDefEqProofs [h1,o1,o2,o3];refine aD.imp (hany _ _) ?_;cases w
   ·simp -implicitDefEqProofs;exact rest _ ⟨by simp[h1],by simp[h2]⟩ (by simp)
   ·simp -implicitDefEqProofs [aC]
  | false=>simp -implicitDefEqProofs [aC]
 ·intro he;rw[he];simp -implicitDefEqProofs;refine aD.imp (hany _ _) ?_;cases w
  ·simp -implicitDefEqProofs;exact rest _ ⟨by simp[h1],by simp[h2]⟩ (by simp)
  ·simp -implicitDefEqProofs [aC]
attribute [local simp] a04 a05 a06 a07 a08 a09 a1a a1b a1c a1d a1e a1f a1g a1h a1i a1k a1l a1m a1n a1o a1p a1q a1r a1s a1t a1u a1v c186 in
theorem aSI(v:Vl)(hv:v.fine)(st:St)(h1:VB v 1 st)(_hnx:0<st.nx):aZ prog 173 (aC [.tmp 2] (.one (.t (I v.aIL)))) a1m [] st:=by
 obtain⟨f1,f2,f4,f3⟩:=lN hv;have rest:=aSH v hv;obtain⟨h1,h2⟩:=h1;obtain⟨o1,o2,o3,o4⟩:=aK h2;have e0:v.aIL=if(v.kind==4&&(chars v.s).any fun c=> !(c==48||c==49))||(v.kind==6&&(chars v.s).any fun c=>decide (127<c))then 17 else v.aDP:=rfl
 rw[e0];have t1:=xB v.s;have t2:=aQ3 v.s;generalize ((chars v.s).any fun c=> !(c==48||c==49))=x at*;generalize ((chars v.s).any fun c=>decide (127<c))=y at*;rcases eqCases v.kind 4 with q4 | q4
 ·simp -implicitDefEqProofs [h1,o1,o2,o3,q4];refine aD.tree (aKP _ f1) rfl ?_;simp -implicitDefEqProofs [h1,o1,o2,o3,q4,t1];cases x
  ·simp -implicitDefEqProofs;exact rest _ ⟨by simp[h1],by simp[h2]⟩ (by simp)
  ·simp -implicitDefEqProofs [aC]
 ·rcases eqCases v.kind 6 with q6 | q6
  ·simp -implicitDefEqProofs [h1,o1,o2,o3,q6];refine aD.pure (aFS v.s) (by simp) (by simp) ?_;simp -implicitDefEqProofs [t2];cases y
   ·simp -implicitDefEqProofs;exact rest _ ⟨by simp[h1],by simp[h2]⟩ (by simp)
   ·simp -implicitDefEqProofs [aC]
  ·simp -implicitDefEqProofs [h1,o1,o2,o3,q4,q6];exact rest _ ⟨by simp[h1],by simp[h2]⟩ (by simp)
attribute [local simp] a04 a05 a06 a07 a08 a09 a1a a1b a1c a1d a1e a1f a1g a1h a1i a1j a1k a1l a1n a1o a1p a1q a1r a1s a1t a1u a1v c186 in
theorem aSJ(v:Vl)(hv:v.fine)(st:St)(h1:VB v 1 st)(_hnx:0<st.nx):aZ prog 173 (aC [.tmp 2] (.one (.t (I v.aFX)))) a1n [] st:=by
 obtain⟨f1,f2,f4,f3⟩:=lN hv;have rest:=aSI v hv;obtain⟨h1,h2⟩:=h1;obtain⟨o1,o2,o3,o4⟩:=aK h2;have e0:v.aFX=if v.shaped then v.aIL else 6:=rfl
 rw[e0];simp -implicitDefEqProofs [h1,o1,o2,o3];refine aD.tree (aW9 v f4) rfl ?_;cases v.shaped
 ·simp -implicitDefEqProofs [aC]
 ·simp -implicitDefEqProofs;exact rest _ ⟨by simp[h1],by simp[h2]⟩ (by simp)
attribute [local simp] a04 a05 a06 a07 a08 a09 a1a a1b a1c a1d a1e a1f a1g a1h a1i a1j a1k a1l a1m a1o a1p a1q a1r a1s a1t a1u a1v c186 in
theorem aSK(v:Vl)(hv:v.fine)(st:St)(h1:VB v 1 st)(_hnx:0<st.nx):aZ prog 173 (aC [.tmp 2] (.one (.t (I v.aDQ)))) a1r [] st:=by
 obtain⟨f1,f2,f4,f3⟩:=lN hv;have rest:=aSJ v hv;obtain⟨h1,h2⟩:=h1;obtain⟨o1,o2,o3,o4⟩:=aK h2;obtain⟨tx,et⟩:∃ x,(v.kind==4||v.kind==5||v.kind==6)=x:=⟨_,rfl⟩;obtain⟨a,ea⟩:∃ x,decide (200<v.s.size)=x:=⟨_,rfl⟩;have ea':decide ((200:Int)<(v.s.size:Int))=a:=by rw[←ea];congr 1;simp;omega
 obtain⟨b,eb⟩:∃ x,(tx&&a)=x:=⟨_,rfl⟩
 have e0:v.aDQ=if b||decide ((if v.kind==9 then 16 else 40)<v.items.length)then 2 else v.aFX:=by
  simp only[Vl.aDQ,Vl.large,Vl.aC6,et,ea,eb]
 rw[e0];rcases eqCases v.kind 9 with q9 | q9
 ·have hb:b=false:=by rw[←eb,←et,q9];rfl
  subst hb;rcases pX 16 (v.items.length:Int)with q | q
  ·have q':16<v.items.length:=by omega
   simp -implicitDefEqProofs [h1,o1,o2,o3,q9,q,q',aC]
  ·have q':¬ 16<v.items.length:=by omega
   simp -implicitDefEqProofs [h1,o1,o2,o3,q9,q,q'];exact rest _ ⟨by simp[h1],by simp[h2]⟩ (by simp)
 ·rcases bb b with rfl | rfl
  ·simp -implicitDefEqProofs [h1,o1,o2,o3,et,ea',eb,q9,aC]
  ·rcases pX 40 (v.items.length:Int)with q | q
   ·have q':40<v.items.length:=by omega
    simp -implicitDefEqProofs [h1,o1,o2,o3,et,ea',eb,q9,q,q',aC]
   ·have q':¬ 40<v.items.length:=by omega
    simp -implicitDefEqProofs [h1,o1,o2,o3,et,ea',eb,q9,q,q'];exact rest _ ⟨by simp[h1],by simp[h2]⟩ (by simp)
attribute [local simp] a04 a05 a06 a07 a08 a09 a1a a1b a1c a1d a1e a1f a1g a1h a1i a1j a1k a1l a1m a1n a1o a1p a1q a1s a1t a1u a1v c186 in
theorem aSL(v:Vl)(hv:v.fine)(st:St)(h1:VB v 1 st)(_hnx:0<st.nx):aZ prog 173 (aC [.tmp 2] (.one (.t (I v.aFY)))) a1s [] st:=by
 obtain⟨f1,f2,f4,f3⟩:=lN hv;have rest:=aSK v hv;obtain⟨h1,h2⟩:=h1;obtain⟨o1,o2,o3,o4⟩:=aK h2;have e0:v.aFY=if v.cY then v.aDQ else 3:=rfl
 rw[e0];simp -implicitDefEqProofs [h1,o1,o2,o3];refine aD.tree (aW6 v f4) rfl ?_;cases v.cY
 ·simp -implicitDefEqProofs [aC]
 ·simp -implicitDefEqProofs;exact rest _ ⟨by simp[h1],by simp[h2]⟩ (by simp)
end
section
attribute [-simp] Go.Ab.aA Go.Ab.gval
attribute [local simp] bE aM aQ aG aV aO aX tyC fdC vlC ndC aL D.cR D.pt
attribute [local simp] a04 a05 a06 a07 a08 a09 a1a a1b a1c a1d a1e a1f a1g a1h a1i a1j a1k a1l a1m a1n a1o a1p a1q a1r a1t a1u a1v c186 in
theorem aSM(v:Vl)(hv:v.fine)(st:St)(h1:VB v 1 st)(hnx:0<st.nx):aZ prog 173 (aC [.tmp 2] (.one (.t (I v.aDR)))) a1u [] st:=by
 obtain⟨f1,f2,f4,f3⟩:=lN hv;have rest:=aSL v hv;obtain⟨h1,h2⟩:=h1;obtain⟨o1,o2,o3,o4⟩:=aK h2;have aSN:=aW4 v.kind;obtain⟨a1,g1⟩:∃ x,lM v.kind=x:=⟨_,rfl⟩;obtain⟨a2,g2⟩:∃ x,nC v.kind=x:=⟨_,rfl⟩;obtain⟨a3,g3⟩:∃ x,kO v.kind=x:=⟨_,rfl⟩;obtain⟨a4,g4⟩:∃ x,iK v.kind=x:=⟨_,rfl⟩;obtain⟨a5,g5⟩:∃ x,gR v.kind=x:=⟨_,rfl⟩;obtain⟨b1,k1⟩:∃ x,(v.n==0)=x:=⟨_,rfl⟩;obtain⟨b2,k2⟩:∃ x,(v.e==0)=x:=⟨_,rfl⟩;obtain⟨b3,k3⟩:∃ x,(v.s.toList==(bs []).toList)=x:=⟨_,rfl⟩;obtain⟨b4,k4⟩:∃ x,decide (0<v.names.length)=x:=⟨_,rfl⟩;obtain⟨b5,k5⟩:∃ x,decide (0<v.items.length)=x:=⟨_,rfl⟩;obtain⟨c1,m1⟩:∃ x,(!a1&& !b1)=x:=⟨_,rfl⟩;obtain⟨c2,m2⟩:∃ x,(!a2&& !b2)=x:=⟨_,rfl⟩;obtain⟨c3,m3⟩:∃ x,(!a3&& !b3)=x:=⟨_,rfl⟩;obtain⟨c4,m4⟩:∃ x,(!a4&&b4)=x:=⟨_,rfl⟩;obtain⟨c5,m5⟩:∃ x,(!a5&&b5)=x:=⟨_,rfl⟩;obtain⟨d2,n2⟩:∃ x,(c1||c2)=x:=⟨_,rfl⟩;obtain⟨d3,n3⟩:∃ x,(d2||c3)=x:=⟨_,rfl⟩;obtain⟨d4,n4⟩:∃ x,(d3||c4)=x:=⟨_,rfl⟩;obtain⟨d5,n5⟩:∃ x,(d4||c5)=x:=⟨_,rfl⟩
 have e0:v.aDR=if d5 then 5 else v.aFY:=by
  simp only[Vl.aDR,Vl.bM,bR,bne,g1,g2,g3,g4,g5,k1,k2,k3,k4,k5,m1,m2,m3,m4,m5,n2,n3,n4,n5]
 rw[e0];simp only[oZ,g1,g2,g3,g4,g5]at aSN;simp -implicitDefEqProofs [h1,o1,o2,o3];refine aD.tree aSN rfl ?_;have hne:¬ 0=st.nx+3:=by omega
 simp -implicitDefEqProofs [h1,o1,o2,o3,k1,k2,k3,k4,k5,m1,m2,m3,m4,m5,n2,n3,n4,n5,bne,-Bool.not_or,-Bool.not_and];refine⟨fun h=>by simp[h],fun h=>by simp[h],fun h=>by simp[h],fun h=>by simp[h],fun h=>?_,fun h=>?_⟩
 ·rw[h];simp -implicitDefEqProofs [aC]
 ·rw[h];refine rest _ ⟨by simp[h1],?_⟩ (by simp);simp only[Hp.set];rw[if_neg hne];exact h2
attribute [local simp] a04 a05 a06 a07 a08 a09 a1a a1b a1c a1d a1e a1f a1g a1h a1i a1j a1k a1l a1m a1n a1o a1p a1q a1r a1s a1t a1v c186 in
theorem aWB(v:Vl)(hv:v.fine):PSp prog 186 [.agg (vlC v)] (.one (.t (I v.fU))):=by
 refine k186.aI (by simp) (by simp[D.closed,A.closed]) rfl ?_;have rest:=aSM v hv;have e0:v.fU=if decide (0≤v.kind)&&decide (v.kind≤14)then v.aDR else 4:=rfl
 obtain⟨b,hb⟩:∃ b,(decide (0≤v.kind)&&decide (v.kind≤14))=b:=⟨_,rfl⟩;rw[e0,hb];simp -implicitDefEqProofs;refine aD.tree (tP _ _ _) rfl ?_;rw[hb];cases b
 ·simp -implicitDefEqProofs [aC]
 ·simp -implicitDefEqProofs;exact rest _ ⟨by simp,by simp[Hp.set]⟩ (by simp)
mutual
def Vl.fR:Vl→Int
 | .mk k n e s ns is=>if(Vl.mk k n e s ns is).fU != 0 then(Vl.mk k n e s ns is).fU else cB is
def cB:List Vl→Int
 | []=>0
 | v::r=>if v.fR != 0 then v.fR else cB r
end
theorem Vl.nW(v:Vl):v.fR=if v.fU != 0 then v.fU else cB v.items:=by cases v;rw[Vl.fR];rfl
attribute [local simp] a8X a8Y a8Z a81 a83 a84 a86 a88 a89 a9a a9b c149 in
theorem aQ4(v:Vl)(hl:short v.items)(IH:∀ x∈v.items,PSp prog 149 [.agg (vlC x)] (.one (.t (I x.fR))))(st:St)(h1:VB v 1 st)(_hnx:0<st.nx):aZ prog 25 (aC [.tmp 2] (.one (.t (I (cB v.items))))) a9a [] st:=by
 obtain⟨h1,h2⟩:=h1;obtain⟨o1,o2,o3,o4⟩:=aK h2;simp -implicitDefEqProofs [h1,o1,o2,o3];refine eZ v.items (fun _ r (_:Unit)=>cB r) (cB v.items) () [1,13,14] [] (fun i _ st=>st.tmps 15= .one (.t (I i))) hl rfl ⟨by simp,by simp,by simp⟩ ?_ ?_
 ·intro i y _ st hi hiI hw hg hy hR hx hk hh;simp[h1]at hk;rw[cB]at hR;generalize cB v.items=R at*;have hne:∀ c,¬0=st.nx+c+1:=fun c=>by omega
  simp -implicitDefEqProofs [hx,hk,hiI,hi,aE hg,Vl.aP,-List.getElem_map];refine aD.tree (IH y hy) rfl ?_;rcases eqCases y.fR 0 with e | e
  ·rw[e]at hR ⊢;simp at hR;simp -implicitDefEqProofs [hx,hk,hw,h1];exact hR
  ·simp -implicitDefEqProofs [e,aC];simpa[e]using hR
 ·intro _ st hR hx hk hh;simp[h1]at hk;rw[cB]at hR;generalize cB v.items=R at*;simp -implicitDefEqProofs [hx,hk,aC];exact hR
attribute [local simp] a8X a8Y a8Z a81 a83 a84 a86 a88 a89 a9b c149 in
theorem aNO(v:Vl)(hv:v.fine)(IH:∀ x∈v.items,PSp prog 149 [.agg (vlC x)] (.one (.t (I x.fR)))):PSp prog 149 [.agg (vlC v)] (.one (.t (I v.fR))):=by
 rw[Vl.nW];refine k149.aI (by simp) (by simp[D.closed,A.closed]) rfl ?_;have rest:=aQ4 v (lN hv).2.2.1 IH;simp -implicitDefEqProofs;refine aD.tree (aWB v hv) rfl ?_;generalize v.fU=e at*;rcases eqCases e 0 with q | q
 ·simp -implicitDefEqProofs [q];exact rest _ ⟨by simp,by simp[Hp.set]⟩ (by simp)
 ·simp -implicitDefEqProofs [q,aC]
theorem aSO:∀ v:Vl,v.fine→PSp prog 149 [.agg (vlC v)] (.one (.t (I v.fR))):=
 Vl.ind fun v IH hv=>aNO v hv fun x hx=>IH x hx (((Vl.bG v).1 hv).2.2.2.2 x hx)
end
section
attribute [local simp] bE aM aQ aG aV aO aX tyC fdC vlC ndC aL D.cR D.pt
mutual
def Vl.slim:Vl→Bool
 | .mk _ _ _ s ns is=>decide (s.size≤500)&&decide (ns.length≤60)&&decide (is.length≤60)&&ns.all (fun x=>decide (x.size≤60))&&slims is
def slims:List Vl→Bool
 | []=>true
 | v::r=>v.slim&&slims r
end
def Vl.few(v:Vl):Bool:= !(gG 12 [v] (400,false)).2&&v.slim
mutual
def Ty.narrow:Ty→Bool
 | .mk _ nm tg fs _ _ of l=>decide (nm.size≤60)&&decide (tg.length≤8)&&decide (fs.length≤40)&&decide (of.length≤4)&&decide (l.length≤40)&&l.all (fun x=>decide (x.s.size≤500)&&decide (x.args.length≤5))&&sK fs&&sL of
def Fd.narrow:Fd→Bool
 | .mk nm _ t _ d _=>decide (nm.size≤60)&&decide (d.length≤3)&&t.narrow&&d.all Vl.few
def sK:List Fd→Bool
 | []=>true
 | f::r=>f.narrow&&sK r
def sL:List Ty→Bool
 | []=>true
 | t::r=>t.narrow&&sL r
end
theorem aAI(l:List Vl):slims l=l.all Vl.slim:=by
 induction l with
 | nil=>rfl
 | cons a r ih=>rw[slims,ih];rfl
theorem aDS(l:List Fd):sK l=l.all Fd.narrow:=by
 induction l with
 | nil=>rw[sK];rfl
 | cons a r ih=>rw[sK,ih];rfl
theorem aDT(l:List Ty):sL l=l.all Ty.narrow:=by
 induction l with
 | nil=>rw[sL];rfl
 | cons a r ih=>rw[sL,ih];rfl
theorem Vl.aDU(v:Vl):v.slim=true↔v.s.size≤500∧v.names.length≤60∧v.items.length≤60∧(∀x∈v.names,x.size≤60)∧∀x∈v.items,x.slim=true:=by
 cases v;rw[Vl.slim,aAI];simp[Vl.s,Vl.names,Vl.items,and_assoc]
theorem Fd.aU(f:Fd):f.narrow=true↔f.name.size≤60∧f.dflt.length≤3∧f.ty.narrow=true∧∀x∈f.dflt,x.few=true:=by
 cases f;rw[Fd.narrow];simp[Fd.name,Fd.dflt,Fd.ty,and_assoc]
theorem Ty.aU(t:Ty):t.narrow=true↔t.name.size≤60∧t.tags.length≤8∧t.fields.length≤40∧t.of.length≤4∧t.limits.length≤40∧(∀x∈t.limits,x.s.size≤500∧x.args.length≤5)∧(∀f∈t.fields,f.narrow=true)∧∀o∈t.of,o.narrow=true:=by
 cases t;rw[Ty.narrow,aDS,aDT];simp[Ty.name,Ty.tags,Ty.fields,Ty.of,Ty.limits,and_assoc]
theorem Vl.tT:∀ v:Vl,v.slim=true→v.fine:=Vl.ind fun v IH h=>by
 rw[Vl.aDU]at h;rw[Vl.bG];obtain⟨h1,h2,h3,h4,h5⟩:=h;exact⟨by omega,by simp[short];omega,fun x hx=>by have:=h4 x hx;omega,by simp[short];omega,fun x hx=>IH x hx (h5 x hx)⟩
theorem Vl.xC{v:Vl}(h:v.few=true):v.slim=true:=by simp[Vl.few]at h;exact h.2
theorem Ty.kF:∀ t:Ty,t.narrow=true→t.fine:=Ty.ind fun t IH IHo h=>by
 rw[Ty.aU]at h;rw[Ty.bG];obtain⟨h1,h2,h3,h4,h5,h6,h7,h8⟩:=h;refine⟨by omega,by simp[short];omega,by simp[short];omega,fun f hf=>?_,by simp[short];omega,fun o ho=>IHo o ho (h8 o ho),by simp[short];omega,fun x hx=>?_⟩
 ·have:=h7 f hf;rw[Fd.aU]at this;rw[Fd.bG];obtain⟨g1,g2,g3,g4⟩:=this;exact⟨by omega,IH f hf g3,by simp[short];omega,fun v hv=>Vl.tT v (Vl.xC (g4 v hv))⟩
 ·have:=h6 x hx;exact⟨by omega,by simp[short];omega⟩
def sM(k:Int):Bool:=k==9||k==10||k==13||k==15
mutual
def Ty.cG:Ty→Int
 | .mk k nm tg fs o r of l=>if(Ty.mk k nm tg fs o r of l).cI != 0 then(Ty.mk k nm tg fs o r of l).cI else if(Ty.mk k nm tg fs o r of l).dR != 0 then(Ty.mk k nm tg fs o r of l).dR
   else if cA (sM k) fs != 0 then cA (sM k) fs else dS of
def Fd.fU(h:Bool):Fd→Int
 | .mk _ _ t _ d _=>if h&&t.cG != 0 then t.cG else cB d
def cA(h:Bool):List Fd→Int
 | []=>0
 | f::r=>if f.fU h != 0 then f.fU h else cA h r
def dS:List Ty→Int
 | []=>0
 | t::r=>if t.cG != 0 then t.cG else dS r
end
theorem Ty.nX(t:Ty):t.cG=if t.cI != 0 then t.cI else if t.dR != 0 then t.dR else if cA (sM t.kind) t.fields != 0 then cA (sM t.kind) t.fields else dS t.of:=by
 cases t;rw[Ty.cG];rfl
theorem Fd.tU(h:Bool)(f:Fd):f.fU h=if h&&f.ty.cG != 0 then f.ty.cG else cB f.dflt:=by
 cases f;rw[Fd.fU];rfl
end
section
attribute [-simp] Go.Ab.aA Go.Ab.gval
attribute [local simp] bE aM aQ aG aV aO aX tyC fdC vlC ndC aL D.cR D.pt
attribute [local simp] a3C a3D a3E a3F a3G a3H a3I a3J a3K a3L a3M a3N a3O a3P a3Q a3R a3S a3T a3U a3V a3W a3X a3Y a3Z a30 a34 a36 a38 a4a a4b a4c a4d a4e a4f a4g a1H a4h a1I a4i a4j a4k a4l a4m a4n a4o a4p a4q a4r a4s a4t a4u a4v a4w a4x a4y a4z a4A a1J a4B a4C a4D c107 in
theorem aNP(f:Fd)(hl:short f.dflt)(hf:∀ x∈f.dflt,x.fine)(A:Exit→St→Prop)(ks:List KF)(st:St)(id:Nat)(h6:st.tmps 6= .one (.ptr ⟨id,0,13,0,0⟩))(hid:st.heap id=some (.arr 0 false 13 [fdC f]))(_h0:0<st.nx)
  (hok:∀ st',cB f.dflt=0→dD [1,25,26,27] st.tmps st'.tmps→fK [0] st.heap st'.heap st'.nx→cX prog 67 A ks .normal st')
  (hbad:∀ st',cB f.dflt≠0→st'.tmps 2= .one (.t (I (cB f.dflt)))→cX prog 67 A ks .ret st'):aZ prog 67 A a1H ks st:=by
 obtain⟨o1,o2,o3,o4⟩:=aK hid;simp -implicitDefEqProofs [h6,o1,o2,o3];refine eZ f.dflt (fun _ r (_:Unit)=>cB r) (cB f.dflt) () [1,25,26,27,41,42] [0] (fun i _ st=>st.tmps 43= .one (.t (I i))) hl rfl ⟨by simp,by simp,by simp[]⟩ ?_ ?_
 ·intro i y _ st' hi hiI hw hg hy hR hx hk hh;simp at hk hh;rw[cB]at hR;generalize cB f.dflt=R at*;have hne:∀ c,¬0=st'.nx+c+1:=fun c=>by omega
  simp -implicitDefEqProofs [hx,hk,hiI,hi,aE hg,Vl.aP,-List.getElem_map];refine aD.tree (aSO y (hf y hy)) rfl ?_;rcases eqCases y.fR 0 with e | e
  ·rw[e]at hR ⊢;simp at hR;simp -implicitDefEqProofs [hx,hk,hw];refine⟨hR,?_⟩;simp only[Hp.set];rw[if_neg (by omega)];exact hh.1
  ·simp -implicitDefEqProofs [e];have:y.fR=R:=by simpa[e]using hR
   exact hbad _ (by rw[←this];exact e.2.1) (by simp[this])
 ·intro _ st' hR hx hk hh;simp at hk hh;rw[cB]at hR;simp -implicitDefEqProofs [hx,hk];exact hok _ hR.symm (by simp[hk]) (by simp[hh])
attribute [local simp] a3C a3D a3E a3F a3G a3H a3I a3J a3K a3L a3M a3N a3O a3P a3Q a3R a3S a3T a3U a3V a3W a3X a3Y a3Z a30 a34 a36 a38 a4a a4b a4c a4d a4e a4f a4g a1H a4h a1I a4i a4j a4k a4l a4m a4n a4o a4p a4q a4r a4s a4t a4u a4v a4w a4x a4y a4z a4A a1J a4B a4C a4D c107 in
theorem type57(t:Ty)(hl:short t.of)(IH:∀ x∈t.of,PSp prog 107 [.agg (tyC x)] (.one (.t (I x.cG))))(st:St)(h1:TB t 1 st)(_hnx:0<st.nx):aZ prog 67 (aC [.tmp 2] (.one (.t (I (dS t.of))))) a1J [] st:=by
 obtain⟨h1,h2⟩:=h1;obtain⟨o1,o2,o3,o4⟩:=aK h2;simp -implicitDefEqProofs [h1,o1,o2,o3];refine eZ t.of (fun _ r (_:Unit)=>dS r) (dS t.of) () [1,55,56] [] (fun i _ st=>st.tmps 57= .one (.t (I i))) hl rfl ⟨by simp,by simp,by simp⟩ ?_ ?_
 ·intro i y _ st hi hiI hw hg hy hR hx hk hh;simp[h1]at hk;rw[dS]at hR;generalize dS t.of=R at*;simp -implicitDefEqProofs [hx,hk,hiI,hi,aE hg,Ty.aP,-List.getElem_map];refine aD.tree (IH y hy) rfl ?_;rcases eqCases y.cG 0 with e | e
  ·rw[e]at hR ⊢;simp at hR;simp -implicitDefEqProofs [hx,hk,hw,h1];exact hR
  ·simp -implicitDefEqProofs [e,aC];simpa[e]using hR
 ·intro _ st hR hx hk hh;simp[h1]at hk;rw[dS]at hR;generalize dS t.of=R at*;simp -implicitDefEqProofs [hx,hk,aC];exact hR
attribute [local simp] a3C a3D a3E a3F a3G a3H a3I a3J a3K a3L a3M a3N a3O a3P a3Q a3R a3S a3T a3U a3V a3W a3X a3Y a3Z a30 a34 a36 a38 a4a a4b a4c a4d a4e a4f a4g a4h a1I a4i a4j a4k a4l a4m a4n a4o a4p a4q a4r a4s a4t a4u a4v a4w a4x a4y a4z a4A a4B a4C a4D c107 in
theorem type58(t:Ty)(hn:t.narrow=true)(IHf:∀ x∈t.fields,PSp prog 107 [.agg (tyC x.ty)] (.one (.t (I x.ty.cG))))(IH:∀ x∈t.of,PSp prog 107 [.agg (tyC x)] (.one (.t (I x.cG))))(b:Bool)(hb:sM t.kind=b)(R:Int)(hR0:(if cA b t.fields != 0 then cA b t.fields else dS t.of)=R)(st:St)(h1:TB t 1 st)(_hnx:0<st.nx):
  aZ prog 67 (aC [.tmp 2] (.one (.t (I R)))) a4B [] st:=by
 have hfine:=Ty.kF t hn;rw[Ty.bG]at hfine;obtain⟨g1,g2,g3,g4,g5,g6,g7,g8⟩:=hfine;have rest:=type57 t g5 IH;obtain⟨h1,h2⟩:=h1;obtain⟨o1,o2,o3,o4⟩:=aK h2;simp -implicitDefEqProofs [h1,o1,o2,o3];refine eZ t.fields (fun _ r (_:Unit)=>if cA b r != 0 then cA b r else dS t.of) R () [1,25,26] [0] (fun i _ st=>st.tmps 27= .one (.t (I i))) g3 hR0 ⟨by simp,by simp,by simp[]⟩ ?_ ?_
 ·intro i f _ st' hi hiI hw hg hy hR hx hk hh;simp[h1]at hk hh;rw[cA]at hR;have hfo:=g4 f hy;rw[Fd.bG]at hfo;have hne:¬ 0=st'.nx+1+2:=by omega
  obtain⟨o1,o2,o3,o4⟩:=aK (hh.1.trans h2);have hib:sM t.kind=(t.kind==9||t.kind==10||t.kind==13||t.kind==15):=rfl;simp -implicitDefEqProofs [hx,hk,hiI,hi,aE hg,Fd.aP,o1,o2,o3,-List.getElem_map];refine aD.tree (aUW _) rfl ?_;rw[←hib,hb];rw[Fd.tU]at hR;obtain⟨e1,he1⟩:∃ e,(if b&&f.ty.cG != 0 then f.ty.cG else 0)=e:=⟨_,rfl⟩
  have fin:∀ (J:St→Prop) (st2:St),st2.tmps 6= .one (.ptr ⟨st'.nx+1+2,0,13,0,0⟩)→st2.heap (st'.nx+1+2)=some (.arr 0 false 13 [fdC f])→st2.heap 0=st.heap 0→st'.nx<st2.nx→dD [1,25,26,27] st'.tmps st2.tmps→(b&&f.ty.cG != 0)=false→
    (∀st'':St,(if cA b (t.fields.drop (i+1)) != 0 then cA b (t.fields.drop (i+1))else dS t.of)=R→st''.tmps 27= .one (.t (I ((i:Int)+1)))→dD [1,25,26] st'.tmps st''.tmps→st''.heap 0=st.heap 0→0<st''.nx→J st'')→
    aZ prog 67 (aC [.tmp 2] (.one (.t (I R)))) a1H [.blk 1,.thn (.region 21 false 2 a1I),.post J,.blk 0,.thn a1J] st2:=by
   intro J st2 k6 kid k0 knx kt hno hJ;simp at kt;rw[hno]at hR;simp only[Bool.false_eq_true,if_false]at hR;refine aNP f hfo.2.2.1 hfo.2.2.2 _ _ st2 _ k6 kid (by omega) (fun st3 hz kt3 kh3=>?_) fun st3 hz k2=>?_
   ·rw[hz]at hR;simp at kt3 kh3;simp -implicitDefEqProofs [kt3,kt,hx,hw];refine hJ _ (by simpa using hR) (by simp) (by simp[kt3,kt]) (by simp[kh3,k0]) (by simp)
   ·have:cB f.dflt=R:=by simpa[hz]using hR
    simp -implicitDefEqProofs [aC,k2,this]
  have hid:∀ o:O,((st'.heap.set (st'.nx+1+2) o) (st'.nx+1+2))=some o:=fun o=>by simp[Hp.set]
  have hk0:∀ o:O,((st'.heap.set (st'.nx+1+2) o) 0)=st.heap 0:=fun o=>by simp only[Hp.set];rw[if_neg hne];exact hh.1
  cases b
  ·simp -implicitDefEqProofs;refine fin _ _ (by simp) (by simp[hid]) (by simp[hk0]) (by simp;omega) (by simp) rfl fun st'' a1 a2 a3 a4 a5=>?_
   simp[hk]at a3;simp[a2,a3,a4,a5];exact⟨by simpa using a1,h1.symm⟩
  ·simp -implicitDefEqProofs;refine aD.tree (IHf f hy) rfl ?_;rcases eqCases f.ty.cG 0 with e | e
   ·simp -implicitDefEqProofs [e];refine fin _ _ (by simp) (by simp[hid]) (by simp[hk0]) (by simp;omega) (by simp) (by simp[e]) fun st'' a1 a2 a3 a4 a5=>?_
    simp[hk]at a3;simp[a2,a3,a4,a5];exact⟨by simpa using a1,h1.symm⟩
   ·simp -implicitDefEqProofs [e,aC];simpa[e]using hR
 ·intro _ st' hR hx hk hh;simp[h1]at hk hh;rw[cA]at hR;simp only[bne_self_eq_false,Bool.false_eq_true,if_false]at hR;rw[←hR];simp -implicitDefEqProofs [hx,hk];exact rest _ ⟨by simp[hk],by simp[hh.1,h2]⟩ (by simp)
theorem xD(t:Ty)(h:t.cI=0):0≤t.root∧t.root≤t.fields.length:=by
 cases t;simp only[Ty.cI,Ty.root,Ty.fields]at h ⊢;split at h
 ·cases h
 ·split at h
  ·cases h
  ·split at h
   ·cases h
   ·rename_i hh;simp at hh;exact hh.2
attribute [local simp] a3C a3D a3E a3F a3G a3H a3I a3J a3K a3L a3M a3N a3O a3P a3Q a3R a3S a3T a3U a3V a3W a3X a3Y a3Z a30 a34 a36 a38 a4a a4b a4c a4d a4e a4f a4g a1H a4h a1I a4i a4j a4k a4l a4m a4n a4o a4p a4q a4r a4s a4t a4u a4v a4w a4x a4y a4z a4A a1J a4C a4D c107 in
theorem aNQ(t:Ty)(hn:t.narrow=true)(IHf:∀ x∈t.fields,PSp prog 107 [.agg (tyC x.ty)] (.one (.t (I x.ty.cG))))(IH:∀ x∈t.of,PSp prog 107 [.agg (tyC x)] (.one (.t (I x.cG)))):PSp prog 107 [.agg (tyC t)] (.one (.t (I t.cG))):=by
 have hfine:=Ty.kF t hn;have hfine':=hfine;rw[Ty.bG]at hfine';obtain⟨g1,g2,g3,g4,g5,g6,g7,g8⟩:=hfine';have hna:=((Ty.aU t).1 hn).2.2.2.2.2.1;rw[Ty.nX];have rest:=type58 t hn IHf IH _ rfl _ rfl;have aSP:=aV5 t hfine;rw[aKT]at aSP;refine k107.aI (by simp) (by simp[D.closed,A.closed]) rfl ?_;generalize (if cA (sM t.kind) t.fields != 0 then cA (sM t.kind) t.fields else dS t.of)=R at*;simp -implicitDefEqProofs;refine aD.tree aSP rfl ?_;have hroot:=xD t;generalize t.cI=e1 at*;rcases eqCases e1 0 with q | q
 ·obtain⟨r0,r1⟩:=hroot q;have aWC:=aVV t g3 (fun x hx=>by have:=(hna x hx).2;omega) g1 (fun f hf=>by have:=g4 f hf;rw[Fd.bG]at this;exact this.1) r0 r1;simp -implicitDefEqProofs [q];refine aD.tree aWC rfl ?_;generalize t.dR=e2 at*;rcases eqCases e2 0 with q2 | q2
  ·simp -implicitDefEqProofs [q2];exact rest _ ⟨by simp,by simp[Hp.set]⟩ (by simp)
  ·simp -implicitDefEqProofs [q2,aC]
 ·simp -implicitDefEqProofs [q,aC]
theorem aWD:∀ t:Ty,t.narrow=true→PSp prog 107 [.agg (tyC t)] (.one (.t (I t.cG))):=
 Ty.ind fun t IHf IH hn=>by
  have h:=(Ty.aU t).1 hn;exact aNQ t hn (fun x hx=>IHf x hx ((Fd.aU x).1 (h.2.2.2.2.2.2.1 x hx)).2.2.1) fun x hx=>IH x hx (h.2.2.2.2.2.2.2 x hx)
def Ty.check(t:Ty):Int:=if(t.sz 9 (60,false)).2 then 2 else t.cG
attribute [local simp] b4Q b4R b4S b4T c59 in
theorem P59(t:Ty)(hn:t.narrow=true):PSp prog 59 [.agg (tyC t)] (.one (.t (I t.check))):=by
 have hfine:=Ty.kF t hn;have k106:=aC0 t hfine;rw[aKT]at k106;refine k59.aI (by simp) (by simp[D.closed,A.closed]) rfl ?_;have e0:t.check=if(t.sz 9 (60,false)).2 then 2 else t.cG:=rfl
 rw[e0];simp -implicitDefEqProofs;refine aD.imp (ISp.ok fun ho=>k106 _ _ _ 9 (60,false) ho (by simp[sI,yQ])) ?_;obtain⟨⟨s1,s2⟩,hs⟩:∃ s,t.sz 9 (60,false)=s:=⟨_,rfl⟩;rw[hs];cases s2
 ·simp -implicitDefEqProofs [eC,hs];refine aD.tree (aWD t hn) rfl ?_;simp -implicitDefEqProofs [aC]
 ·simp -implicitDefEqProofs [eC,hs,aC]
end
section
attribute [-simp] Go.Ab.aA Go.Ab.gval
attribute [local simp] bE aM aQ aG aV aO aX tyC fdC vlC ndC aL D.cR D.pt
theorem Ty.uQ(lv:Int)(t:Ty)(s:Sz):t.sz lv s=if(cD lv s).2 then cD lv s else lU (wr (lv - 1)) t.of (mO (wr (lv - 1)) t.fields (cD lv s)):=by
 cases t;rw[Ty.sz];rfl
theorem Fd.uQ(lv:Int)(f:Fd)(s:Sz):f.sz lv s=gG lv f.dflt (f.ty.sz lv s):=by cases f;rw[Fd.sz];rfl
def SB(h:Hp)(n0 id:Nat)(t:Ty)(lv:Int)(s:Sz)(st:St):Prop:=SzH h n0 id s st.heap st.nx∧st.heap n0=some (.arr 0 false 8 [tyC t])∧n0<st.nx∧st.tmps 0= .one (.ptr ⟨id,0,2,0,0⟩)∧st.tmps 2= .one (.t (I lv))∧st.tmps 4= .one (.ptr ⟨n0,0,8,0,0⟩)
attribute [local simp] a56 a57 a6a a6b a6c a6d a6e a6f a6g a6h a6i a6j a6k a6l a6m c57 in
theorem aNR(h:Hp)(n0 id:Nat)(t:Ty)(lv:Int)(R:Sz)(hl:short t.of)(ho:aF h n0)(IH:∀ x∈t.of,kC 57 (.agg (tyC x)) fun lv s=>x.sz lv s)(s0:Sz)(hR:lU (wr (lv - 1)) t.of s0=R)(st:St)(hs:SB h n0 id t lv s0 st):
  aZ prog 91 (gF [] (.tup []) (eC h id R) n0) a6k [] st:=by
 obtain⟨k,hb,hnx,j0,j2,j4⟩:=hs;have hlt:=k.lt;simp -implicitDefEqProofs [-Prod.exists,-Bool.exists_bool];refine eZ t.of (fun _ r s=>lU (wr (lv - 1)) r s) R s0 [] [] (fun i s st=>SB h n0 id t lv s st∧st.tmps 8= .one (.t (I i))) hl hR ⟨⟨⟨k.more (by simp<;>omega),hb,by simp<;>omega,by simp[j0],by simp[j2],by simp[j4]⟩,by simp⟩,by simp,by simp⟩ ?_ ?_
 ·rintro i y s st hi hiI hw hg hy hR ⟨⟨k,hb,hnx,j0,j2,j4⟩,j8⟩ _ _;obtain⟨o1,o2,o3,o4⟩:=aK k.obj;obtain⟨p1,p2,p3,p4⟩:=aK hb;rw[lU]at hR;obtain⟨sl,sb⟩:=s;cases sb
  ·simp only[Bool.false_eq_true,if_false]at hR;simp -implicitDefEqProofs [-Prod.exists,-Bool.exists_bool,j0,j2,j4,j8,hi,hiI,o1,o2,o3,p1,p2,p3,aE hg,Ty.aP,-List.getElem_map];refine aD.imp (ISp.ok fun ho'=>IH y hy _ _ id _ _ ho' k.obj) ?_;have hne:¬ n0=id:=by have:=k.lt;omega
   simp -implicitDefEqProofs [-Prod.exists,-Bool.exists_bool,j8,hw];refine⟨_,hR,k.put.more (by simp<;>omega),?_,by simp<;>omega,by simp[j0],by simp[j2],by simp[j4]⟩;simp only[eC,Hp.set];rw[if_neg hne];exact hb
  ·simp only[if_true]at hR;simp -implicitDefEqProofs [-Prod.exists,-Bool.exists_bool,j0,j4,j8,hiI,o1,o2,o3,p1,p2,p3];exact eX (.inl rfl) (k.fin hR) (okS ho hlt)
 ·rintro s st hR ⟨⟨k,hb,hnx,j0,j2,j4⟩,j8⟩ _ _;obtain⟨p1,p2,p3,p4⟩:=aK hb;rw[lU]at hR;simp -implicitDefEqProofs [-Prod.exists,-Bool.exists_bool,j0,j4,j8,p1,p2,p3];exact eX (.inl rfl) (k.fin hR) (okS ho hlt)
attribute [local simp] a56 a57 a6a a6b a6c a6d a6e a6f a6g a6h a6i a6j a6l a6m c57 in
theorem aNS(h:Hp)(n0 id:Nat)(t:Ty)(lv:Int)(R:Sz)(ht:t.fine)(ho:aF h n0)(IHf:∀ x∈t.fields,kC 57 (.agg (tyC x.ty)) fun lv s=>x.ty.sz lv s)(IH:∀ x∈t.of,kC 57 (.agg (tyC x)) fun lv s=>x.sz lv s)(s0:Sz)(hR:lU (wr (lv - 1)) t.of (mO (wr (lv - 1)) t.fields s0)=R)(st:St)(hs:SB h n0 id t lv s0 st):
  aZ prog 91 (gF [] (.tup []) (eC h id R) n0) a6l [] st:=by
 rw[Ty.bG]at ht;obtain⟨g1,g2,g3,g4,g5,g6,g7,g8⟩:=ht;have rest:=aNR h n0 id t lv R g5 ho IH;obtain⟨k,hb,hnx,j0,j2,j4⟩:=hs;have hlt:=k.lt;have hne:¬ n0=id:=by omega
 simp -implicitDefEqProofs [-Prod.exists,-Bool.exists_bool];refine eZ t.fields (fun _ r s=>lU (wr (lv - 1)) t.of (mO (wr (lv - 1)) r s)) R s0 [] [] (fun i s st=>SB h n0 id t lv s st∧st.tmps 6= .one (.t (I i))) g3 hR ⟨⟨⟨k.more (by simp<;>omega),hb,by simp<;>omega,by simp[j0],by simp[j2],by simp[j4]⟩,by simp⟩,by simp,by simp⟩ ?_ ?_
 ·rintro i f s st hi hiI hw hg hy hR ⟨⟨k,hb,hnx,j0,j2,j4⟩,j6⟩ _ _;obtain⟨o1,o2,o3,o4⟩:=aK k.obj;obtain⟨p1,p2,p3,p4⟩:=aK hb;have hfo:=g4 f hy;rw[Fd.bG]at hfo;obtain⟨_,_,f3,f4⟩:=hfo;obtain⟨sl,sb⟩:=s;cases sb
  ·rw[mO,if_neg (by simp),Fd.uQ]at hR;simp -implicitDefEqProofs [-Prod.exists,-Bool.exists_bool,j0,j2,j4,j6,hi,hiI,o1,o2,o3,p1,p2,p3,aE hg,Fd.aP,-List.getElem_map];refine aD.imp (ISp.ok fun ho'=>IHf f hy _ _ id _ _ ho' k.obj) ?_;have k2:=k.put (s':=f.ty.sz (wr (lv - 1)) (sl,false));have hb2:(eC st.heap id (f.ty.sz (wr (lv - 1)) (sl,false))) n0=some (.arr 0 false 8 [tyC t]):=by simp only[eC,Hp.set];rw[if_neg hne];exact hb
   show wK _ _ _ _ _ (eC st.heap id (f.ty.sz (wr (lv - 1)) (sl,false)));generalize eC st.heap id (f.ty.sz (wr (lv - 1)) (sl,false))=h2 at*;simp -implicitDefEqProofs [-Prod.exists,-Bool.exists_bool];refine eZ f.dflt (fun _ r s=>lU (wr (lv - 1)) t.of (mO (wr (lv - 1)) (t.fields.drop (i+1)) (gG (wr (lv - 1)) r s))) R _ [] [] (fun j s st=>SB h n0 id t lv s st∧st.tmps 6= .one (.t (I i))∧st.tmps 7= .one (.t (I j))) f3 hR ⟨⟨⟨k2.more (by simp<;>omega),hb2,by simp<;>omega,by simp[j0],by simp[j2],by simp[j4]⟩,by simp[j6],by simp⟩,by simp,by simp⟩ ?_ ?_
   ·rintro j v s st hj hjI hwj hgv hyv hR ⟨⟨k,hb,hnx,j0,j2,j4⟩,j6,j7⟩ _ _;obtain⟨o1,o2,o3,o4⟩:=aK k.obj;obtain⟨p1,p2,p3,p4⟩:=aK hb;obtain⟨sl,sb⟩:=s;cases sb
    ·rw[gG,if_neg (by simp)]at hR;simp -implicitDefEqProofs [-Prod.exists,-Bool.exists_bool,j0,j2,j4,j6,j7,hi,hiI,hj,hjI,o1,o2,o3,p1,p2,p3,aE hg,aE hgv,Fd.aP,Vl.aP,-List.getElem_map];have v105:=sG v (f4 v hyv);rw[aC2]at v105;refine aD.imp (ISp.ok fun ho'=>v105 _ _ id _ _ ho' k.obj) ?_;simp -implicitDefEqProofs [-Prod.exists,-Bool.exists_bool,j7,hwj];refine⟨_,hR,⟨k.put.more (by simp<;>omega),?_,by simp<;>omega,by simp[j0],by simp[j2],by simp[j4]⟩,by simp[j6]⟩;simp only[eC,Hp.set];rw[if_neg hne];exact hb
    ·rw[oW (by simp)]at hR;simp -implicitDefEqProofs [-Prod.exists,-Bool.exists_bool,j0,j4,j6,j7,hi,hiI,hjI,hw,o1,o2,o3,p1,p2,p3,aE hg,Fd.aP,-List.getElem_map];exact⟨_,hR,k.more (by simp<;>omega),hb,by simp<;>omega,by simp[j0],by simp[j2],by simp[j4]⟩
   ·rintro s st hR ⟨⟨k,hb,hnx,j0,j2,j4⟩,j6,j7⟩ _ _;obtain⟨p1,p2,p3,p4⟩:=aK hb;rw[gG]at hR;simp -implicitDefEqProofs [-Prod.exists,-Bool.exists_bool,j0,j4,j6,j7,hi,hiI,hw,p1,p2,p3,aE hg,Fd.aP,-List.getElem_map];exact⟨_,hR,k.more (by simp<;>omega),hb,by simp<;>omega,by simp[j0],by simp[j2],by simp[j4]⟩
  ·rw[wV (by simp)]at hR;simp -implicitDefEqProofs [-Prod.exists,-Bool.exists_bool,j0,j4,j6,hiI,o1,o2,o3,p1,p2,p3];exact rest _ hR _ ⟨k.more (by simp<;>omega),hb,by simp<;>omega,by simp[j0],by simp[j2],by simp[j4]⟩
 ·rintro s st hR ⟨⟨k,hb,hnx,j0,j2,j4⟩,j6⟩ _ _;obtain⟨p1,p2,p3,p4⟩:=aK hb;rw[mO]at hR;simp -implicitDefEqProofs [-Prod.exists,-Bool.exists_bool,j0,j4,j6,p1,p2,p3];exact rest _ hR _ ⟨k.more (by simp<;>omega),hb,by simp<;>omega,by simp[j0],by simp[j2],by simp[j4]⟩
attribute [local simp] a56 a57 a6a a6b a6c a6d a6e a6f a6g a6h a6i a6j a6k a6m c57 in
theorem aQ5(t:Ty)(ht:t.fine)(IHf:∀ x∈t.fields,kC 57 (.agg (tyC x.ty)) fun lv s=>x.ty.sz lv s)(IH:∀ x∈t.of,kC 57 (.agg (tyC x)) fun lv s=>x.sz lv s):kC 57 (.agg (tyC t)) fun lv s=>t.sz lv s:=by
 intro h n0 id lv s ho hid;have hlt:=fZ ho hid;show ISp _ _ _ _ _ _ (eC h id (t.sz lv s));rw[Ty.uQ];have rest:=aNS h n0 id t lv _ ht ho IHf IH (cD lv s) rfl;refine k57.gQ (by simp) ?_;have k0:SzH h n0 id s h n0:=⟨ho,hid,hlt,Nat.le_refl _,fun _ _ _=>rfl⟩;have k1:=(k0.more (nx':=n0+1) (by omega)).own (a:=n0) (o:= .arr 0 false 8 [tyC t]) (Nat.le_refl _) (by omega) (by simp[O.below,A.below]);simp -implicitDefEqProofs [-Prod.exists,-Bool.exists_bool];refine aD.imp (ISp.ok fun ho'=>aHE _ _ id lv s ho' k1.obj) ?_;have k2:=k1.put (s':=cD lv s)
 have hb2:(eC (h.set n0 (.arr 0 false 8 [tyC t])) id (cD lv s)) n0=some (.arr 0 false 8 [tyC t]):=by
  simp only[eC,Hp.set];rw[if_neg (by omega)];simp
 show wK _ _ _ _ _ (eC (h.set n0 (.arr 0 false 8 [tyC t])) id (cD lv s));generalize eC (h.set n0 (.arr 0 false 8 [tyC t])) id (cD lv s)=h2 at*;cases hb:(cD lv s).2 with
 | true=>
  simp -implicitDefEqProofs [-Prod.exists,-Bool.exists_bool];exact eX (.inr rfl) (k2.fin (by simp)) (okS ho hlt)
 | false=>
  simp -implicitDefEqProofs [-Prod.exists,-Bool.exists_bool];exact rest _ ⟨k2.more (by simp<;>omega),hb2,by simp<;>omega,by simp,by simp,by simp⟩
theorem P57:∀ t:Ty,t.fine→kC 57 (.agg (tyC t)) fun lv s=>t.sz lv s:=
 Ty.ind fun t IHf IH ht=>by
  have h:=(Ty.bG t).1 ht;exact aQ5 t ht (fun x hx=>IHf x hx ((Fd.bG x).1 (h.2.2.2.1 x hx)).2.1) fun x hx=>IH x hx (h.2.2.2.2.2.1 x hx)
attribute [local simp] c112 in
theorem aWE(t:Ty)(m:Int)(ht:t.fine):PSp prog 112 [.agg (tyC t),.one (.t (I m))] (.one (.t (.bool (!(t.sz 9 (m,false)).2)))):=by
 have k57:=P57 t ht;refine k112.aI (by simp) (by simp[D.closed,A.closed]) rfl ?_;simp -implicitDefEqProofs;refine aD.imp (ISp.ok fun ho=>k57 _ _ _ 9 (m,false) ho (by simp[sI,yQ])) ?_;obtain⟨⟨s1,s2⟩,hs⟩:∃ s,t.sz 9 (m,false)=s:=⟨_,rfl⟩;rw[hs];simp -implicitDefEqProofs [eC,hs,aC]
attribute [local simp] c126 in
theorem aWF(v:Vl)(m:Int)(hv:v.fine):PSp prog 126 [.agg (vlC v),.one (.t (I m))] (.one (.t (.bool (!(v.sz 8 (m,false)).2)))):=by
 have k105:=sG v hv;rw[aC2]at k105;refine k126.aI (by simp) (by simp[D.closed,A.closed]) rfl ?_;simp -implicitDefEqProofs;refine aD.imp (ISp.ok fun ho=>k105 _ _ _ 8 (m,false) ho (by simp[sI,yQ])) ?_;obtain⟨⟨s1,s2⟩,hs⟩:∃ s,v.sz 8 (m,false)=s:=⟨_,rfl⟩;rw[hs];simp -implicitDefEqProofs [eC,hs,aC]
end
section
attribute [-simp] Go.Ab.aA Go.Ab.gval
attribute [local simp] bE aM aQ aG aV aO aX tyC fdC vlC ndC aL D.cR D.pt
theorem aDV(k:Int):([2,4,5,6,11,12,15].any fun x=>x==k)=iC k:=by
 rw[Bool.eq_iff_iff];simp[iC];omega
attribute [local simp] c236 in
theorem aWG(k:Int):PSp prog 236 [.one (.t (I k))] (.one (.t (.bool (iC k)))):=by
 refine k236.aI (by simp) rfl rfl ?_;rw[←aDV];simp -implicitDefEqProofs;refine aD.pure (P46 [2,4,5,6,11,12,15] k (by simp[short])) (by simp) (by simp[ints]) ?_;simp -implicitDefEqProofs [aC]
theorem aNT(k:Int):PSp prog 235 [.one (.t (I k))] (.one (.t (.bool (cM k)))):=aUX k
attribute [local simp] c237 in
theorem aWH(t:Ty)(hn:t.narrow=true):PSp prog 237 [.agg (tyC t)] (.one (.t (.bool t.isZ))):=by
 have h:=(Ty.aU t).1 hn;obtain⟨_,h2,h3,h4,h5,_⟩:=h;have w1:IntKind.i64.wrap ((t.tags.length:Int)+(t.fields.length:Int))=((t.tags.length+t.fields.length:Nat):Int):=aH _ (by omega) (by omega);have w2:IntKind.i64.wrap ((t.tags.length:Int)+(t.fields.length:Int)+(t.of.length:Int))=((t.tags.length+t.fields.length+t.of.length:Nat):Int):=aH _ (by omega) (by omega);have w3:IntKind.i64.wrap ((t.tags.length:Int)+(t.fields.length:Int)+(t.of.length:Int)+(t.limits.length:Int))=((t.tags.length+t.fields.length+t.of.length+t.limits.length:Nat):Int):=aH _ (by omega) (by omega);obtain⟨z,hz⟩:∃ z,((((t.tags.length+t.fields.length+t.of.length+t.limits.length:Nat):Int))==0)=z:=⟨_,rfl⟩
 have e0:t.isZ=(t.kind==0&&bR t.name (bs [])&&z&& !t.opn&&t.root==0):=by
  rw[←hz,Bool.eq_iff_iff];simp[Ty.isZ,-List.length_eq_zero_iff];constructor
  ·rintro⟨⟨⟨⟨⟨⟨⟨a,b⟩,c⟩,d⟩,e⟩,f⟩,g⟩,i⟩;exact⟨⟨⟨⟨a,b⟩,by omega⟩,e⟩,f⟩
  ·rintro⟨⟨⟨⟨a,b⟩,c⟩,e⟩,f⟩;exact⟨⟨⟨⟨⟨⟨⟨a,b⟩,by omega⟩,by omega⟩,e⟩,f⟩,by omega⟩,by omega⟩
 rw[e0];refine k237.aI (by simp) (by simp[D.closed,A.closed]) rfl ?_;simp -implicitDefEqProofs [aC,bR,w1,w2,w3];rw[←hz]
 push_cast
 rfl
def Ty.fE(t:Ty):Bool:=t.tags.any nS||t.fields.any Fd.fT|| !(decide (0≤t.root)&&decide (t.root≤(t.fields.length:Int)))
theorem Fd.uR(f:Fd):f.fT=(!(decide (0≤f.pres)&&decide (f.pres≤2))||decide (f.grp<0)):=by cases f;rfl
attribute [local simp] b0R b0S b0T b0U b0V b0W b0X b0Y b0Z b00 b01 b02 b03 c195 in
theorem aKW(t:Ty)(hn:t.narrow=true)(st:St)(h1:TB t 1 st)(_hnx:0<st.nx):aZ prog 65 (aC [.tmp 2] (.one (.t (.bool (t.fields.any Fd.fT|| !(decide (0≤t.root)&&decide (t.root≤(t.fields.length:Int)))))))) b02 [] st:=by
 have h:=(Ty.aU t).1 hn;obtain⟨_,h2',h3,h4,h5,_⟩:=h;obtain⟨h1,h2⟩:=h1;obtain⟨o1,o2,o3,o4⟩:=aK h2;obtain⟨w,hw⟩:∃ w,(decide (0≤t.root)&&decide (t.root≤(t.fields.length:Int)))=w:=⟨_,rfl⟩;rw[hw];simp -implicitDefEqProofs;refine bS t.fields Fd.fT [1] [0] (fun i st=>st.tmps 5= .one (.t (I i))) (by simp[short];omega) ⟨by simp,by simp,by simp[]⟩ ?_ ?_
 ·intro i f st' hi hiI hw' hg hy hany hx hk hh;simp[h1]at hk hh;obtain⟨o1,o2,o3,o4⟩:=aK (hh.1.trans h2);rw[Fd.uR]at hany ⊢;simp -implicitDefEqProofs [h1,hx,hk,hi,hiI,o1,o2,o3,aE hg,Fd.aP,-List.getElem_map];refine aD.tree (dG _ _ _) rfl ?_;obtain⟨a,ha⟩:∃ a,(decide (0≤f.pres)&&decide (f.pres≤2))=a:=⟨_,rfl⟩;rw[ha]at hany ⊢;rcases bb a with rfl | rfl
  ·rcases pX f.grp 0 with q | q
   ·simp -implicitDefEqProofs [hk,hx,hi,hiI,o1,o2,o3,aE hg,Fd.aP,-List.getElem_map,q,aC];left;simpa using hany (by simp[q])
   ·simp -implicitDefEqProofs [hk,hx,hi,hiI,hw',o1,o2,o3,aE hg,Fd.aP,-List.getElem_map,q];exact⟨by simpa using ha,hh.1⟩
  ·simp -implicitDefEqProofs [aC];left;simpa using hany (by simp)
 ·intro st' hany hx hk hh;simp[h1]at hk hh;obtain⟨o1,o2,o3,o4⟩:=aK (hh.1.trans h2);rw[hany];simp -implicitDefEqProofs [hk,hx,o1,o2,o3];refine aD.tree (dG _ _ _) rfl ?_;rw[hw];simp -implicitDefEqProofs [aC]
attribute [local simp] b0R b0S b0T b0U b0V b0W b0X b0Y b0Z b00 b01 b03 c195 in
theorem aWI(t:Ty)(hn:t.narrow=true):PSp prog 195 [.agg (tyC t)] (.one (.t (.bool t.fE))):=by
 have h:=(Ty.aU t).1 hn;obtain⟨_,h2',h3,h4,h5,_⟩:=h;have rest:=aKW t hn;have e0:t.fE=(t.tags.any nS||(t.fields.any Fd.fT|| !(decide (0≤t.root)&&decide (t.root≤(t.fields.length:Int))))):=by simp only[Ty.fE,Bool.or_assoc]
 rw[e0];generalize (t.fields.any Fd.fT|| !(decide (0≤t.root)&&decide (t.root≤(t.fields.length:Int))))=R at*;refine k195.aI (by simp) (by simp[D.closed,A.closed]) rfl ?_;simp -implicitDefEqProofs;refine bS t.tags nS [1] [0] (fun i st=>st.tmps 3= .one (.t (I i))) (by simp[short];omega) ⟨by simp,by simp,by simp[Hp.set]⟩ ?_ ?_
 ·rintro i ⟨c,n,w⟩ st hi hiI hw hg hy hany hx hk hh;simp[Hp.set]at hk hh;obtain⟨o1,o2,o3,o4⟩:=aK hh.1;have hne:¬ 0=st.nx+5+5:=by omega
  have wX:¬ 0=st.nx+10:=by omega
  have hbad:nS ⟨c,n,w⟩=(!(decide (1≤c)&&decide (c≤3))|| !(decide (0≤n)&&decide (n≤100000))|| !(decide (0≤w)&&decide (w≤2))):=rfl;rw[hbad]at hany ⊢;obtain⟨a,ha⟩:∃ a,(decide (1≤c)&&decide (c≤3))=a:=⟨_,rfl⟩;obtain⟨b,hb⟩:∃ a,(decide (0≤n)&&decide (n≤100000))=a:=⟨_,rfl⟩;obtain⟨d,hd⟩:∃ a,(decide (0≤w)&&decide (w≤2))=a:=⟨_,rfl⟩;rw[ha,hb,hd]at hany ⊢;simp -implicitDefEqProofs [hx,hk,hi,hiI,o1,o2,o3,aE hg,Tg.row,-List.getElem_map];refine aD.tree (dG _ _ _) rfl ?_;rw[ha];rcases bb a with rfl | rfl
  ·simp -implicitDefEqProofs;refine aD.tree (dG _ _ _) rfl ?_;rw[hb];rcases bb b with rfl | rfl
   ·simp -implicitDefEqProofs;refine aD.tree (dG _ _ _) rfl ?_;rw[hd];rcases bb d with rfl | rfl
    ·simp -implicitDefEqProofs [hx,hk,hw];simp[Hp.set,hh.1]
    ·simp -implicitDefEqProofs [aC];left;simpa using hany (by simp)
   ·simp -implicitDefEqProofs [aC];left;simpa using hany (by simp)
  ·simp -implicitDefEqProofs [aC];left;simpa using hany (by simp)
 ·intro st hany hx hk hh;simp[Hp.set]at hk hh;obtain⟨o1,o2,o3,o4⟩:=aK hh.1;rw[hany];simp -implicitDefEqProofs [hk,hx,o1,o2,o3];exact rest _ ⟨by simp[hk],by simp[hh]⟩ (by simp)
def Fd.bM(k root:Int)(i:Nat)(f:Fd):Bool:=
 (f.num != 0&&k != 3)||(!bR f.name (bs [])&&k==15)||(!f.ty.isZ&&(k==3||k==14))||(!cM k&&(f.pres != 0||decide (0<f.dflt.length)||f.grp != 0))||(k==13&&f.pres != 0)||(decide (0<f.dflt.length)&&f.pres != 2)||(f.grp != 0&&decide ((i:Int)<root))
def kP(k root:Int)(l:List Fd)(i:Nat):Bool:=match l[i]? with | some f=>f.bM k root i | none=>false
def Ty.kG(t:Ty):Bool:=
 fL (t.kind==6||t.kind==14||t.kind==15) (bR t.name (bs [])) (cM t.kind||t.kind==3||t.kind==14||t.kind==15) (decide (0<t.fields.length)) (cM t.kind||t.kind==3) t.opn (t.root != 0) (t.root != (t.fields.length:Int))||
  (!mZ t.kind&&decide (0<t.of.length))||(!iC t.kind&&decide (0<t.limits.length))||(List.range t.fields.length).any (kP t.kind t.root t.fields)
end
section
attribute [-simp] Go.Ab.aA Go.Ab.gval
attribute [local simp] bE aM aQ aG aV aO aX tyC fdC vlC ndC aL D.cR D.pt
attribute [local simp] a2d a2e a2f a2g a2h a2i a2j a2k a2l a2m a2n a2o a2p a2q a2r c196 in
theorem aQ6(f:Fd)(k root:Int)(t:Ty)(hk0:t.kind=k)(hr0:t.root=root)(i:Nat)(A:Exit→St→Prop)(ks:List KF)(st:St)(id:Nat)(h1:TB t 1 st)(h7:st.tmps 7= .one (.t (I i)))(h8:st.tmps 8= .one (.ptr ⟨id,0,13,0,0⟩))(hid:st.heap id=some (.arr 0 false 13 [fdC f]))(x _y:Bool)
  (hR:((!cM k&&(f.pres != 0||decide (0<f.dflt.length)||f.grp != 0))||(k==13&&f.pres != 0)||(decide (0<f.dflt.length)&&f.pres != 2)||(f.grp != 0&&decide ((i:Int)<root)))=x)
  (hok:x=false→∀st',dD [1,7] st.tmps st'.tmps→st'.heap=st.heap→st.nx≤st'.nx→cX prog 222 A ks .normal st') (hbad:x=true→∀st',st'.tmps 2= .one (.t (.bool true))→cX prog 222 A ks .ret st'):
  aZ prog 222 A a2h ks st:=by
 obtain⟨h1,h2⟩:=h1;obtain⟨o1,o2,o3,o4⟩:=aK h2;obtain⟨p1,p2,p3,p4⟩:=aK hid;obtain⟨g,eg⟩:∃ x,cM k=x:=⟨_,rfl⟩;obtain⟨a,ea⟩:∃ x,(f.pres != 0)=x:=⟨_,rfl⟩;obtain⟨b,eb⟩:∃ x,decide (0<f.dflt.length)=x:=⟨_,rfl⟩;obtain⟨c,ec⟩:∃ x,(f.grp != 0)=x:=⟨_,rfl⟩;obtain⟨d,ed⟩:∃ x,(k==13)=x:=⟨_,rfl⟩;obtain⟨e,ee⟩:∃ x,(f.pres != 2)=x:=⟨_,rfl⟩;obtain⟨z,ez⟩:∃ x,decide ((i:Int)<root)=x:=⟨_,rfl⟩;obtain⟨u1,m1⟩:∃ x,(a||b)=x:=⟨_,rfl⟩;obtain⟨u2,m2⟩:∃ x,(u1||c)=x:=⟨_,rfl⟩;obtain⟨u3,m3⟩:∃ x,(!g&&u2)=x:=⟨_,rfl⟩;obtain⟨u4,m4⟩:∃ x,(d&&a)=x:=⟨_,rfl⟩;obtain⟨u5,m5⟩:∃ x,(u3||u4)=x:=⟨_,rfl⟩;obtain⟨u6,m6⟩:∃ x,(b&&e)=x:=⟨_,rfl⟩;obtain⟨u7,m7⟩:∃ x,(u5||u6)=x:=⟨_,rfl⟩;obtain⟨u8,m8⟩:∃ x,(c&&z)=x:=⟨_,rfl⟩;obtain⟨u9,m9⟩:∃ x,(u7||u8)=x:=⟨_,rfl⟩;simp only[eg,ea,eb,ec,ed,ee,ez,m1,m2,m3,m4,m5,m6,m7,m8,m9]at hR;subst hR;have sN:=aNT k;rw[eg]at sN;simp -implicitDefEqProofs [h1,o1,o2,o3,hk0,hr0];refine aD.tree sN rfl ?_;simp -implicitDefEqProofs [h1,h7,h8,o1,o2,o3,p1,p2,p3,hk0,hr0,ea,eb,ec,ed,ee,ez,m1,m2,m3,m4,m5,m6,m7,m8,m9,-Bool.not_or,-Bool.not_and];refine⟨fun h=>by simp[h],fun h=>by simp[h],fun h=>by simp[h],fun h=>by simp[h],fun h=>by simp[h],fun h=>?_,fun h=>?_⟩
 ·exact hbad h _ (by simp)
 ·exact hok h _ (by simp) rfl (by simp<;>omega)
attribute [local simp] a2d a2e a2f a2g a2i a2j a2k a2l a2m a2n a2o a2p a2q a2r c196 in
theorem aQ7(f:Fd)(hn:f.ty.narrow=true)(k root:Int)(t:Ty)(hk0:t.kind=k)(hr0:t.root=root)(i:Nat)(A:Exit→St→Prop)(ks:List KF)(st:St)(id:Nat)(h1:TB t 1 st)(h7:st.tmps 7= .one (.t (I i)))(h8:st.tmps 8= .one (.ptr ⟨id,0,13,0,0⟩))(hid:st.heap id=some (.arr 0 false 13 [fdC f]))(x:Bool)
  (hR:f.bM k root i=x)
  (hok:x=false→∀st',dD [1,7] st.tmps st'.tmps→st'.heap=st.heap→st.nx≤st'.nx→cX prog 222 A ks .normal st') (hbad:x=true→∀st',st'.tmps 2= .one (.t (.bool true))→cX prog 222 A ks .ret st'):
  aZ prog 222 A a2i ks st:=by
 have rest:=aQ6 f k root t hk0 hr0 i A ks;obtain⟨h1,h2⟩:=h1;obtain⟨o1,o2,o3,o4⟩:=aK h2;obtain⟨p1,p2,p3,p4⟩:=aK hid;obtain⟨a,ea⟩:∃ x,(f.num != 0)=x:=⟨_,rfl⟩;obtain⟨b,eb⟩:∃ x,(k != 3)=x:=⟨_,rfl⟩;obtain⟨c,ec⟩:∃ x,(f.name.toList==(bs []).toList)=x:=⟨_,rfl⟩;obtain⟨d,ed⟩:∃ x,(k==15)=x:=⟨_,rfl⟩;obtain⟨e,ee⟩:∃ x,(k==3)=x:=⟨_,rfl⟩;obtain⟨z,ez⟩:∃ x,(k==14)=x:=⟨_,rfl⟩;obtain⟨q,eq⟩:∃ x,f.ty.isZ=x:=⟨_,rfl⟩;obtain⟨u1,m1⟩:∃ x,(a&&b)=x:=⟨_,rfl⟩;obtain⟨u2,m2⟩:∃ x,(!c&&d)=x:=⟨_,rfl⟩;obtain⟨u3,m3⟩:∃ x,(u1||u2)=x:=⟨_,rfl⟩;obtain⟨u4,m4⟩:∃ x,(e||z)=x:=⟨_,rfl⟩;obtain⟨u5,m5⟩:∃ x,(!q&&u4)=x:=⟨_,rfl⟩;obtain⟨u6,m6⟩:∃ x,(u3||u5)=x:=⟨_,rfl⟩;obtain⟨y,ey⟩:∃ y,((!cM k&&(f.pres != 0||decide (0<f.dflt.length)||f.grp != 0))||(k==13&&f.pres != 0)||(decide (0<f.dflt.length)&&f.pres != 2)||(f.grp != 0&&decide ((i:Int)<root)))=y:=⟨_,rfl⟩
 have ex:x=(u6||y):=by
  rw[←hR,←ey];simp only[Fd.bM,bR,ea,eb,ec,ed,ee,ez,eq,m1,m2,m3,m4,m5,m6,Bool.or_assoc]
  try(rw[←m6,←m3];simp only[Bool.or_assoc])
 simp -implicitDefEqProofs [h1,h8,o1,o2,o3,p1,p2,p3,hk0,hr0,ea,eb,ec,ed,m1,m2,m3,-Bool.not_or,-Bool.not_and];refine⟨fun h=>by simp[h],fun h=>?_,fun h=>?_⟩
 ·subst h;refine aD.tree (aWH f.ty hn) rfl ?_;rw[eq];have m6':u5=u6:=by simpa using m6
  subst m6';simp -implicitDefEqProofs [h1,o1,o2,o3,hk0,hr0,ee,ez,m4,m5,-Bool.not_or,-Bool.not_and];refine⟨fun h=>by simp[h],fun h=>?_,fun h=>?_⟩
  ·exact hbad (by rw[ex,h];rfl) _ (by simp)
  ·refine rest _ id ⟨by simp[h1],by simp[h2]⟩ (by simp[h7]) (by simp[h8]) (by simp[hid]) y y ey (fun hx st' k1 k2 k3=>?_) fun hx st' k2=>hbad (by rw[ex,hx];simp) _ k2
   refine hok (by rw[ex,h,hx];rfl) st' (by simpa using k1) (by simpa using k2) (by simp at k3;omega)
 ·subst h;have hu:u6=true:=by rw[←m6];rfl
  simp -implicitDefEqProofs;exact hbad (by rw[ex,hu];rfl) _ (by simp)
attribute [local simp] a2d a2e a2f a2g a2h a2j a2k a2l a2m a2n a2o a2p a2q a2r c196 in
theorem aQ8(t:Ty)(hn:t.narrow=true)(st:St)(h1:TB t 1 st)(_hnx:0<st.nx):aZ prog 222 (aC [.tmp 2] (.one (.t (.bool ((List.range t.fields.length).any (kP t.kind t.root t.fields)))))) a2m [] st:=by
 have hnr:=(Ty.aU t).1 hn;obtain⟨h1,h2⟩:=h1;obtain⟨o1,o2,o3,o4⟩:=aK h2;have hle:=hnr.2.2.1;simp -implicitDefEqProofs;refine bS (List.range t.fields.length) (kP t.kind t.root t.fields) [1] [0] (fun i st=>st.tmps 7= .one (.t (I i))) (by simp[short];omega) ⟨by simp,by simp,by simp[]⟩ ?_ ?_
 ·intro i y st' hi hiI hw hg hy hany hx hk hh;obtain rfl:=iJ hg;simp[h1]at hk hh;have hi':y<t.fields.length:=by simpa using hi
  have aIJ:(y:Int)<(t.fields.length:Int):=by omega
  have q1:t.fields[y]? =some t.fields[y]:=gE9 hi';have hfn:=((Fd.aU _).1 (hnr.2.2.2.2.2.2.1 _ (gM9 q1))).2.2.1;have hd:kP t.kind t.root t.fields y=(t.fields[y]).bM t.kind t.root y:=by simp[kP,q1]
  rw[hd]at hany ⊢;generalize t.fields[y]=f at*;obtain⟨o1,o2,o3,o4⟩:=aK (hh.1.trans h2);have hne:¬ 0=st'.nx+5+5:=by omega
  simp -implicitDefEqProofs [h1,hx,hk,hi',aIJ,o1,o2,o3,aE q1,Fd.aP,-List.getElem_map];refine aQ7 f hfn _ _ t rfl rfl y _ _ _ (st'.nx+5+5) ⟨by simp[hk],?_⟩ (by simp[hx]) (by simp) (by simp[Hp.set]) (f.bM t.kind t.root y) rfl (fun hf st2 k1 k2 k3=>?_) fun hf st2 k2=>?_
  ·simp only[Hp.set];rw[if_neg hne];exact hh.1.trans h2
  ·simp at k1;simp -implicitDefEqProofs [k1,hk,hx,hw];refine⟨hf,?_⟩;rw[k2];simp only[Hp.set];rw[if_neg hne];exact hh.1
  ·simp -implicitDefEqProofs [aC,k2];simpa using hany hf
 ·intro st' hany hx hk hh;simp[h1]at hk hh;simp only[List.length_range]at hx;obtain⟨o1,o2,o3,o4⟩:=aK (hh.1.trans h2);rw[hany];simp -implicitDefEqProofs [hk,hx,o1,o2,o3,aC]
attribute [local simp] a2d a2e a2f a2g a2h a2i a2j a2k a2l a2n a2o a2p a2q a2r c196 in
theorem aQ9(t:Ty)(hn:t.narrow=true)(a c e l:Bool)(st:St)(h1:TB t 1 st)(_hnx:0<st.nx)(h3:st.tmps 3= .one (.t (.bool a)))(h4:st.tmps 4= .one (.t (.bool c)))(h5:st.tmps 5= .one (.t (.bool e)))(h6:st.tmps 6= .one (.t (.bool l)))(R:Bool)
  (hR:(fL a (bR t.name (bs [])) c (decide (0<t.fields.length)) e t.opn (t.root != 0) (t.root != (t.fields.length:Int))||(!l&&decide (0<t.of.length))||(!iC t.kind&&decide (0<t.limits.length))||(List.range t.fields.length).any (kP t.kind t.root t.fields))=R):
  aZ prog 222 (aC [.tmp 2] (.one (.t (.bool R)))) a2n [] st:=by
 have rest:=aQ8 t hn;obtain⟨h1,h2⟩:=h1;obtain⟨o1,o2,o3,o4⟩:=aK h2;obtain⟨b,e0⟩:∃ b,(t.name.toList==(bs []).toList)=b:=⟨_,rfl⟩;obtain⟨d,e1⟩:∃ b,decide (0<t.fields.length)=b:=⟨_,rfl⟩;obtain⟨p,e2⟩:∃ b,(t.root==0)=b:=⟨_,rfl⟩;obtain⟨q,e3⟩:∃ b,(t.root==(t.fields.length:Int))=b:=⟨_,rfl⟩;obtain⟨m,e4⟩:∃ b,decide (0<t.of.length)=b:=⟨_,rfl⟩;obtain⟨v,e5⟩:∃ b,decide (0<t.limits.length)=b:=⟨_,rfl⟩;have e0':bR t.name (bs [])=b:=e0;simp only[e0',e1,bne,e2,e3,e4,e5]at hR;generalize (List.range t.fields.length).any (kP t.kind t.root t.fields)=W at*;obtain⟨x1,f1⟩:∃ x,(!a&& !b)=x:=⟨_,rfl⟩;obtain⟨x2,f2⟩:∃ x,(!c&&d)=x:=⟨_,rfl⟩;obtain⟨y2,f3⟩:∃ x,(x1||x2)=x:=⟨_,rfl⟩;obtain⟨x3,f4⟩:∃ x,(t.opn|| !p)=x:=⟨_,rfl⟩;obtain⟨x4,f5⟩:∃ x,(!e&&x3)=x:=⟨_,rfl⟩;obtain⟨y3,f6⟩:∃ x,(y2||x4)=x:=⟨_,rfl⟩;obtain⟨x5,f7⟩:∃ x,(e&& !t.opn)=x:=⟨_,rfl⟩;obtain⟨x6,f8⟩:∃ x,(x5&& !q)=x:=⟨_,rfl⟩;obtain⟨y4,f9⟩:∃ x,(y3||x6)=x:=⟨_,rfl⟩;obtain⟨x7,f10⟩:∃ x,(!l&&m)=x:=⟨_,rfl⟩;obtain⟨y5,f11⟩:∃ x,(y4||x7)=x:=⟨_,rfl⟩;have ef:fL a b c d e t.opn (!p) (!q)=y4:=by simp only[fL,f1,f2,f4,f5,f7,f8,f3,f6,f9]
 rw[ef,f10,f11]at hR;simp -implicitDefEqProofs [h1,h3,h4,h5,h6,o1,o2,o3,e0,e1,e2,e3,e4,e5,bne,f1,f2,f3,f4,f5,f6,f7,f8,f9,f10,f11,-Bool.not_or,-Bool.not_and];refine⟨fun h=>by simp[h],fun h h'=>by simp[h,h'],fun h=>by simp[h],fun h=>by simp[h],fun h=>by simp[h],fun h=>by simp[h],fun h=>?_,fun h=>?_⟩
 ·subst h;refine aD.tree (aWG _) rfl ?_;rcases bb (iC t.kind)with g2 | g2
  ·rw[g2]at hR ⊢;have hRW:W=R:=by simpa using hR
   subst hRW;simp -implicitDefEqProofs;exact rest _ ⟨by simp[h1],by simp[h2]⟩ (by simp<;>omega)
  ·rw[g2]at hR ⊢;cases v
   ·have hRW:W=R:=by simpa using hR
    subst hRW;simp -implicitDefEqProofs [h1,o1,o2,o3,e5];exact rest _ ⟨by simp[h1],by simp[h2]⟩ (by simp<;>omega)
   ·have hRW:true=R:=by simpa using hR
    subst hRW;simp -implicitDefEqProofs [h1,o1,o2,o3,e5,aC]
 ·subst h;have hRW:true=R:=by simpa using hR
  subst hRW;simp -implicitDefEqProofs [aC]
attribute [local simp] a2d a2e a2f a2g a2h a2i a2j a2k a2l a2m a2o a2p a2q a2r c196 in
theorem aWJ(t:Ty)(hn:t.narrow=true):PSp prog 196 [.agg (tyC t)] (.one (.t (.bool t.kG))):=by
 refine k196.aI (by simp) (by simp[D.closed,A.closed]) rfl ?_;obtain⟨a,ea⟩:∃ x,(t.kind==6||t.kind==14||t.kind==15)=x:=⟨_,rfl⟩;obtain⟨g,eg⟩:∃ x,cM t.kind=x:=⟨_,rfl⟩;obtain⟨e,ee⟩:∃ x,(g||t.kind==3)=x:=⟨_,rfl⟩;obtain⟨e',ee'⟩:∃ x,(e||t.kind==14)=x:=⟨_,rfl⟩;obtain⟨c,ec⟩:∃ x,(e'||t.kind==15)=x:=⟨_,rfl⟩;obtain⟨l,el⟩:∃ x,(t.kind==11||t.kind==12)=x:=⟨_,rfl⟩;have il:mZ t.kind=l:=el;have rest:=aQ9 t hn a c e l;have sN:=aNT t.kind;rw[eg]at sN
 have eR:(fL a (bR t.name (bs [])) c (decide (0<t.fields.length)) e t.opn (t.root != 0) (t.root != (t.fields.length:Int))||(!l&&decide (0<t.of.length))||(!iC t.kind&&decide (0<t.limits.length))||(List.range t.fields.length).any (kP t.kind t.root t.fields))=t.kG:=by
  simp only[Ty.kG,ea,eg,ee,ee',ec,il]
 simp -implicitDefEqProofs [ea];refine aD.tree sN rfl ?_;simp -implicitDefEqProofs [ee,ee',ec,-Bool.not_or];refine aD.tree sN rfl ?_;simp -implicitDefEqProofs [ee,el,-Bool.not_or];exact rest _ ⟨by simp,by simp[Hp.set]⟩ (by simp) (by simp) (by simp) (by simp) (by simp) _ eR
end
section
attribute [-simp] Go.Ab.aA Go.Ab.gval
attribute [local simp] bE aM aQ aG aV aO aX tyC fdC vlC ndC aL D.cR D.pt
attribute [local simp] c239 in
theorem aWK(s:ByteArray):PSp prog 239 [.one (.t (.str s))] (.one (.t (.bool (gY s)))):=by
 refine k239.aI (by simp) rfl rfl ?_;simp -implicitDefEqProofs;refine aD.pure (aS3 jC s (by simp[short,jC])) (by simp) (by simp[jC]) ?_;simp -implicitDefEqProofs [aC];simp only[aIF,gY,bR];congr 1;funext x;exact Bool.beq_comm ..
def BS(bg:List Nat)(tm:Nat→D)(h:Hp)(nx:Nat):Prop:=(bg=[]∧tm 3= .one (.tt 1 []))∨(bg≠[]∧∃id ver,tm 3= .one (.ref id ver 0 bg.length 1 false)∧h id=some (.arr ver false 1 (bg.map fun(n:Nat)=>[.t (I n)]))∧id<nx)
theorem BS.more{bg:List Nat}{tm tm':Nat→D}{h h':Hp}{nx nx':Nat}(hb:BS bg tm h nx)(h3:tm' 3=tm 3)(hh:h'=h)(hn:nx≤nx'):BS bg tm' h' nx':=by
 subst hh;rcases hb with⟨g1,g2⟩ | ⟨g1,id,ver,g2,g3,g4⟩
 ·exact .inl ⟨g1,h3.trans g2⟩
 ·exact .inr ⟨g1,id,ver,h3.trans g2,g3,by omega⟩
theorem BS.aSQ{bg:List Nat}{tm tm':Nat→D}{h h':Hp}{nx nx':Nat}(hb:BS bg tm h nx)(h3:tm' 3=tm 3)(hh:∀ j,j<nx→h' j=h j)(hn:nx≤nx'):BS bg tm' h' nx':=by
 rcases hb with⟨g1,g2⟩ | ⟨g1,id,ver,g2,g3,g4⟩
 ·exact .inl ⟨g1,h3.trans g2⟩
 ·exact .inr ⟨g1,id,ver,h3.trans g2,by rw[hh _ g4];exact g3,by omega⟩
attribute [local simp] a4U a4V a4W a4X a4Y a4Z a42 a43 a45 a47 a48 a5a a5b a5c a5d a5e a5f a5g a5h a3h a5i a5j a5k a5l a5m a5n a5o a5p a5q c238 in
theorem aSR(x:Nd)(bg:List Nat)(hbg:∀ (j b:Nat),bg[j]? =some b→b≤j)(hsm:bg.length≤20)(has:x.args.length≤1000000)(i5:Nat)(A:Exit→St→Prop)(ks:List KF)(st:St)
  (h4:st.tmps 4= .one (.t (I bg.length))) (h5:st.tmps 5= .one (.ptr ⟨i5,0,5,0,0⟩)) (h5':st.heap i5=some (.arr 0 false 5 [ndC x])) (hb:BS bg st.tmps st.heap st.nx)
  (hnone:dU bg x=none→∀st',st'.tmps 2= .one (.t (.bool false))→cX prog 115 A ks .ret st')
  (hsome:∀ n,dU bg x=some n→n≤bg.length→∀st',dD [0,4] st.tmps st'.tmps→BS (bg++[n]) st'.tmps st'.heap st'.nx→st.nx≤st'.nx→cX prog 115 A ks .normal st'):
  aZ prog 115 A a5g ks st:=by
 obtain⟨o1,o2,o3,o4⟩:=aK h5';have w0:IntKind.i64.wrap ((x.args.length:Int) - 1)=(x.args.length:Int) - 1:=wrap_i64 (by omega) (by omega);simp -implicitDefEqProofs [h4,h5,o1,o2,o3,w0];refine W.cU (fun j st'=>∃ nxt:Nat,j≤x.args.length∧nxt≤bg.length∧st'.tmps 10= .one (.t (I ((j:Int) - 1)))∧st'.tmps 9= .one (.t (I nxt))∧gK bg (x.args.take j).reverse nxt=dU bg x∧dD [0,3,4,5] st.tmps st'.tmps∧st'.heap=st.heap∧st.nx≤st'.nx) x.args.length ⟨bg.length,by omega,by omega,by simp,by simp,by simp[dU],by simp[h4,h5],by simp,by simp<;>omega⟩ ?_;rintro j st' ⟨nxt,hj,hn,k10,k9,hx,kt,kh,kn⟩;simp only[rF,tQ,h4,h5,and_true]at kt;obtain⟨kt0,kt3,kt4,kt5⟩:=kt;rw[←kh]at o1 o2 o3 o4;rcases Nat.eq_zero_or_pos j with rfl | hpos
 ·simp[gK]at hx;have hsome':=hsome nxt hx.symm hn;rcases hb with⟨g1,g2⟩ | ⟨g1,id,ver,g2,g3,g4⟩
  ·simp -implicitDefEqProofs [k10,k9,kt3,g2,h4];refine hsome' _ (by simp[kt0,kt4,h4]) (.inr ⟨by simp,st'.nx+2+3,0,?_⟩) (by simp<;>omega);subst g1;simp[Hp.set]
  ·rw[←kh]at g3;obtain⟨p1,p2,p3,p4⟩:=aK g3;simp -implicitDefEqProofs [k10,k9,kt3,g2,h4,p1,p2,p3,p4];refine⟨by omega,hsome' _ (by simp[kt0,kt4,h4]) (.inr ⟨by simp,id,ver+1,?_⟩) (by simp<;>omega)⟩;simp[Hp.set];omega
 ·obtain⟨i,rfl⟩:∃ i,j=i+1:=⟨j - 1,by omega⟩;have hi:i<x.args.length:=by omega
  have hiI:(i:Int)<(x.args.length:Int):=by omega
  have q1:x.args[i]? =some x.args[i]:=gE9 hi
  have htk:(x.args.take (i+1)).reverse=x.args[i]::(x.args.take i).reverse:=by
   rw[List.take_add_one,q1];simp
  rw[htk,gK]at hx;generalize x.args[i]=a at*;have hiW:((i+1:Nat):Int) - 1=(i:Int):=by omega
  rw[hiW]at k10;have hge:(0:Int)≤(i:Int):=by omega
  have hwr:IntKind.i64.wrap ((nxt:Int) - 1)=(nxt:Int) - 1:=wrap_i64 (by omega) (by omega);have hwi:IntKind.i64.wrap ((i:Int) - 1)=(i:Int) - 1:=wrap_i64 (by omega) (by omega)
  by_cases hz:nxt=0
  ·subst hz;simp at hx;simp -implicitDefEqProofs [k10,k9,kt5,o1,o2,o3];exact hnone hx.symm _ (by simp)
  ·have hzI:¬ (nxt:Int)=0:=by omega
   have hzB:((nxt:Int)==0)=false:=by simp[hz]
   by_cases hne:a=(nxt:Int) - 1
   ·rw[if_neg (by simp[hz,hne])]at hx;have hne':bg≠[]:=fun e=>by rw[e]at hn;simp at hn;omega
    rcases hb with⟨g1,_⟩ | ⟨g1,id,ver,g2,g3,g4⟩
    ·exact absurd g1 hne'
    ·rw[←kh]at g3;obtain⟨p1,p2,p3,p4⟩:=aK g3;obtain⟨m,rfl⟩:∃ m:Nat,nxt=m+1:=⟨nxt - 1,by omega⟩;have hmI:((m+1:Nat):Int) - 1=(m:Int):=by omega
     rw[hmI]at hwr hne;have hm1:(m:Int)<bg.length:=by omega
     have hm2:m<bg.length:=by omega
     have hgd:bg.getD m 0=bg[m]:=by simp[List.getD_eq_getElem?_getD,gE9 hm2]
     rw[Nat.add_sub_cancel,hgd]at hx;simp only[Int.natCast_add,Int.natCast_one]at hzI hzB hwr k9;simp -implicitDefEqProofs [k10,k9,kt5,o1,o2,o3,kt3,g2,p1,p2,p3,hzB,hwr,hwi,hm1,hm2,hi,hiI,aE q1,hne,kt0,kt4,h4];refine⟨i,by omega,by omega,bg[m],by have:=hbg m bg[m] (gE9 hm2);omega,?_⟩;simp[hx,kh,h5];omega
   ·rw[if_pos (.inr hne)]at hx;have aWL:(a==(nxt:Int) - 1)=false:=by simp[hne]
    simp -implicitDefEqProofs [k10,k9,kt5,o1,o2,o3,hzB,hwr,hi,hiI,aE q1,aWL,bne];exact hnone hx.symm _ (by simp)
attribute [local simp] a4U a4V a4W a4X a4Y a4Z a42 a43 a45 a47 a48 a5a a5b a5c a5d a5e a5f a5h a3h a5i a5j a5k a5l a5m a5n a5o a5p a5q c238 in
theorem aSS(x:Nd)(bg:List Nat)(hbg:∀ (j b:Nat),bg[j]? =some b→b≤j)(hsm:bg.length≤20)(has:x.args.length≤1000000)(i5:Nat)(A:Exit→St→Prop)(ks:List KF)(st:St)(lo hi:Int)
  (h4:st.tmps 4= .one (.t (I bg.length))) (h5:st.tmps 5= .one (.ptr ⟨i5,0,5,0,0⟩)) (h5':st.heap i5=some (.arr 0 false 5 [ndC x])) (hb:BS bg st.tmps st.heap st.nx) (h6:st.tmps 6= .one (.t (I lo))) (h7:st.tmps 7= .one (.t (I hi)))
  (hr:x.right=((decide (0≤x.k)&&decide (x.k≤7))&&(decide (lo≤(x.args.length:Int))&&decide ((x.args.length:Int)≤hi))))
  (hnone:(x.ok=false∨dU bg x=none)→∀st',st'.tmps 2= .one (.t (.bool false))→cX prog 115 A ks .ret st')
  (hsome:x.ok=true→∀n,dU bg x=some n→n≤bg.length→∀st',dD [0,4] st.tmps st'.tmps→BS (bg++[n]) st'.tmps st'.heap st'.nx→st.nx≤st'.nx→cX prog 115 A ks .normal st'):
  aZ prog 115 A a3h ks st:=by
 obtain⟨o1,o2,o3,o4⟩:=aK h5';obtain⟨a,ea⟩:∃ y,(x.k==0)=y:=⟨_,rfl⟩;obtain⟨b,eb⟩:∃ y,(x.lo==0)=y:=⟨_,rfl⟩;obtain⟨c,ec⟩:∃ y,(x.hi==0)=y:=⟨_,rfl⟩;obtain⟨d,ed⟩:∃ y,(x.k==1)=y:=⟨_,rfl⟩;obtain⟨e,ee⟩:∃ y,(x.s.toList==(bs []).toList)=y:=⟨_,rfl⟩;obtain⟨u1,m1⟩:∃ y,(b&&c)=y:=⟨_,rfl⟩;obtain⟨u2,m2⟩:∃ y,(a||u1)=y:=⟨_,rfl⟩;obtain⟨u3,m3⟩:∃ y,(d||e)=y:=⟨_,rfl⟩;obtain⟨u4,m4⟩:∃ y,(u2&&u3)=y:=⟨_,rfl⟩;obtain⟨w1,n1⟩:∃ y,(decide (0≤x.k)&&decide (x.k≤7))=y:=⟨_,rfl⟩;obtain⟨w2,n2⟩:∃ y,(decide (lo≤(x.args.length:Int))&&decide ((x.args.length:Int)≤hi))=y:=⟨_,rfl⟩;rw[n1,n2]at hr
 have hok:x.ok=(w1&&w2&&u4):=by
  rw[←m4,←m3,←m2,←m1,←ea,←eb,←ec,←ed,←ee,←hr];rw[Bool.eq_iff_iff];simp[Nd.ok,and_assoc]
 simp -implicitDefEqProofs [h5,o1,o2,o3,ea,eb,ec,ed,ee,m1,m2,m3,m4,-Bool.not_or,-Bool.not_and];refine⟨fun h=>by simp[h],fun h=>by simp[h],?_⟩;refine aD.tree (dG _ _ _) rfl ?_;rw[n1];rcases bb w1 with rfl | rfl
 ·simp -implicitDefEqProofs [h5,h6,h7,o1,o2,o3];refine aD.tree (dG _ _ _) rfl ?_;rw[n2];rcases bb w2 with rfl | rfl
  ·rcases bb u4 with rfl | rfl
   ·simp -implicitDefEqProofs;refine aSR x bg hbg hsm has i5 _ _ _ (by simp[h4]) (by simp[h5]) h5' (hb.more (by simp) rfl (by simp<;>omega)) (fun h=>hnone (.inr h)) fun n h1 h2 st' k1 k2 k3=>hsome (by simpa using hok) n h1 h2 st' ?_ k2 ?_
    ·simpa using k1
    ·simp at k3;omega
   ·simp -implicitDefEqProofs;exact hnone (.inl (by simpa using hok)) _ (by simp)
  ·simp -implicitDefEqProofs;exact hnone (.inl (by simpa using hok)) _ (by simp)
 ·simp -implicitDefEqProofs;exact hnone (.inl (by simpa using hok)) _ (by simp)
attribute [local simp] a4U a4V a4W a4X a4Y a4Z a42 a43 a45 a47 a48 a5a a5b a5c a5d a5e a5f a5g a5h a5i a5j a5k a5l a5m a5n a5o a5p a5q c238 in
theorem aST(x:Nd)(bg:List Nat)(hbg:∀ (j b:Nat),bg[j]? =some b→b≤j)(hsm:bg.length≤20)(has:x.args.length≤1000000)(i5:Nat)(A:Exit→St→Prop)(ks:List KF)(st:St)
  (h4:st.tmps 4= .one (.t (I bg.length))) (h5:st.tmps 5= .one (.ptr ⟨i5,0,5,0,0⟩)) (h5':st.heap i5=some (.arr 0 false 5 [ndC x])) (hb:BS bg st.tmps st.heap st.nx) (h6:st.tmps 6= .one (.t (I 0))) (h7:st.tmps 7= .one (.t (I 0)))
  (hnone:(x.ok=false∨dU bg x=none)→∀st',st'.tmps 2= .one (.t (.bool false))→cX prog 115 A ks .ret st')
  (hsome:x.ok=true→∀n,dU bg x=some n→n≤bg.length→∀st',dD [0,4] st.tmps st'.tmps→BS (bg++[n]) st'.tmps st'.heap st'.nx→st.nx≤st'.nx→cX prog 115 A ks .normal st'):
  aZ prog 115 A a5i ks st:=by
 obtain⟨o1,o2,o3,o4⟩:=aK h5'
 have go:∀ lo hi:Int,x.right=((decide (0≤x.k)&&decide (x.k≤7))&&(decide (lo≤(x.args.length:Int))&&decide ((x.args.length:Int)≤hi)))→∀st':St,dD [0,3,4,5] st.tmps st'.tmps→st'.heap=st.heap→st.nx≤st'.nx→st'.tmps 6= .one (.t (I lo))→st'.tmps 7= .one (.t (I hi))→aZ prog 115 A a3h ks st':=fun lo hi hr st' k1 k2 k3 k6 k7=>by
  simp only[rF,tQ,and_true]at k1;obtain⟨u0,u3,u4,u5⟩:=k1;exact aSS x bg hbg hsm has i5 A ks st' lo hi (u4.trans h4) (u5.trans h5) (by rw[k2];exact h5') (hb.more u3 k2 k3) k6 k7 hr hnone fun e n g1 g2 st2 g3 g4 g5=>hsome e n g1 g2 st2 (by simp only[rF,tQ,and_true]at g3 ⊢;exact⟨g3.1.trans u0,g3.2.trans u4⟩) g4 (by omega)
 have right:∀ k:Int,x.k=k→x.right=(if k=0∨k=1 then decide (x.args.length=0)else if k=2∨k=3 then decide (x.args.length=1)
  else if k=4∨k=5∨k=6 then decide (x.args.length=2)else if k=7 then decide (x.args.length=1∨x.args.length=2)else false):=fun k e=>by rw[←e];rfl
 rcases eqCases x.k 2 with q2 | q2
 ·simp -implicitDefEqProofs [h5,o1,o2,o3,q2];exact go 1 1 (by rw[right 2 q2];simp[q2];try(rw[Bool.eq_iff_iff];simp;omega)) _ (by simp) rfl (by simp<;>omega) (by simp) (by simp)
 ·rcases eqCases x.k 3 with q3 | q3
  ·simp -implicitDefEqProofs [h5,o1,o2,o3,q3];exact go 1 1 (by rw[right 3 q3];simp[q3];try(rw[Bool.eq_iff_iff];simp;omega)) _ (by simp) rfl (by simp<;>omega) (by simp) (by simp)
  ·rcases eqCases x.k 4 with q4 | q4
   ·simp -implicitDefEqProofs [h5,o1,o2,o3,q4];exact go 2 2 (by rw[right 4 q4];simp[q4];try(rw[Bool.eq_iff_iff];simp;omega)) _ (by simp) rfl (by simp<;>omega) (by simp) (by simp)
   ·rcases eqCases x.k 5 with q5 | q5
    ·simp -implicitDefEqProofs [h5,o1,o2,o3,q5];exact go 2 2 (by rw[right 5 q5];simp[q5];try(rw[Bool.eq_iff_iff];simp;omega)) _ (by simp) rfl (by simp<;>omega) (by simp) (by simp)
    ·rcases eqCases x.k 6 with q6 | q6
     ·simp -implicitDefEqProofs [h5,o1,o2,o3,q6];exact go 2 2 (by rw[right 6 q6];simp[q6];try(rw[Bool.eq_iff_iff];simp;omega)) _ (by simp) rfl (by simp<;>omega) (by simp) (by simp)
     ·rcases eqCases x.k 7 with q7 | q7
      ·simp -implicitDefEqProofs [h5,o1,o2,o3,q7];exact go 1 2 (by rw[right 7 q7];simp[q7];try(rw[Bool.eq_iff_iff];simp;omega)) _ (by simp) rfl (by simp<;>omega) (by simp) (by simp)
      ·simp -implicitDefEqProofs [h5,o1,o2,o3,q2,q3,q4,q5,q6,q7];refine go 0 0 ?_ _ (by simp) rfl (by simp<;>omega) (by simp[h6]) (by simp[h7]);have n2:=q2.2.1;have n3:=q3.2.1;have n4:=q4.2.1;have n5:=q5.2.1;have n6:=q6.2.1;have n7:=q7.2.1;rw[right _ rfl,Bool.eq_iff_iff]
       by_cases z:x.k=0∨x.k=1
       ·rw[if_pos z];simp;omega
       ·rw[if_neg z,if_neg (by omega),if_neg (by omega),if_neg n7];simp;omega
def nY(n:Nat)(o:Option (List Nat)):Bool:=match o with | none=>false | some bg=>decide (bg.getD (n - 1) 0=0)
attribute [local simp] a4U a4V a4W a4X a4Y a4Z a42 a43 a45 a47 a48 a5a a5b a5c a5d a5e a5f a5g a5h a3h a5j a5k a5l a5m a5n a5o a5p a5q c238 in
theorem aWM(l:List Nd)(ha:∀ x∈l,x.args.length≤1000000):PSp prog 238 [.one (.t (aG l))] (.one (.t (.bool (bC l)))):=by
 refine k238.aI (by simp) rfl rfl ?_;rcases eqCases (l.length:Int) 0 with z | z
 ·have e:l=[]:=List.length_eq_zero_iff.1 (by omega);subst e;simp -implicitDefEqProofs [aC];simp[bC,cP]
 ·by_cases hl:l.length≤20
  ·have hlI:¬ (20:Int)<l.length:=by omega
   have hF:bC l=nY l.length (cP l []):=by
    have:¬ l.length=0:=by omega
    simp only[bC,nY,hl,this,false_or,decide_true,Bool.true_and];cases cP l []<;>rfl
   obtain⟨R,hR⟩:∃ R,nY l.length (cP l [])=R:=⟨_,rfl⟩;rw[hF,hR];simp -implicitDefEqProofs [z,hlI];refine eZ l (fun _ r (bg:List Nat)=>nY l.length (cP r bg)) R [] [0] [] (fun i bg st=>st.tmps 4= .one (.t (I i))∧bg.length=i∧(∀(j b:Nat),bg[j]? =some b→b≤j)∧BS bg st.tmps st.heap st.nx) (by simp[short];omega) hR ⟨⟨by simp,by simp,by simp,.inl ⟨rfl,by simp⟩⟩,by simp,by simp⟩ ?_ ?_
   ·rintro i y bg st' hi hiI hw hg hy hany ⟨h4,rfl,hbg,hb⟩ hk hh;simp at hk;rw[cP]at hany;simp -implicitDefEqProofs [hk,h4,hi,hiI,aE hg,-List.getElem_map,Nd.row];refine aST y bg hbg (by omega) (ha y hy) (st'.nx+4+4) _ _ _ ?_ ?_ ?_ ?_ ?_ ?_ ?_ ?_
    ·simp[h4]
    ·simp
    ·simp[Hp.set]
    ·refine hb.aSQ (by simp) (fun j hj=>?_) (by simp<;>omega);simp only[Hp.set];rw[if_neg (by omega)]
    ·simp
    ·simp
    ·intro hno st2 k2;simp -implicitDefEqProofs [aC,k2];rcases hno with h | h
     ·rw[h]at hany;simpa[nY]using hany
     ·rw[h]at hany;simpa[nY]using hany
    ·intro ho n hn hle st2 k1 k2 k3;simp at k1;simp -implicitDefEqProofs [k1,hk,h4,hw];rw[ho,hn]at hany;refine⟨bg++[n],by simpa using hany,by simp,fun j b hj=>?_,k2.more (by simp) rfl (by simp<;>omega)⟩;rcases Nat.lt_or_ge j bg.length with h | h
     ·rw[List.getElem?_append_left h]at hj;exact hbg j b hj
     ·rw[List.getElem?_append_right h]at hj
      have:j - bg.length=0:=by
       rcases Nat.eq_zero_or_pos (j - bg.length)with e | e
       ·exact e
       ·rw[List.getElem?_eq_none (by simp;omega)]at hj;cases hj
      rw[this]at hj;simp at hj;omega
   ·rintro bg st' hany ⟨h4,hbl,hbg,hb⟩ hk hh;simp at hk;rw[cP]at hany;have hpos:0<l.length:=by omega
    rcases hb with⟨g1,g2⟩ | ⟨g1,id,ver,g2,g3,g4⟩
    ·subst g1;simp at hbl;omega
    ·obtain⟨q1,q2,q3,q4⟩:=aK g3;obtain⟨m,hm⟩:∃ m,l.length=m+1:=⟨l.length - 1,by omega⟩;have hmb:m<bg.length:=by omega
     have hmI:(m:Int)<bg.length:=by omega
     have hw:IntKind.i64.wrap (m:Int)=m:=wrap_i64 (by omega) (by omega);have hge:bg.getD m 0=bg[m]:=by simp[List.getD_eq_getElem?_getD,gE9 hmb]
     have hw':IntKind.i64.wrap ((m:Int)+1 - 1)=m:=by rw[Int.add_sub_cancel];exact hw
     simp only[nY]at hany;rw[hm,Nat.add_sub_cancel,hge]at hany;simp -implicitDefEqProofs [hk,h4,g2,q1,q2,q3,hm,hw,hmI,hmb,aC];rw[←hany,aN7]
  ·have hF:bC l=false:=by simp[bC,hl]
   have hlI:(20:Int)<l.length:=by omega
   rw[hF];simp -implicitDefEqProofs [z,hlI,aC]
end
section
attribute [-simp] Go.Ab.aA Go.Ab.gval
attribute [local simp] bE aM aQ aG aV aO aX tyC fdC vlC ndC aL D.cR D.pt
def Fd.iM(f:Fd):Bool:=f.pres==2&&(f.dflt.length:Int) != 1
def Ty.gZ(t:Ty):Bool:=((mZ t.kind&&(t.of.length:Int) != 1)|| !bC t.limits)||((t.kind==13||t.kind==3)&&decide (t.root<1))||t.iP||t.fields.any Fd.iM
attribute [local simp] a2s a2t a2u a2v a2w a2x a2y a2z a2A a2B a2C a2D c197 in
theorem aKX(t:Ty)(hn:t.narrow=true)(st:St)(h1:TB t 1 st)(_hnx:0<st.nx):aZ prog 92 (aC [.tmp 2] (.one (.t (.bool (t.fields.any Fd.iM))))) a2A [] st:=by
 have hnr:=(Ty.aU t).1 hn;have hle:=hnr.2.2.1;obtain⟨h1,h2⟩:=h1;obtain⟨o1,o2,o3,o4⟩:=aK h2;simp -implicitDefEqProofs;refine bS t.fields Fd.iM [1] [0] (fun i st=>st.tmps 3= .one (.t (I i))) (by simp[short];omega) ⟨by simp,by simp,by simp[]⟩ ?_ ?_
 ·intro i f st' hi hiI hw' hg hy hany hx hk hh;simp[h1]at hk hh;obtain⟨o1,o2,o3,o4⟩:=aK (hh.1.trans h2);have hd:f.iM=(f.pres==2&& !((f.dflt.length:Int)==1)):=rfl;rw[hd]at hany ⊢;obtain⟨a,ea⟩:∃ x,(f.pres==2)=x:=⟨_,rfl⟩;obtain⟨b,eb⟩:∃ x,((f.dflt.length:Int)==1)=x:=⟨_,rfl⟩;rw[ea,eb]at hany ⊢;cases a<;>cases b
  all_goals simp -implicitDefEqProofs [h1,hx,hk,hi,hiI,hw',o1,o2,o3,aE hg,Fd.aP,-List.getElem_map,ea,eb,bne,aC]
  all_goals first | exact hh.1 | simpa using hany
 ·intro st' hany hx hk hh;simp[h1]at hk hh;obtain⟨o1,o2,o3,o4⟩:=aK (hh.1.trans h2);rw[hany];simp -implicitDefEqProofs [hk,hx,o1,o2,o3,aC]
attribute [local simp] a2s a2t a2u a2v a2w a2x a2y a2z a2B a2C a2D c197 in
theorem aKY(t:Ty)(hn:t.narrow=true)(st:St)(h1:TB t 1 st)(_hnx:0<st.nx):aZ prog 92 (aC [.tmp 2] (.one (.t (.bool (t.iP||t.fields.any Fd.iM))))) a2B [] st:=by
 have rest:=aKX t hn;obtain⟨h1,h2⟩:=h1;obtain⟨o1,o2,o3,o4⟩:=aK h2;generalize t.fields.any Fd.iM=R at*;obtain⟨a,e0⟩:∃ a,(t.kind==14)=a:=⟨_,rfl⟩;obtain⟨b,e1⟩:∃ b,(t.name.toList==(bs []).toList)=b:=⟨_,rfl⟩;obtain⟨c,e2⟩:∃ c,decide (0<t.fields.length)=c:=⟨_,rfl⟩;have e2':decide ((t.fields.length:Int)>0)=c:=by rw[←e2];congr 1;simp
 obtain⟨d,e3⟩:∃ c,((t.fields.length:Int)==2)=c:=⟨_,rfl⟩;obtain⟨e,e4⟩:∃ c,((t.fields.length:Int)==3)=c:=⟨_,rfl⟩
 have s2:t.iP=(a&&((b&&c)||(!b&& !d&& !e))):=by
  simp only[Ty.iP,bR,e0,e1,e2',bne,e3,e4]
 rw[s2];obtain⟨u1,m1⟩:∃ y,(b&&c)=y:=⟨_,rfl⟩;obtain⟨u2,m2⟩:∃ y,(!b&& !d)=y:=⟨_,rfl⟩;obtain⟨u3,m3⟩:∃ y,(u2&& !e)=y:=⟨_,rfl⟩;obtain⟨u4,m4⟩:∃ y,(u1||u3)=y:=⟨_,rfl⟩;obtain⟨u5,m5⟩:∃ y,(a&&u4)=y:=⟨_,rfl⟩;simp only[m1,m2,m3,m4,m5];simp -implicitDefEqProofs [h1,o1,o2,o3,e0,e1,e2,e3,e4,bne,m1,m2,m3,m4,m5,-Bool.not_or,-Bool.not_and];refine⟨fun h=>by simp[h],fun h h'=>by simp[h,h'],fun h h'=>by simp[h,h'],fun h=>by simp[h],fun h=>?_,fun h=>?_⟩
 ·subst h;simp -implicitDefEqProofs [aC]
 ·subst h;simp -implicitDefEqProofs;exact rest _ ⟨by simp[h1],by simp[h2]⟩ (by simp<;>omega)
attribute [local simp] a2s a2t a2u a2v a2w a2x a2y a2z a2A a2C a2D c197 in
theorem aKZ(t:Ty)(hn:t.narrow=true)(st:St)(h1:TB t 1 st)(_hnx:0<st.nx):aZ prog 92 (aC [.tmp 2] (.one (.t (.bool (((t.kind==13||t.kind==3)&&decide (t.root<1))||t.iP||t.fields.any Fd.iM))))) a2C [] st:=by
 have rest:=aKY t hn;obtain⟨h1,h2⟩:=h1;obtain⟨o1,o2,o3,o4⟩:=aK h2;rw[Bool.or_assoc];generalize (t.iP||t.fields.any Fd.iM)=R at*;obtain⟨a,e0⟩:∃ a,(t.kind==13)=a:=⟨_,rfl⟩;obtain⟨b,e1⟩:∃ a,(t.kind==3)=a:=⟨_,rfl⟩;obtain⟨c,e2⟩:∃ c,decide (t.root<1)=c:=⟨_,rfl⟩;obtain⟨u1,m1⟩:∃ y,(a||b)=y:=⟨_,rfl⟩;obtain⟨u2,m2⟩:∃ y,(u1&&c)=y:=⟨_,rfl⟩;simp only[e0,e1,e2,m1,m2];simp -implicitDefEqProofs [h1,o1,o2,o3,e0,e1,e2,m1,m2,-Bool.not_or,-Bool.not_and];refine⟨fun h=>?_,fun h=>?_⟩
 ·subst h;simp -implicitDefEqProofs [aC]
 ·subst h;simp -implicitDefEqProofs;exact rest _ ⟨by simp[h1],by simp[h2]⟩ (by simp<;>omega)
attribute [local simp] a2s a2t a2u a2v a2w a2x a2y a2z a2A a2B a2D c197 in
theorem aL0(t:Ty)(hn:t.narrow=true)(st:St)(h1:TB t 1 st)(_hnx:0<st.nx):aZ prog 92 (aC [.tmp 2] (.one (.t (.bool t.gZ)))) a2D [] st:=by
 have rest:=aKZ t hn;have hnr:=(Ty.aU t).1 hn;obtain⟨h1,h2⟩:=h1;obtain⟨o1,o2,o3,o4⟩:=aK h2
 have e:t.gZ=((mZ t.kind&&(t.of.length:Int) != 1)||(!bC t.limits||(((t.kind==13||t.kind==3)&&decide (t.root<1))||t.iP||t.fields.any Fd.iM))):=by
  simp only[Ty.gZ,Bool.or_assoc]
 rw[e];generalize (((t.kind==13||t.kind==3)&&decide (t.root<1))||t.iP||t.fields.any Fd.iM)=R at*;obtain⟨a,e0⟩:∃ a,(t.kind==11||t.kind==12)=a:=⟨_,rfl⟩;obtain⟨c,e2⟩:∃ c,((t.of.length:Int) != 1)=c:=⟨_,rfl⟩;obtain⟨u2,m2⟩:∃ y,(a&&c)=y:=⟨_,rfl⟩;have e0':mZ t.kind=a:=e0;simp only[e0',e2,m2];simp -implicitDefEqProofs [h1,o1,o2,o3,e0,e2,m2,-Bool.not_or,-Bool.not_and];refine⟨fun h=>?_,fun h=>?_⟩
 ·subst h;refine aD.tree (aWM t.limits (fun x hx=>by have:=(hnr.2.2.2.2.2.1 x hx).2;omega)) rfl ?_;cases bC t.limits
  ·simp -implicitDefEqProofs [aC]
  ·simp -implicitDefEqProofs;exact rest _ ⟨by simp[h1],by simp[h2]⟩ (by simp<;>omega)
 ·subst h;simp -implicitDefEqProofs [aC]
attribute [local simp] a2s a2t a2u a2v a2w a2x a2y a2z a2A a2B a2C c197 in
theorem aWN(t:Ty)(hn:t.narrow=true):PSp prog 197 [.agg (tyC t)] (.one (.t (.bool t.gZ))):=by
 refine k197.aI (by simp) (by simp[D.closed,A.closed]) rfl ?_;have rest:=aL0 t hn;simp -implicitDefEqProofs;exact rest _ ⟨by simp,by simp[Hp.set]⟩ (by simp)
end
section
attribute [-simp] Go.Ab.aA Go.Ab.gval
attribute [local simp] bE aM aQ aG aV aO aX tyC fdC vlC ndC aL D.cR D.pt
def Ty.gL(t:Ty):Bool:=t.kind==3&&t.fields.any fun f=> !isNum f.num
def dH:List Fd→Int×Int→Bool
 | [],_=>true
 | f::r,(last,before)=>if f.grp != 0&&f.grp != before then(if f.grp != IntKind.i64.wrap (last+1)then false else dH r (f.grp,f.grp))else dH r (last,f.grp)
attribute [local simp] a2E a2F a2G a2H a2I a2J a2K a2L a2M a2N a2O a2P a2Q a2R a2S a2T a2U a2V a2W a2X a2Y a2Z a22 a25 a27 a29 a3a a3b a3c a3d a3e a3f a3g c198 in
theorem aNU(t:Ty)(hn:t.narrow=true)(st:St)(h1:TB t 1 st)(_hnx:0<st.nx):aZ prog 175 (aC [.tmp 2] (.one (.t (I (if t.gL then 3 else 0))))) a3b [] st:=by
 have hnr:=(Ty.aU t).1 hn;have hle:=hnr.2.2.1;obtain⟨h1,h2⟩:=h1;obtain⟨o1,o2,o3,o4⟩:=aK h2;have e0:t.gL=(t.kind==3&&t.fields.any fun f=> !isNum f.num):=rfl;rcases eqCases t.kind 3 with q | q
 ·simp only[q,beq_self_eq_true,Bool.true_and]at e0;obtain⟨R,hR⟩:∃ R,(if t.gL then(3:Int)else 0)=R:=⟨_,rfl⟩;rw[hR];rw[e0]at hR;simp -implicitDefEqProofs;refine bS t.fields (fun f=> !isNum f.num) [1] [0] (fun i st=>st.tmps 10= .one (.t (I i))) (by simp[short];omega) ⟨by simp,by simp,by simp[]⟩ ?_ ?_
  ·intro i f st' hi hiI hw' hg hy hany hx hk hh;simp[h1]at hk hh;obtain⟨o1,o2,o3,o4⟩:=aK (hh.1.trans h2);have hd:(!isNum f.num)= !(decide (-1152921504606846976≤f.num)&&decide (f.num≤1152921504606846976)):=rfl;rw[hd]at hany;obtain⟨a,ea⟩:∃ x,(decide (-1152921504606846976≤f.num)&&decide (f.num≤1152921504606846976))=x:=⟨_,rfl⟩;rw[ea]at hany hd;simp -implicitDefEqProofs [h1,hx,hk,hi,hiI,o1,o2,o3,aE hg,Fd.aP,-List.getElem_map,q];refine aD.tree (dG _ _ _) rfl ?_;rw[ea];cases a
   ·rw[hany rfl]at hR;subst hR;simp -implicitDefEqProofs [aC]
   ·simp -implicitDefEqProofs [hx,hk,hw'];exact⟨by simpa using hd,hh.1⟩
  ·intro st' hany hx hk hh;simp[h1]at hk hh;obtain⟨o1,o2,o3,o4⟩:=aK (hh.1.trans h2);rw[hany]at hR;subst hR;simp -implicitDefEqProofs [hk,hx,o1,o2,o3,aC]
 ·have:t.gL=false:=by rw[e0,q.1];rfl
  rw[this];simp -implicitDefEqProofs;refine bS ([]:List Fd) (fun f=> !isNum f.num) [1] [0] (fun i st=>st.tmps 10= .one (.t (I i))) (by simp[short]) ⟨by simp,by simp,by simp[]⟩ ?_ ?_
  ·intro i f st' hi;simp at hi
  ·intro st' hany hx hk hh;simp[h1]at hk hh hx;obtain⟨o1,o2,o3,o4⟩:=aK (hh.1.trans h2);simp -implicitDefEqProofs [hk,hx,o1,o2,o3,q,aC]
attribute [local simp] a2E a2F a2G a2H a2I a2J a2K a2L a2M a2N a2O a2P a2Q a2R a2S a2T a2U a2V a2W a2X a2Y a2Z a22 a25 a27 a29 a3a a3c a3d a3e a3f a3g c198 in
theorem aNV(t:Ty)(hn:t.narrow=true)(hrt:0≤t.root∧t.root≤t.fields.length)(st:St)(h1:TB t 1 st)(_hnx:0<st.nx)(h6:st.tmps 6= .one (.t (I 0)))(h7:st.tmps 7= .one (.t (I 0))):
  aZ prog 175 (aC [.tmp 2] (.one (.t (I (if cM t.kind&& !dH (t.fields.drop t.root.toNat) (0,0)then 14 else if t.gL then 3 else 0))))) a3c [] st:=by
 have rest:=aNU t hn;have hnr:=(Ty.aU t).1 hn;have hle:=hnr.2.2.1;obtain⟨h1,h2⟩:=h1;obtain⟨o1,o2,o3,o4⟩:=aK h2;generalize (if t.gL then(3:Int)else 0)=R3 at*;obtain⟨r,hr⟩:∃ r:Nat,t.root=r:=⟨t.root.toNat,by omega⟩;rw[hr,Int.toNat_natCast];have sN:=aNT t.kind;obtain⟨g,eg⟩:∃ x,cM t.kind=x:=⟨_,rfl⟩;rw[eg]at sN ⊢;cases g
 ·simp -implicitDefEqProofs [h1,o1,o2,o3,hr];refine bS ([]:List Fd) (fun f=> !isNum f.num) [1] [0] (fun i st=>st.tmps 8= .one (.t (I r))) (by simp[short]) ⟨by simp,by simp,by simp[]⟩ ?_ ?_
  ·intro i f st' hi;simp at hi
  ·intro st' hany hx hk hh;simp[h1]at hk hh hx;obtain⟨o1,o2,o3,o4⟩:=aK (hh.1.trans h2);obtain⟨b,eb⟩:∃ x,decide ((r:Int)<(t.fields.length:Int))=x:=⟨_,rfl⟩;have eb':decide (r<t.fields.length)=b:=by rw[←eb];congr 1;simp
   cases b
   ·simp -implicitDefEqProofs [hk,hx,o1,o2,o3,eb'];exact rest _ ⟨by simp[hk],by simp[hh,h2]⟩ (by simp<;>omega)
   ·simp -implicitDefEqProofs [hk,hx,o1,o2,o3,eb'];refine aD.tree sN rfl ?_;simp -implicitDefEqProofs;exact rest _ ⟨by simp[hk],by simp[hh,h2]⟩ (by simp<;>omega)
 ·have hdl:(t.fields.drop r).length=t.fields.length - r:=by simp
  obtain⟨R,hR⟩:∃ R,(if(true&& !dH (t.fields.drop r) (0,0))then(14:Int)else R3)=R:=⟨_,rfl⟩;rw[hR];simp -implicitDefEqProofs [h1,o1,o2,o3,hr];refine eZ (t.fields.drop r) (fun _ l s=>if(true&& !dH l s)then(14:Int)else R3) R (0,0) [1] [0] (fun i s st=>st.tmps 8= .one (.t (I ((r+i:Nat):Int)))∧st.tmps 6= .one (.t (I s.1))∧st.tmps 7= .one (.t (I s.2))) (by simp[short];omega) hR ⟨by simp[h6,h7],by simp,by simp[]⟩ ?_ ?_
  ·rintro i f ⟨last,before⟩ st' hi hiI hw hg hy hany ⟨hx,k6,k7⟩ hk hh;simp[h1]at hk hh;simp only[]at k6 k7;obtain⟨o1,o2,o3,o4⟩:=aK (hh.1.trans h2);rw[List.getElem?_drop]at hg;have hri:r+i<t.fields.length:=by omega
   have aQA:((r+i:Nat):Int)<(t.fields.length:Int):=by omega
   have hw2:IntKind.i64.wrap (((r+i:Nat):Int)+1)=((r+i+1:Nat):Int):=by
    exact wrap_i64 (by omega) (by omega)
   obtain⟨m,em⟩:∃ m,r+i=m:=⟨_,rfl⟩;rw[em]at hg hri aQA hw2 hx;simp -implicitDefEqProofs [hk,hx,o1,o2,o3,aQA];refine aD.tree sN rfl ?_;obtain⟨a,ea⟩:∃ x,(f.grp==0)=x:=⟨_,rfl⟩;obtain⟨b,eb⟩:∃ x,(f.grp==before)=x:=⟨_,rfl⟩;obtain⟨c,ec⟩:∃ x,(f.grp==IntKind.i64.wrap (last+1))=x:=⟨_,rfl⟩;simp only[dH,bne,ea,eb,ec]at hany;cases a<;>cases b<;>cases c
   all_goals simp -implicitDefEqProofs [hk,hx,k6,k7,o1,o2,o3,hri,aQA,aE hg,Fd.aP,-List.getElem_map,bne,ea,eb,ec,hw2]
   all_goals first | (exact⟨_,_,by simpa using hany,⟨by omega,rfl,rfl⟩,h1.symm,hh.1⟩) | (simp -implicitDefEqProofs [aC];simpa using hany)
  ·rintro⟨last,before⟩ st' hany ⟨hx,k6,k7⟩ hk hh;simp[h1]at hk hh;obtain⟨o1,o2,o3,o4⟩:=aK (hh.1.trans h2);have hm:((r+(t.fields.length - r):Nat):Int)=t.fields.length:=by omega
   rw[hdl,hm]at hx;simp[dH]at hany;rw[←hany];simp -implicitDefEqProofs [hk,hx,o1,o2,o3];exact rest _ ⟨by simp[hk],by simp[hh,h2]⟩ (by simp<;>omega)
def Ty.nD(t:Ty):Int:=
 if(t.kind==6&& !gY t.name)||(t.kind==15&& !bF t.name)||(t.kind==14&& !bR t.name (bs [])&& !bF t.name)then 7
 else if t.kind != 15&&t.fields.any (fun f=> !bF f.name)then 7
 else if(cM t.kind||t.kind==3)&&(List.range t.fields.length).any (jJ t.kind t.fields)then 13
 else if cM t.kind&& !dH (t.fields.drop t.root.toNat) (0,0)then 14 else if t.gL then 3 else 0
attribute [local simp] a2E a2F a2G a2H a2I a2J a2K a2L a2M a2N a2O a2P a2Q a2R a2S a2T a2U a2V a2W a2X a2Y a2Z a22 a25 a27 a29 a3a a3b a3d a3e a3f a3g c198 in
theorem aNW(t:Ty)(hn:t.narrow=true)(hrt:0≤t.root∧t.root≤t.fields.length)(st:St)(h1:TB t 1 st)(_hnx:0<st.nx):
  aZ prog 175 (aC [.tmp 2] (.one (.t (I (if(cM t.kind||t.kind==3)&&(List.range t.fields.length).any (jJ t.kind t.fields)then 13 else if cM t.kind&& !dH (t.fields.drop t.root.toNat) (0,0)then 14 else if t.gL then 3 else 0))))) a3e [] st:=by
 have rest:=aNV t hn hrt;have hnr:=(Ty.aU t).1 hn;have hle:=hnr.2.2.1;obtain⟨h1,h2⟩:=h1;obtain⟨o1,o2,o3,o4⟩:=aK h2;generalize (if cM t.kind&& !dH (t.fields.drop t.root.toNat) (0,0)then 14 else if t.gL then(3:Int)else 0)=R3 at*;have sN:=aNT t.kind;obtain⟨g,eg⟩:∃ x,cM t.kind=x:=⟨_,rfl⟩;obtain⟨w,ew⟩:∃ x,(t.kind==3)=x:=⟨_,rfl⟩;obtain⟨u,eu⟩:∃ x,(g||w)=x:=⟨_,rfl⟩;rw[eg]at sN ⊢;rw[ew,eu];cases u
 ·simp -implicitDefEqProofs;refine bS ([]:List Fd) (fun f=> !isNum f.num) [1] [0] (fun i st=>st.tmps 4= .one (.t (I 0))) (by simp[short]) ⟨by simp,by simp,by simp[]⟩ ?_ ?_
  ·intro i f st' hi;simp at hi
  ·intro st' hany hx hk hh;simp[h1]at hk hh hx;obtain⟨o1,o2,o3,o4⟩:=aK (hh.1.trans h2);obtain⟨b,eb⟩:∃ x,decide (0<t.fields.length)=x:=⟨_,rfl⟩;cases b
   ·simp -implicitDefEqProofs [hk,hx,o1,o2,o3,eb];exact rest _ ⟨by simp[hk],by simp[hh,h2]⟩ (by simp<;>omega) (by simp) (by simp)
   ·simp -implicitDefEqProofs [hk,hx,o1,o2,o3,eb];refine aD.tree sN rfl ?_;simp -implicitDefEqProofs [hk,o1,o2,o3,ew,eu];exact rest _ ⟨by simp[hk],by simp[hh,h2]⟩ (by simp<;>omega) (by simp) (by simp)
 ·obtain⟨R,hR⟩:∃ R,(if(true&&(List.range t.fields.length).any (jJ t.kind t.fields))then(13:Int)else R3)=R:=⟨_,rfl⟩;rw[hR];simp only[Bool.true_and]at hR;simp -implicitDefEqProofs;refine bS (List.range t.fields.length) (jJ t.kind t.fields) [1] [0] (fun i st=>st.tmps 4= .one (.t (I i))) (by simp[short];omega) ⟨by simp,by simp,by simp[]⟩ ?_ ?_
  ·intro i y st' hi hiI hw hg hy hany hx hk hh;obtain rfl:=iJ hg;simp[h1]at hk hh;have hi':y<t.fields.length:=by simpa using hi
   have aIJ:(y:Int)<(t.fields.length:Int):=by omega
   have hf:t.fields[y]? =some t.fields[y]:=gE9 hi';have hd:jJ t.kind t.fields y=(t.fields.take y).any (dup t.kind t.fields[y]):=by simp[jJ,hf]
   rw[hd]at hany ⊢;generalize t.fields[y]=f at*;obtain⟨o1,o2,o3,o4⟩:=aK (hh.1.trans h2);simp -implicitDefEqProofs [h1,hx,hk,aIJ,o1,o2,o3,-List.getElem_map];refine aD.tree sN rfl ?_;simp -implicitDefEqProofs [hk,o1,o2,o3,ew,eu];have htl:(t.fields.take y).length=y:=by simp;omega
   refine bS (t.fields.take y) (dup t.kind f) [1,4] [0] (fun i st=>st.tmps 5= .one (.t (I i))) (by simp[short];omega) ⟨by simp,by simp[hk,hx],by simp[hh]⟩ ?_ ?_
   ·intro j f2 st2 hj hjI hw2 hg2 hy2 aDW hx2 hk2 hh2;simp[hk,hx]at hk2 hh2;rw[htl]at hj hjI;have hg3:t.fields[j]? =some f2:=by rw[List.getElem?_take,if_pos hj]at hg2;exact hg2
    obtain⟨o1,o2,o3,o4⟩:=aK (hh2.1.trans (hh.1.trans h2));have hjf:j<t.fields.length:=by omega
    have aWO:(j:Int)<(t.fields.length:Int):=by omega
    have hdd:dup t.kind f f2=(f2.name.toList==f.name.toList||(w&&f2.num==f.num)):=by rw[←ew];rfl
    rw[hdd]at aDW ⊢;obtain⟨a,ea⟩:∃ x,(f2.name.toList==f.name.toList)=x:=⟨_,rfl⟩;obtain⟨b,eb⟩:∃ x,(f2.num==f.num)=x:=⟨_,rfl⟩;rw[ea,eb]at aDW ⊢;cases a<;>cases w<;>cases b
    all_goals simp -implicitDefEqProofs [hk2,hx2,hjI,hjf,aWO,hi',aIJ,aE hf,aE hg3,Fd.aP,o1,o2,o3,ea,eb,ew,hw2,-List.getElem_map]
    all_goals first | exact⟨⟨hk.symm,hx.symm⟩,hh2.1⟩ | (rw[if_pos (hany (aDW (by simp)))]at hR;subst hR;simp -implicitDefEqProofs [aC])
   ·intro st2 aDW hx2 hk2 hh2;simp[hk,hx]at hk2 hh2;rw[htl]at hx2;simp -implicitDefEqProofs [hk2,hx2,hw];exact⟨by simpa using aDW,hh2.1.trans hh.1⟩
  ·intro st' hany hx hk hh;simp[h1]at hk hh;simp only[List.length_range]at hx;obtain⟨o1,o2,o3,o4⟩:=aK (hh.1.trans h2);rw[hany]at hR;subst hR;simp -implicitDefEqProofs [hk,hx,o1,o2,o3];exact rest _ ⟨by simp[hk],by simp[hh,h2]⟩ (by simp<;>omega) (by simp) (by simp)
attribute [local simp] a2E a2F a2G a2H a2I a2J a2K a2L a2M a2N a2O a2P a2Q a2R a2S a2T a2U a2V a2W a2X a2Y a2Z a22 a25 a27 a29 a3a a3b a3c a3d a3f a3g c198 in
theorem aNX(t:Ty)(hn:t.narrow=true)(hrt:0≤t.root∧t.root≤t.fields.length)(st:St)(h1:TB t 1 st)(_hnx:0<st.nx):
  aZ prog 175 (aC [.tmp 2] (.one (.t (I (if t.kind != 15&&t.fields.any (fun f=> !bF f.name)then 7 else if(cM t.kind||t.kind==3)&&(List.range t.fields.length).any (jJ t.kind t.fields)then 13 else if cM t.kind&& !dH (t.fields.drop t.root.toNat) (0,0)then 14 else if t.gL then 3 else 0))))) a3f [] st:=by
 have rest:=aNW t hn hrt;have hnr:=(Ty.aU t).1 hn;have hle:=hnr.2.2.1;obtain⟨h1,h2⟩:=h1;obtain⟨o1,o2,o3,o4⟩:=aK h2;generalize (if(cM t.kind||t.kind==3)&&(List.range t.fields.length).any (jJ t.kind t.fields)then 13 else if cM t.kind&& !dH (t.fields.drop t.root.toNat) (0,0)then 14 else if t.gL then(3:Int)else 0)=R3 at*;rcases eqCases t.kind 15 with q | q
 ·have e:(if t.kind != 15&&t.fields.any (fun f=> !bF f.name)then(7:Int)else R3)=R3:=by simp[q]
  rw[e];simp -implicitDefEqProofs;refine bS ([]:List Fd) (fun f=> !isNum f.num) [1] [0] (fun i st=>st.tmps 3= .one (.t (I 0))) (by simp[short]) ⟨by simp,by simp,by simp[]⟩ ?_ ?_
  ·intro i f st' hi;simp at hi
  ·intro st' hany hx hk hh;simp[h1]at hk hh hx;obtain⟨o1,o2,o3,o4⟩:=aK (hh.1.trans h2);simp -implicitDefEqProofs [hk,hx,o1,o2,o3,q];exact rest _ ⟨by simp[hk],by simp[hh,h2]⟩ (by simp<;>omega)
 ·obtain⟨R,hR⟩:∃ R,(if t.fields.any (fun f=> !bF f.name)then(7:Int)else R3)=R:=⟨_,rfl⟩;have e:(if t.kind != 15&&t.fields.any (fun f=> !bF f.name)then(7:Int)else R3)=R:=by rw[←hR,q.2.2.2.2.1];rfl
  rw[e];simp -implicitDefEqProofs;refine bS t.fields (fun f=> !bF f.name) [1] [0] (fun i st=>st.tmps 3= .one (.t (I i))) (by simp[short];omega) ⟨by simp,by simp,by simp[]⟩ ?_ ?_
  ·intro i f st' hi hiI hw' hg hy hany hx hk hh;simp[h1]at hk hh;obtain⟨o1,o2,o3,o4⟩:=aK (hh.1.trans h2);have hfn:=((Fd.aU _).1 (hnr.2.2.2.2.2.2.1 _ hy));simp -implicitDefEqProofs [h1,hx,hk,hi,hiI,o1,o2,o3,aE hg,Fd.aP,-List.getElem_map,q];refine aD.tree (aNH f.name (by omega)) rfl ?_;rcases bb (bF f.name)with z | z
   ·simp -implicitDefEqProofs [z,hx,hk,hw'];exact hh.1
   ·rw[hany (by simp[z])]at hR;subst hR;simp -implicitDefEqProofs [z,aC]
  ·intro st' hany hx hk hh;simp[h1]at hk hh;obtain⟨o1,o2,o3,o4⟩:=aK (hh.1.trans h2);rw[hany]at hR;subst hR;simp -implicitDefEqProofs [hk,hx,o1,o2,o3];exact rest _ ⟨by simp[hk],by simp[hh,h2]⟩ (by simp<;>omega)
attribute [local simp] a2E a2F a2G a2H a2I a2J a2K a2L a2M a2N a2O a2P a2Q a2R a2S a2T a2U a2V a2W a2X a2Y a2Z a22 a25 a27 a29 a3a a3b a3c a3d a3e a3g c198 in
theorem aWP(t:Ty)(hn:t.narrow=true)(hrt:0≤t.root∧t.root≤t.fields.length):PSp prog 198 [.agg (tyC t)] (.one (.t (I t.nD))):=by
 have rest:=aNX t hn hrt;have hnr:=(Ty.aU t).1 hn;refine k198.aI (by simp) (by simp[D.closed,A.closed]) rfl ?_
 have e0:t.nD=if(t.kind==6&& !gY t.name)||(t.kind==15&& !bF t.name)||(t.kind==14&& !bR t.name (bs [])&& !bF t.name)then 7
  else if t.kind != 15&&t.fields.any (fun f=> !bF f.name)then 7
  else if(cM t.kind||t.kind==3)&&(List.range t.fields.length).any (jJ t.kind t.fields)then 13
  else if cM t.kind&& !dH (t.fields.drop t.root.toNat) (0,0)then 14 else if t.gL then 3 else 0:=rfl
 rw[e0];generalize (if t.kind != 15&&t.fields.any (fun f=> !bF f.name)then 7 else if(cM t.kind||t.kind==3)&&(List.range t.fields.length).any (jJ t.kind t.fields)then 13 else if cM t.kind&& !dH (t.fields.drop t.root.toNat) (0,0)then 14 else if t.gL then(3:Int)else 0)=R3 at*;have aL1:=aNH t.name (by omega);have aWQ:=aWK t.name;rcases eqCases t.kind 6 with q6 | q6
 ·simp -implicitDefEqProofs [q6];refine aD.tree aWQ rfl ?_;cases gY t.name
  ·simp -implicitDefEqProofs [aC]
  ·simp -implicitDefEqProofs;exact rest _ ⟨by simp,by simp[Hp.set,q6]⟩ (by simp)
 ·rcases eqCases t.kind 15 with q15 | q15
  ·simp -implicitDefEqProofs [q15];refine aD.tree aL1 rfl ?_;cases bF t.name
   ·simp -implicitDefEqProofs [aC]
   ·simp -implicitDefEqProofs;exact rest _ ⟨by simp,by simp[Hp.set,q15]⟩ (by simp)
  ·rcases eqCases t.kind 14 with q14 | q14
   ·obtain⟨z,hz⟩:∃ z,(t.name.toList==(bs []).toList)=z:=⟨_,rfl⟩;have hz':bR t.name (bs [])=z:=hz;rw[hz'];cases z
    ·simp -implicitDefEqProofs [q14,hz,bne];refine aD.tree aL1 rfl ?_;cases bF t.name
     ·simp -implicitDefEqProofs [aC]
     ·simp -implicitDefEqProofs;exact rest _ ⟨by simp,by simp[Hp.set,q14]⟩ (by simp)
    ·simp -implicitDefEqProofs [q14,hz,bne];exact rest _ ⟨by simp,by simp[Hp.set,q14]⟩ (by simp)
   ·simp -implicitDefEqProofs [q6,q15,q14];exact rest _ ⟨by simp,by simp[Hp.set]⟩ (by simp)
end
section
attribute [-simp] Go.Ab.aA Go.Ab.gval
attribute [local simp] bE aM aQ aG aV aO aX tyC fdC vlC ndC aL D.cR D.pt
def Ty.mP(t:Ty):Int:=if t.cI != 0 then t.cI else if t.kG then 5 else if t.gZ then 6 else t.nD
theorem Ty.uS(t:Ty):t.cI=if !(decide (0≤t.kind)&&decide (t.kind≤15))then 4 else if 3<t.tags.length∨16<t.fields.length∨t.kind=15∧4<t.fields.length then 2 else if t.fE then 3 else 0:=by
 cases t;rfl
attribute [local simp] b0E b0F b0G b0H b0I b0J b0K b0L b0M b0N b0O b0P b0Q c153 in
theorem aSU(t:Ty)(hn:t.narrow=true)(R:Int)(hR:(if t.fE then 3 else if t.kG then 5 else if t.gZ then 6 else t.nD)=R)(st:St)(h1:TB t 1 st)(_hnx:0<st.nx):aZ prog 30 (aC [.tmp 2] (.one (.t (I R)))) b0M [] st:=by
 have hrt:t.fE=false→0≤t.root∧t.root≤t.fields.length:=fun h=>by
  simp[Ty.fE]at h;omega
 obtain⟨h1,h2⟩:=h1;obtain⟨o1,o2,o3,o4⟩:=aK h2;simp -implicitDefEqProofs [h1,o1,o2,o3];refine aD.tree (aWI t hn) rfl ?_;rcases bb t.fE with z | z
 ·rw[z]at hR ⊢;simp at hR;subst hR;simp -implicitDefEqProofs [aC]
 ·have hrt:=hrt z;rw[z]at hR ⊢;simp -implicitDefEqProofs [h1,o1,o2,o3];refine aD.tree (aWJ t hn) rfl ?_;rcases bb t.kG with y | y
  ·rw[y]at hR ⊢;simp at hR;subst hR;simp -implicitDefEqProofs [aC]
  ·rw[y]at hR ⊢;simp -implicitDefEqProofs [h1,o1,o2,o3];refine aD.tree (aWN t hn) rfl ?_;rcases bb t.gZ with x | x
   ·rw[x]at hR ⊢;simp at hR;subst hR;simp -implicitDefEqProofs [aC]
   ·rw[x]at hR ⊢;simp -implicitDefEqProofs [h1,o1,o2,o3];refine aD.tree (aWP t hn hrt) rfl ?_;simp at hR;subst hR;simp -implicitDefEqProofs [aC]
attribute [local simp] b0E b0F b0G b0H b0I b0J b0K b0L b0N b0O b0P b0Q c153 in
theorem aWR(t:Ty)(hn:t.narrow=true):PSp prog 153 [.agg (tyC t)] (.one (.t (I t.mP))):=by
 have rest:=aSU t hn;obtain⟨R,hR⟩:∃ R,t.mP=R:=⟨_,rfl⟩;rw[hR];rw[Ty.mP,Ty.uS]at hR;refine k153.aI (by simp) (by simp[D.closed,A.closed]) rfl ?_;simp -implicitDefEqProofs;refine aD.tree (dG _ _ _) rfl ?_;obtain⟨a,ea⟩:∃ x,(decide (0≤t.kind)&&decide (t.kind≤15))=x:=⟨_,rfl⟩;rw[ea]at hR ⊢;cases a
 ·simp at hR;subst hR;simp -implicitDefEqProofs [aC]
 ·simp only[Bool.not_true,Bool.false_eq_true,if_false]at hR;rcases eqCases t.kind 15 with q | q
  ·simp -implicitDefEqProofs [q];refine⟨fun h=>?_,fun h h'=>?_⟩
   ·have:3<t.tags.length∨16<t.fields.length∨t.kind=15∧4<t.fields.length:=by omega
    simp only[if_pos this]at hR;simp at hR;subst hR;simp -implicitDefEqProofs [aC]
   ·have:¬ (3<t.tags.length∨16<t.fields.length∨t.kind=15∧4<t.fields.length):=by omega
    simp only[if_neg this]at hR;exact rest R (by cases hz:t.fE<;>simpa[hz]using hR) _ ⟨by simp,by simp[Hp.set,q]⟩ (by simp)
  ·simp -implicitDefEqProofs [q];refine⟨fun h=>?_,fun h h'=>?_⟩
   ·have:3<t.tags.length∨16<t.fields.length∨t.kind=15∧4<t.fields.length:=by omega
    simp only[if_pos this]at hR;simp at hR;subst hR;simp -implicitDefEqProofs [aC]
   ·have:¬ (3<t.tags.length∨16<t.fields.length∨t.kind=15∧4<t.fields.length):=by omega
    simp only[if_neg this]at hR;exact rest R (by cases hz:t.fE<;>simpa[hz]using hR) _ ⟨by simp,by simp[Hp.set]⟩ (by simp)
end
theorem aC7(root:Int):∀ (l:List Fd) (i:Nat) (last before:Int),(∀f∈l,0≤f.grp)→root≤i→0≤last→last+l.length<4611686018427387904→(before=0∨before=last)→eP root i l (last,before)=dH l (last,before)
 | [],i,last,before,_,_,_,_,_=>by simp[eP,dH]
 | f::r,i,last,before,hg,hi,h0,hl,hb=>by
  have hf:=hg f (by simp);have hg':∀ f∈r,0≤f.grp:=fun x hx=>hg x (by simp[hx])
  simp only[List.length_cons]at hl;have hw:IntKind.i64.wrap (last+1)=last+1:=wrap_i64 (by omega) (by omega);simp only[eP,dH,hw]
  by_cases z:f.grp=0
  ·have h1:¬ last<0:=by omega
   simp only[z,beq_self_eq_true,Bool.true_or,if_true,if_neg h1,bne_self_eq_false,Bool.false_and,Bool.false_eq_true,if_false];exact aC7 root r (i+1) last 0 hg' (by omega) h0 (by omega) (.inl rfl)
  ·have zb:(f.grp==0)=false:=by simp[z]
   have zn:(f.grp != 0)=true:=by simp[z]
   have hge:decide ((i:Int)≥root)=true:=by simp;omega
   simp only[zb,zn,hge,Bool.false_or,Bool.true_and]
   by_cases e:f.grp=before
   ·have hbl:before=last:=by rcases hb with h | h<;>omega
    subst hbl;have e1:¬ before<f.grp:=by omega
    simp only[e,bne_self_eq_false,beq_self_eq_true,Bool.and_self,Bool.or_true,if_true,Bool.false_eq_true,if_false];rw[if_neg (by omega)];exact aC7 root r (i+1) before before hg' (by omega) h0 (by omega) (.inr rfl)
   ·have en:(f.grp != before)=true:=by simp[e]
    simp only[en,if_true]
    by_cases e2:f.grp=last+1
    ·have q1:(f.grp==last+1)=true:=by simp[e2]
     have q2:(f.grp != last+1)=false:=by simp[e2]
     simp only[q1,q2,Bool.true_or,if_true,Bool.false_eq_true,if_false];rw[if_pos (by omega)];exact aC7 root r (i+1) f.grp f.grp hg' (by omega) (by omega) (by omega) (.inr rfl)
    ·have q1:(f.grp==last+1)=false:=by simp[e2]
     have q2:(f.grp != last+1)=true:=by simp[e2]
     have q3:(f.grp==last&&before==last)=false:=by
      rw[Bool.eq_false_iff];simp;intro a b;exact e (a.trans b.symm)
     simp only[q1,q2,q3,Bool.or_self,Bool.false_eq_true,if_false,if_true]
theorem aHG(root:Int):∀ (a b:List Fd) (i:Nat),(∀f∈a,f.grp=0)→eP root i (a++b) (0,0)=eP root (i+a.length) b (0,0)
 | [],b,i,_=>by simp
 | f::r,b,i,h=>by
  have hf:=h f (by simp);simp only[List.cons_append,eP,hf,beq_self_eq_true,Bool.true_or,if_true];rw[if_neg (by omega),aHG root r b (i+1) (fun x hx=>h x (by simp[hx]))];simp only[List.length_cons];congr 1;omega
theorem aFZ(t:Ty)(hl:t.fields.length≤1000)(hr:0≤t.root∧t.root≤t.fields.length)(hg:∀ f∈t.fields,0≤f.grp)(h0:(t.fields.take t.root.toNat).any (fun f=>f.grp != 0)=false):
  eP t.root 0 t.fields (0,0)=dH (t.fields.drop t.root.toNat) (0,0):=by
 have h0':∀ f∈t.fields.take t.root.toNat,f.grp=0:=fun f hf=>by
  have:=(List.any_eq_false.1 h0) f hf;simpa using this
 have e:t.fields=t.fields.take t.root.toNat++t.fields.drop t.root.toNat:=(List.take_append_drop _ _).symm;have:=aHG t.root (t.fields.take t.root.toNat) (t.fields.drop t.root.toNat) 0 h0';rw[←e]at this;rw[this];refine aC7 t.root _ _ 0 0 (fun f hf=>hg f (List.mem_of_mem_drop hf)) ?_ (by omega) ?_ (.inl rfl)
 ·simp;omega
 ·simp;omega
def fV(k:Int):Bool:=cM k||k==3||k==14||k==15
theorem aG0(k root:Int)(i:Nat)(f:Fd)(hk:fV k=true):f.bM k root i=(!f.fits k||(f.grp != 0&&decide ((i:Int)<root))):=by
 have hd:((f.dflt.length:Int)==0)= !decide (0<f.dflt.length):=by rw[Bool.eq_iff_iff];simp
 simp only[Fd.bM,Fd.fits,Fd.alone,hd,cM];generalize decide (0<f.dflt.length)=d;generalize decide ((i:Int)<root)=w
 have h1:k=9∨k=10∨k=13∨k=3∨k=14∨k=15:=by
  simp[fV,cM]at hk;omega
 by_cases p2:f.pres=2
 ·rcases h1 with rfl | rfl | rfl | rfl | rfl | rfl<;>simp[p2,bne]<;>(try generalize (f.num==0)=a)<;>(try generalize (f.grp==0)=b)<;>(try generalize f.ty.isZ=c)<;>(try generalize bR f.name (bs [])=e)<;>revert d w<;>(try revert a)<;>(try revert b)<;>(try revert c)<;>(try revert e)<;>decide
 ·by_cases p0:f.pres=0
  ·rcases h1 with rfl | rfl | rfl | rfl | rfl | rfl<;>simp[p0,bne]<;>(try generalize (f.num==0)=a)<;>(try generalize (f.grp==0)=b)<;>(try generalize f.ty.isZ=c)<;>(try generalize bR f.name (bs [])=e)<;>revert d w<;>(try revert a)<;>(try revert b)<;>(try revert c)<;>(try revert e)<;>decide
  ·have q2:(f.pres==2)=false:=by simp[p2]
   have q0:(f.pres==0)=false:=by simp[p0]
   rcases h1 with rfl | rfl | rfl | rfl | rfl | rfl<;>simp[q0,q2,bne]<;>(try generalize (f.num==0)=a)<;>(try generalize (f.grp==0)=b)<;>(try generalize f.ty.isZ=c)<;>(try generalize bR f.name (bs [])=e)<;>revert d w<;>(try revert a)<;>(try revert b)<;>(try revert c)<;>(try revert e)<;>decide
theorem aG1(k root:Int)(l:List Fd)(hk:fV k=true)(hr:0≤root):(List.range l.length).any (kP k root l)=(l.any (fun f=> !f.fits k)||(l.take root.toNat).any fun f=>f.grp != 0):=by
 rw[Bool.eq_iff_iff];simp only[Bool.or_eq_true,List.any_eq_true,List.mem_range];constructor
 ·rintro⟨i,hi,h⟩;have q:l[i]? =some l[i]:=gE9 hi;simp only[kP,q,aG0 k root i _ hk,Bool.or_eq_true,Bool.and_eq_true,decide_eq_true_eq]at h;rcases h with h | ⟨h1,h2⟩
  ·exact .inl ⟨_,gL9 hi,h⟩
  ·refine .inr ⟨l[i],gM9 (i:=i) ?_,h1⟩;rw[List.getElem?_take,if_pos (by omega),q]
 ·rintro(⟨f,hf,h⟩ | ⟨f,hf,h⟩)
  ·obtain⟨i,hi,rfl⟩:=List.getElem_of_mem hf;refine⟨i,hi,?_⟩;have q:l[i]? =some l[i]:=gE9 hi;simp only[kP,q,aG0 k root i _ hk,h,Bool.true_or]
  ·obtain⟨i,hi,rfl⟩:=List.getElem_of_mem hf;simp only[List.length_take]at hi;rw[List.getElem_take]at h;refine⟨i,by omega,?_⟩;have q:l[i]? =some l[i]:=gE9 (by omega);have hw:decide ((i:Int)<root)=true:=by simp;omega
   simp only[kP,q,aG0 k root i _ hk,h,hw,Bool.and_self,Bool.or_true]
theorem aNY(t:Ty)(hr:0≤t.root):t.kG=t.bM:=by
 have hk:(cM t.kind||t.kind==3||t.kind==14||t.kind==15)=fV t.kind:=rfl;simp only[Ty.kG,Ty.bM,Ty.aDN];rcases bb (fV t.kind)with h | h
 ·rw[aG1 _ _ _ h hr]
 ·rcases Nat.eq_zero_or_pos t.fields.length with z | z
  ·have:t.fields=[]:=List.length_eq_zero_iff.1 z;simp[this]
  ·have hz:decide (0<t.fields.length)=true:=by simp[z]
   rw[hk,h];simp only[fL,hz,Bool.not_false,Bool.and_self,Bool.or_true,Bool.true_or]
theorem aIM(t:Ty):t.gZ= !t.eH:=by
 have hd:(t.fields.any fun f=>f.pres==2&&(f.dflt.length:Int) != 1)=t.fields.any Fd.iM:=rfl;simp only[Ty.gZ,Ty.eH,Ty.aC4,hd,mZ];generalize t.fields.any Fd.iM=a;generalize bC t.limits=b;generalize t.iP=c;generalize ((t.kind==11||t.kind==12)&&(t.of.length:Int) != 1)=d;rw[Bool.or_comm (t.kind==13)];generalize ((t.kind==3||t.kind==13)&&decide (t.root<1))=e;revert a b c d e;decide
theorem cZ:bZ []=0:=rfl
theorem bT(x:Int)(l:List Int):bZ (x::l)=if x != 0 then x else bZ l:=by
 simp only[bZ,List.findSome?_cons,ne0]
 by_cases h:(x != 0)=true
 ·simp[h]
 ·simp[h]
theorem aL2(t:Ty)(hl:t.fields.length≤1000)(hr:0≤t.root∧t.root≤t.fields.length)(hg:∀ f∈t.fields,0≤f.grp)(hf:t.bM=false)(hs:t.eH=true):
  t.nD=if t.dK != 0 then t.dK else t.lB:=by
 have hb:t.aDN=false:=by
  simp only[Ty.bM,Bool.or_eq_false_iff]at hf;exact hf.2
 have h0:(t.fields.take t.root.toNat).any (fun f=>f.grp != 0)=false:=by
  simp only[Ty.aDN,Bool.or_eq_false_iff]at hb;exact hb.2
 have he:fV t.kind=false→t.fields=[]:=fun h=>by
  have hk:(cM t.kind||t.kind==3||t.kind==14||t.kind==15)=fV t.kind:=rfl;simp only[Ty.bM,Bool.or_eq_false_iff,fL,hk,h]at hf;simpa using hf.1.1.1.1.1.2
 have hgr:=aFZ t hl hr hg h0;simp only[Ty.dK,Ty.lB,hs,if_true,bT,cZ,bne_self_eq_false,Bool.false_eq_true,if_false,hgr];simp only[Ty.nD,Ty.pY,Ty.lA,Ty.gL];have isf:∀ k:Int,k=t.kind→cM t.kind=cM k:=fun k h=>by rw[h]
 obtain⟨A,hA⟩:∃ x,gY t.name=x:=⟨_,rfl⟩;obtain⟨B,hB⟩:∃ x,bF t.name=x:=⟨_,rfl⟩;obtain⟨C,hC⟩:∃ x,bR t.name (bs [])=x:=⟨_,rfl⟩;rcases bb (fV t.kind)with h | h
 ·obtain⟨D',hD⟩:∃ x,(t.fields.any fun f=> !bF f.name)=x:=⟨_,rfl⟩;obtain⟨E,hE⟩:∃ x,(List.range t.fields.length).any (jJ t.kind t.fields)=x:=⟨_,rfl⟩;obtain⟨G,hG⟩:∃ x,dH (t.fields.drop t.root.toNat) (0,0)=x:=⟨_,rfl⟩;obtain⟨H,hH⟩:∃ x,(t.fields.any fun f=> !isNum f.num)=x:=⟨_,rfl⟩;simp only[hA,hB,hC,hD,hE,hG,hH]
  have h1:t.kind=9∨t.kind=10∨t.kind=13∨t.kind=3∨t.kind=14∨t.kind=15:=by
   simp[fV,cM]at h;omega
  rcases h1 with q | q | q | q | q | q
  all_goals
   simp only[q,cM];clear hA hB hC hD hE hG hH;revert A B C D' E G H;decide
 ·have hf:=he h
  have h1:¬ t.kind=9∧¬t.kind=10∧¬t.kind=13∧¬t.kind=3∧¬t.kind=14∧¬t.kind=15:=by
   simp[fV,cM]at h;omega
  have hgrp:cM t.kind=false:=by simp[cM,h1]
  simp only[hf,hgrp,hA]
  by_cases q:t.kind=6
  ·cases A<;>simp[q]
  ·simp[q,h1]
theorem aC8(t:Ty)(h:t.cI=0):t.fields.length≤16∧∀f∈t.fields,0≤f.grp∧0≤f.pres∧f.pres≤2:=by
 rw[Ty.uS]at h;split at h
 ·cases h
 ·split at h
  ·cases h
  ·rename_i h1;split at h
   ·cases h
   ·rename_i h2;refine⟨by omega,fun f hf=>?_⟩
    have h3:t.fields.any Fd.fT=false:=by
     have:t.fE=false:=by simpa using h2
     simp only[Ty.fE,Bool.or_eq_false_iff]at this;exact this.1.2
    have:=List.any_eq_false.1 h3 f hf;rw[Fd.uR]at this;simp at this;omega
theorem aQB(t:Ty):t.mP=if t.cI != 0 then t.cI else t.dR:=by
 rw[Ty.mP]
 by_cases h:t.cI=0
 ·have hr:=xD t h;obtain⟨hl,hg⟩:=aC8 t h;have hb:(t.cI != 0)=false:=by simp[h]
  simp only[hb,Bool.false_eq_true,if_false,aNY t hr.1,aIM,Ty.dR];rcases bb t.bM with x | x
  ·simp only[x,if_true]
  ·simp only[x,Bool.false_eq_true,if_false];rcases bb t.eH with y | y
   ·simp only[y,Bool.not_true,Bool.false_eq_true,if_false];exact aL2 t (by omega) hr (fun f hf=>(hg f hf).1) x y
   ·simp only[y,Bool.not_false,if_true,Ty.dK,bT,Bool.false_eq_true,if_false];rfl
 ·have hb:(t.cI != 0)=true:=by simp[h]
  simp only[hb,if_true]
end Go.Proofs.YtdpbobkcbakpfaaGreatDoor
