/- Texts of this proof. -/
import Derived.Carry
import Derived.ReadAgain
import Derived.ChangeArms
import Derived.OpenShut
import Derived.ProofKit
import Derived.Deep.DeepHandedRow
import Derived.Test.YtdpbobkcbakpfaaGreatDoorCards
import Derived.Test.YtdpbobkcbakpfaaGreatDoorTie
import Derived.Lay
import Derived.JoinedCond
import Derived.Shelf.Vars
import Derived.Test.YtdpbobkcbakpfaaGreatDoorMraF
namespace Go.Proofs.YtdpbobkcbakpfaaGreatDoor
open Go Go.Ab
open Go.Proofs.Tryz
set_option maxRecDepth 100000
set_option maxHeartbeats 4000000
section
attribute [-simp] Go.Ab.aA Go.Ab.gval
attribute [local simp] bE aM aQ aG aV aO aX tyC fdC vlC ndC aL D.cR D.pt
theorem pB:∀ l:List UInt8,Op.bytesLess l l=false
 | []=>rfl
 | a::r=>by simp[Op.bytesLess,pB r]
theorem aAJ:∀ a b:List UInt8,(if Op.bytesLess a b then(-1:Int)else if !(Op.bytesLess a b||a==b)then 1 else 0)=Lib.compareBytes a b
 | [],[]=>rfl
 | [],_::_=>rfl
 | _::_,[]=>rfl
 | a::r,b::s=>by
  have ih:=aAJ r s;simp only[Op.bytesLess,Lib.compareBytes]
  by_cases h:a<b
  ·simp[h]
  ·by_cases h2:b<a
   ·have:¬ a=b:=fun e=>by subst e;exact h h2
    simp[h,h2,this]
   ·have:a=b:=UInt8.le_antisymm (UInt8.not_lt.1 h2) (UInt8.not_lt.1 h);subst this;simp only[h,decide_false,Bool.false_or,beq_self_eq_true,Bool.true_and,if_false];rw[←ih];have:((a::r)==(a::s))=(r==s):=by simp
    rw[this]
theorem tV(a b:ByteArray):fC a b=Lib.compareBytes a.data.toList b.data.toList:=by
 rw[fC,ByteArray.toList_eq,ByteArray.toList_eq];exact aAJ _ _
def sg(b:Bool):Int:=if b then 1 else -1
theorem aAK(a b:ByteArray)(h:(a.toList==b.toList)=false):fC a b=sg (!Op.bytesLess a.toList b.toList):=by
 simp only[fC,h,Bool.or_false,sg];cases Op.bytesLess a.toList b.toList<;>rfl
theorem uT(a b:ByteArray)(h:(a.toList==b.toList)=true):fC a b=0:=by
 have e:a.toList=b.toList:=by simpa using h
 simp only[fC,e,pB];simp
theorem aNZ(a b:Int)(h:¬ a=b):kD a b=sg (decide (b<a)):=by
 simp only[kD,sg]
 by_cases h1:a<b
 ·have:¬ b<a:=by omega
  simp[h1,this]
 ·have:b<a:=by omega
  simp[h1,this]
theorem wA:IntKind.i64.wrap (IntKind.i64.wrap 0 - 1)= -1:=by decide
theorem wB:IntKind.i64.wrap (IntKind.i64.wrap 2 - 1)=1:=by decide
theorem wC:IntKind.i64.wrap (1:Int)=1:=by decide
theorem wD:IntKind.i64.wrap (-1:Int)= -1:=by decide
theorem wE:IntKind.i64.wrap (0:Int)=0:=by decide
def gM:List Int→List Int→Int
 | [],[]=>0
 | [],_::_=> -1
 | _::_,[]=>1
 | x::xs,y::ys=>if kD x y != 0 then kD x y else gM xs ys
attribute [local simp] b64 b65 b66 b67 b68 b69 c138 in
theorem aWS(a b:List Int)(ha:short a)(_hb:short b):PSp prog 138 [.one (.t (aX a)),.one (.t (aX b))] (.one (.t (I (gM a b)))):=by
 refine k138.aI (by simp) rfl rfl ?_;simp -implicitDefEqProofs;refine eZ a (fun i r (_:Unit)=>gM r (b.drop i)) (gM a b) () [0,1] [] (fun i _ st=>st.tmps 5= .one (.t (I i))∧i≤b.length) ha (by simp) ⟨by simp,by simp,by simp⟩ ?_ ?_
 ·rintro i y _ st hi hiI hw hg hy hR ⟨hx,hib⟩ hk hh;simp at hk;generalize gM a b=R at*;rcases Nat.lt_or_ge i b.length with h | h
  ·have hg2:b[i]? =some b[i]:=gE9 h;rw[List.drop_eq_getElem_cons h,gM]at hR;generalize b[i]=z at*;have h'':(i:Int)<(b.length:Int):=by omega
   rcases eqCases y z with e | e
   ·subst e;have e0:kD y y=0:=by simp[kD]
    rw[e0]at hR;simp at hR;simp -implicitDefEqProofs [hx,hk,hiI,hi,aE hg,aE hg2,h'',h,hw];exact⟨hR,by omega⟩
   ·have e0:=aNZ y z e.2.1;have e1:(kD y z != 0)=true:=by rw[e0];cases decide (z<y)<;>rfl
    rw[e1,e0]at hR;simp only[if_true]at hR;simp -implicitDefEqProofs [hx,hk,hiI,hi,aE hg,aE hg2,h'',h,e];refine aD.bN (P19 _) rfl ?_;subst hR;generalize decide (z<y)=q;cases q
    ·simp -implicitDefEqProofs [aC,sg,wA]
    ·simp -implicitDefEqProofs [aC,sg,wB]
  ·rw[List.drop_eq_nil_of_le h,gM]at hR;have h1:¬ (i:Int)<(b.length:Int):=by omega
   have h2:b.length<a.length:=by omega
   have h3:¬ a.length<b.length:=by omega
   simp -implicitDefEqProofs [hx,hk,hiI,h1];refine aD.tree (P19 _) rfl ?_;simp -implicitDefEqProofs [hk,h2,h3];refine aD.tree (P19 _) rfl ?_;subst hR;simp -implicitDefEqProofs [aC,wC]
 ·rintro _ st hR ⟨hx,hib⟩ hk hh;simp at hk;generalize gM a b=R at*;rcases Nat.lt_or_ge a.length b.length with h | h
  ·rw[List.drop_eq_getElem_cons h,gM]at hR;have h3:¬ b.length<a.length:=by omega
   simp -implicitDefEqProofs [hx,hk,h,h3];refine aD.tree (P19 _) rfl ?_;simp -implicitDefEqProofs [hk,h];refine aD.tree (P19 _) rfl ?_;subst hR;simp -implicitDefEqProofs [aC,wD]
  ·rw[List.drop_eq_nil_of_le h,gM]at hR;have h':¬ a.length<b.length:=by omega
   have h3:¬ b.length<a.length:=by omega
   simp -implicitDefEqProofs [hx,hk,h',h3];refine aD.tree (P19 _) rfl ?_;simp -implicitDefEqProofs [hk,h'];refine aD.tree (P19 _) rfl ?_;subst hR;simp -implicitDefEqProofs [aC,wE]
attribute [local simp] b7a b7b b7c b7d b7e b7f b7g c139 in
theorem aWT(a b:List Vl)(ha:short a)(_hb:short b)(IH:∀ x∈a,∀y∈b,PSp prog 100 [.agg (vlC x),.agg (vlC y)] (.one (.t (I (x.cmp y))))):PSp prog 139 [.one (.t (aV a)),.one (.t (aV b))] (.one (.t (I (bU a b)))):=by
 refine k139.aI (by simp) (by simp[D.closed,A.closed]) rfl ?_;simp -implicitDefEqProofs;refine eZ a (fun i r (_:Unit)=>bU r (b.drop i)) (bU a b) () [0,1] [] (fun i _ st=>st.tmps 5= .one (.t (I i))∧i≤b.length) ha (by simp) ⟨by simp,by simp,by simp⟩ ?_ ?_
 ·rintro i y _ st hi hiI hw hg hy hR ⟨hx,hib⟩ hk hh;simp at hk;generalize bU a b=R at*;rcases Nat.lt_or_ge i b.length with h | h
  ·have hg2:b[i]? =some b[i]:=gE9 h;have hz:b[i]∈b:=gL9 h;rw[List.drop_eq_getElem_cons h,bU]at hR;generalize b[i]=z at*;have h'':(i:Int)<(b.length:Int):=by omega
   simp -implicitDefEqProofs [hx,hk,hiI,hi,aE hg,aE hg2,h'',h,Vl.aP,-List.getElem_map];refine aD.bN (IH y hy z hz) rfl ?_;rcases eqCases (y.cmp z) 0 with e | e
   ·rw[e]at hR ⊢;simp at hR;simp -implicitDefEqProofs [hx,hk,hw];exact⟨hR,by omega⟩
   ·simp -implicitDefEqProofs [e,aC];simpa[e]using hR
  ·rw[List.drop_eq_nil_of_le h,bU]at hR;have h1:¬ (i:Int)<(b.length:Int):=by omega
   have h2:b.length<a.length:=by omega
   have h3:¬ a.length<b.length:=by omega
   simp -implicitDefEqProofs [hx,hk,hiI,h1];refine aD.tree (P19 _) rfl ?_;simp -implicitDefEqProofs [hk,h2,h3];refine aD.tree (P19 _) rfl ?_;subst hR;simp -implicitDefEqProofs [aC,wC]
 ·rintro _ st hR ⟨hx,hib⟩ hk hh;simp at hk;generalize bU a b=R at*;rcases Nat.lt_or_ge a.length b.length with h | h
  ·rw[List.drop_eq_getElem_cons h,bU]at hR;have h3:¬ b.length<a.length:=by omega
   simp -implicitDefEqProofs [hx,hk,h,h3];refine aD.tree (P19 _) rfl ?_;simp -implicitDefEqProofs [hk,h];refine aD.tree (P19 _) rfl ?_;subst hR;simp -implicitDefEqProofs [aC,wD]
  ·rw[List.drop_eq_nil_of_le h,bU]at hR;have h':¬ a.length<b.length:=by omega
   have h3:¬ b.length<a.length:=by omega
   simp -implicitDefEqProofs [hx,hk,h',h3];refine aD.tree (P19 _) rfl ?_;simp -implicitDefEqProofs [hk,h'];refine aD.tree (P19 _) rfl ?_;subst hR;simp -implicitDefEqProofs [aC,wE]
def VB2(a b:Vl)(st:St):Prop:=st.tmps 2= .one (.ptr ⟨0,0,6,0,0⟩)∧st.tmps 3= .one (.ptr ⟨1,0,6,0,0⟩)∧st.heap 0=some (.arr 0 false 6 [vlC a])∧st.heap 1=some (.arr 0 false 6 [vlC b])
attribute [local simp] a4H a4I a4J a4K a4L a4M a4N a4O a4P a4Q a4R a4S a4T c100 in
theorem aSV(a b:Vl)(aG2:PSp prog 139 [.one (.t (aV a.items)),.one (.t (aV b.items))] (.one (.t (I (bU a.items b.items)))))(R:Int)(st:St)(h1:VB2 a b st)
  (hR:(if a.names.length=b.names.length then bU a.items b.items else sg (decide (b.names.length<a.names.length)))=R):
  aZ prog 99 (aC [.tmp 4] (.one (.t (I R)))) a4Q [] st:=by
 obtain⟨h1,h2,h3,h4⟩:=h1;obtain⟨o1,o2,o3,o4⟩:=aK h3;obtain⟨p1,p2,p3,p4⟩:=aK h4;rcases eqCases (a.names.length:Int) (b.names.length:Int)with e | e
 ·have e':a.names.length=b.names.length:=by omega
  rw[if_pos e']at hR;subst hR;simp -implicitDefEqProofs [h1,h2,o1,o2,o3,p1,p2,p3,e'];refine aD.tree aG2 rfl ?_;simp -implicitDefEqProofs [aC]
 ·have e':¬ a.names.length=b.names.length:=by omega
  rw[if_neg e']at hR;simp -implicitDefEqProofs [h1,h2,o1,o2,o3,p1,p2,p3,e];refine aD.tree (P19 _) rfl ?_;generalize decide (b.names.length<a.names.length)=q at*;subst hR;cases q
  ·simp -implicitDefEqProofs [aC,sg,wA]
  ·simp -implicitDefEqProofs [aC,sg,wB]
attribute [local simp] a4H a4I a4J a4K a4L a4M a4N a4O a4P a4R a4S a4T c100 in
theorem aSW(a b:Vl)(ha:short a.names)(_hb:short b.names)(aG2:PSp prog 139 [.one (.t (aV a.items)),.one (.t (aV b.items))] (.one (.t (I (bU a.items b.items)))))(R:Int)(st:St)(h1:VB2 a b st)(hnx:1<st.nx)
  (hR:(if bV a.names b.names != 0 then bV a.names b.names else bU a.items b.items)=R):
  aZ prog 99 (aC [.tmp 4] (.one (.t (I R)))) a4R [] st:=by
 have rest:=aSV a b aG2 R;generalize bU a.items b.items=V at*;obtain⟨h1,h2,h3,h4⟩:=h1;simp -implicitDefEqProofs;refine eZ a.names (fun i r (_:Unit)=>if bV r (b.names.drop i) != 0 then bV r (b.names.drop i)else V) R () [2,3] [0,1] (fun i _ st=>st.tmps 6= .one (.t (I i))∧i≤b.names.length) ha (by simpa using hR) ⟨by simp,by simp,by simp;omega⟩ ?_ ?_
 ·rintro i y _ st' hi hiI hw hg hy hR ⟨hx,hib⟩ hk hh;simp[h1,h2]at hk hh;have q0:=hh.1.1.trans h3;have q1:=hh.2.1.trans h4;obtain⟨o1,o2,o3,o4⟩:=aK q0;obtain⟨p1,p2,p3,p4⟩:=aK q1;rcases Nat.lt_or_ge i b.names.length with h | h
  ·have hg2:b.names[i]? =some b.names[i]:=gE9 h;rw[List.drop_eq_getElem_cons h,bV]at hR;generalize b.names[i]=z at*;have h'':(i:Int)<(b.names.length:Int):=by omega
   obtain⟨w,hw2⟩:∃ w,(y.toList==z.toList)=w:=⟨_,rfl⟩;cases w
   ·have e0:=aAK y z hw2;have e1:(fC y z != 0)=true:=by rw[e0];cases Op.bytesLess y.toList z.toList<;>rfl
    simp only[e0]at hR;have e2:(sg (!Op.bytesLess y.toList z.toList) != 0)=true:=by cases Op.bytesLess y.toList z.toList<;>rfl
    simp only[e2,if_true]at hR;simp -implicitDefEqProofs [hx,hk,hiI,hi,aE hg,aE hg2,h'',h,o1,o2,o3,p1,p2,p3,hw2,bne];refine aD.bN (P19 _) rfl ?_;subst hR;generalize Op.bytesLess y.toList z.toList=q;cases q
    ·simp -implicitDefEqProofs [aC,sg,wB]
    ·simp -implicitDefEqProofs [aC,sg,wA]
   ·have e0:=uT y z hw2;simp only[e0,bne_self_eq_false,Bool.false_eq_true,if_false]at hR;simp -implicitDefEqProofs [hx,hk,hiI,hi,aE hg,aE hg2,h'',h,hw,o1,o2,o3,p1,p2,p3,hw2,bne];exact⟨by simpa using hR,by omega,⟨h1.symm,h2.symm⟩,hh.1.1,hh.2.1⟩
  ·rw[List.drop_eq_nil_of_le h,bV]at hR;have h1:¬ (i:Int)<(b.names.length:Int):=by omega
   simp -implicitDefEqProofs [hx,hk,hiI,h1,o1,o2,o3,p1,p2,p3];refine rest _ ⟨by simp[hk],by simp[hk],by simp[q0],by simp[q1]⟩ ?_;rw[if_neg (by omega)];have:decide (b.names.length<a.names.length)=true:=by simp;omega
   rw[this];simpa[sg]using hR
 ·rintro _ st' hR ⟨hx,hib⟩ hk hh;simp[h1,h2]at hk hh;have q0:=hh.1.1.trans h3;have q1:=hh.2.1.trans h4;obtain⟨o1,o2,o3,o4⟩:=aK q0;obtain⟨p1,p2,p3,p4⟩:=aK q1;rcases Nat.lt_or_ge a.names.length b.names.length with h | h
  ·rw[List.drop_eq_getElem_cons h,bV]at hR;simp -implicitDefEqProofs [hx,hk,o1,o2,o3,p1,p2,p3];refine rest _ ⟨by simp[hk],by simp[hk],by simp[q0],by simp[q1]⟩ ?_;rw[if_neg (by omega)];have:decide (b.names.length<a.names.length)=false:=by simp;omega
   rw[this];simpa[sg]using hR
  ·rw[List.drop_eq_nil_of_le h,bV]at hR;simp -implicitDefEqProofs [hx,hk,o1,o2,o3,p1,p2,p3];refine rest _ ⟨by simp[hk],by simp[hk],by simp[q0],by simp[q1]⟩ ?_;rw[if_pos (by omega)];simpa using hR
attribute [local simp] a4H a4I a4J a4K a4L a4M a4N a4O a4P a4Q a4S a4T c100 in
theorem aSX(a b:Vl)(ha:short a.names)(hb:short b.names)(aG2:PSp prog 139 [.one (.t (aV a.items)),.one (.t (aV b.items))] (.one (.t (I (bU a.items b.items)))))(R:Int)(st:St)(h1:VB2 a b st)(_hnx:1<st.nx)
  (hR:(if fC a.s b.s != 0 then fC a.s b.s else if bV a.names b.names != 0 then bV a.names b.names else bU a.items b.items)=R):
  aZ prog 99 (aC [.tmp 4] (.one (.t (I R)))) a4S [] st:=by
 have rest:=aSW a b ha hb aG2 R;generalize (if bV a.names b.names != 0 then bV a.names b.names else bU a.items b.items)=V at*;obtain⟨h1,h2,h3,h4⟩:=h1;obtain⟨o1,o2,o3,o4⟩:=aK h3;obtain⟨p1,p2,p3,p4⟩:=aK h4;obtain⟨w,hw2⟩:∃ w,(a.s.toList==b.s.toList)=w:=⟨_,rfl⟩;cases w
 ·have e0:=aAK a.s b.s hw2;have e1:(fC a.s b.s != 0)=true:=by rw[e0];cases Op.bytesLess a.s.toList b.s.toList<;>rfl
  simp only[e0]at hR;have e2:(sg (!Op.bytesLess a.s.toList b.s.toList) != 0)=true:=by cases Op.bytesLess a.s.toList b.s.toList<;>rfl
  simp only[e2,if_true]at hR;simp -implicitDefEqProofs [h1,h2,o1,o2,o3,p1,p2,p3,hw2];refine aD.tree (P19 _) rfl ?_;subst hR;generalize Op.bytesLess a.s.toList b.s.toList=q;cases q
  ·simp -implicitDefEqProofs [aC,sg,wB]
  ·simp -implicitDefEqProofs [aC,sg,wA]
 ·have e0:=uT a.s b.s hw2;simp only[e0,bne_self_eq_false,Bool.false_eq_true,if_false]at hR;simp -implicitDefEqProofs [h1,h2,o1,o2,o3,p1,p2,p3,hw2];exact rest _ ⟨by simp[h1],by simp[h2],by simp[h3],by simp[h4]⟩ (by simp<;>omega) hR
theorem Vl.aO0(a b:Vl):a.cmp b=if gM [a.kind,a.n,a.e] [b.kind,b.n,b.e] != 0 then gM [a.kind,a.n,a.e] [b.kind,b.n,b.e] else if fC a.s b.s != 0 then fC a.s b.s else if bV a.names b.names != 0 then bV a.names b.names else bU a.items b.items:=by
 rw[Vl.cmp_eq];simp only[bT,cZ,gM,tV];generalize kD a.kind b.kind=x;generalize kD a.n b.n=y;generalize kD a.e b.e=z;generalize bU a.items b.items=v;generalize bV a.names b.names=u;generalize Lib.compareBytes a.s.data.toList b.s.data.toList=w
 by_cases h1:x=0<;>by_cases h2:y=0<;>by_cases h3:z=0<;>by_cases h4:w=0<;>by_cases h5:u=0<;>by_cases h6:v=0<;>simp[h1,h2,h3,h4,h5,h6]
attribute [local simp] a4H a4I a4J a4K a4L a4M a4N a4O a4P a4Q a4R a4T c100 in
theorem aO1(a b:Vl)(ha:a.fine)(hb:b.fine)(IH:∀ x∈a.items,∀y∈b.items,PSp prog 100 [.agg (vlC x),.agg (vlC y)] (.one (.t (I (x.cmp y))))):PSp prog 100 [.agg (vlC a),.agg (vlC b)] (.one (.t (I (a.cmp b)))):=by
 rw[Vl.bG]at ha hb;have aG2:=aWT a.items b.items ha.2.2.2.1 hb.2.2.2.1 IH;have rest:=aSX a b ha.2.1 hb.2.1 aG2;refine k100.aI (by simp) (by simp[D.closed,A.closed]) rfl ?_;obtain⟨R,hR⟩:∃ R,a.cmp b=R:=⟨_,rfl⟩;rw[hR];rw[Vl.aO0]at hR;simp -implicitDefEqProofs;refine aD.pure (aWS [a.kind,a.n,a.e] [b.kind,b.n,b.e] (by simp[short]) (by simp[short])) (by simp) (by simp) ?_;rcases eqCases (gM [a.kind,a.n,a.e] [b.kind,b.n,b.e]) 0 with e | e
 ·simp only[e,bne_self_eq_false,Bool.false_eq_true,if_false]at hR;rw[e];simp -implicitDefEqProofs;refine rest R _ ?_ ?_ hR
  ·exact⟨by simp,by simp,by simp[Hp.set],by simp[Hp.set]⟩
  ·simp
 ·rw[e.2.2.2.2.1]at hR;simp only[if_true]at hR;simp -implicitDefEqProofs [e,aC];exact hR
theorem aWU:∀ a:Vl,a.fine→∀b:Vl,b.fine→PSp prog 100 [.agg (vlC a),.agg (vlC b)] (.one (.t (I (a.cmp b)))):=by
 refine Vl.ind fun a IH ha b hb=>aO1 a b ha hb fun x hx y hy=>?_
 rw[Vl.bG]at ha hb;exact IH x hx (ha.2.2.2.2 x hx) y (hb.2.2.2.2 y hy)
end
section
attribute [-simp] Go.Ab.aA Go.Ab.gval
attribute [local simp] bE aM aQ aG aV aO aX tyC fdC vlC ndC aL D.cR D.pt
attribute [local simp] c200 in
theorem aWV(k:Int):PSp prog 200 [.one (.t (I k))] (.one (.t (.bool (kO k)))):=by
 refine k200.aI (by simp) rfl rfl ?_;simp -implicitDefEqProofs;refine aD.pure (P46 [3,4,5,6,13] k (by simp[short])) (by simp) (by simp[ints]) ?_;simp -implicitDefEqProofs [aC];rw[Bool.eq_iff_iff];simp[kO];omega
attribute [local simp] c202 in
theorem aWW(k:Int):PSp prog 202 [.one (.t (I k))] (.one (.t (.bool (gR k)))):=by
 refine k202.aI (by simp) rfl rfl ?_;simp -implicitDefEqProofs;refine aD.pure (P46 [7,9,10,11,12,13] k (by simp[short])) (by simp) (by simp[ints]) ?_;simp -implicitDefEqProofs [aC];rw[Bool.eq_iff_iff];simp[gR];omega
theorem aWX(n:Int):(IntKind.i64.wrap ((((n % 2 ^ IntKind.i64.bits).toNat&&&1 % 2 ^ IntKind.i64.bits):Nat):Int)==1)= !(n.tmod 2==0):=by
 have hb:IntKind.i64.bits=64:=rfl;rw[hb];have h1:(1 % 2 ^ 64:Nat)=1:=by decide
 rw[h1,Nat.and_one_is_mod];have h2:((((n % 2 ^ 64).toNat % 2):Nat):Int)=n % 2:=by omega
 rw[h2];have h3:IntKind.i64.wrap (n % 2)=n % 2:=wrap_i64 (by omega) (by omega);rw[h3,Bool.eq_iff_iff]
 have h4:n.tmod 2=0↔n % 2=0:=by
  rw[←Int.dvd_iff_tmod_eq_zero,←Int.dvd_iff_emod_eq_zero]
 simp;omega
attribute [local simp] b04 b05 b06 b07 b08 b09 b1a b1b b1c b1d b1e b1f b1g b1h b1i b1j b1k b1l b1m b1n b1o b1p b1q b1r b1s b1t b1u b1v b1w b1x b1y b1z b1A b1B a6U b1C c203 in
theorem aSY(v:Vl)(hl:short v.items)(st:St)(h1:VB v 1 st)(h9:st.tmps 9= .one (.t (I v.kind)))(h2:st.tmps 2= .one (.t (.bool false)))(_hnx:0<st.nx):aZ prog 117 (aC [.tmp 2] (.one (.t (.bool (!v.cY))))) b1B [.thn (.seq (.region 19 false 10 a6U) .ret)] st:=by
 obtain⟨h1,h2⟩:=h1;obtain⟨o1,o2,o3,o4⟩:=aK h2;rcases eqCases v.kind 1 with q1 | q1
 ·simp -implicitDefEqProofs [h1,h9,o1,o2,o3,q1];refine aD.tree (dG _ _ _) rfl ?_;simp -implicitDefEqProofs [aC,Vl.cY,q1]
 ·rcases eqCases v.kind 14 with q14 | q14
  ·simp -implicitDefEqProofs [h1,h9,o1,o2,o3,q14];refine aD.tree (dG _ _ _) rfl ?_;simp -implicitDefEqProofs [aC,Vl.cY,q14]
  ·rcases eqCases v.kind 8 with q8 | q8
   ·obtain⟨a,ea⟩:∃ a,(v.n==0)=a:=⟨_,rfl⟩;obtain⟨b,eb⟩:∃ a,(v.e==0)=a:=⟨_,rfl⟩;obtain⟨c,ec⟩:∃ a,isNum v.n=a:=⟨_,rfl⟩;obtain⟨d,ed⟩:∃ a,(v.n.tmod 2==0)=a:=⟨_,rfl⟩;obtain⟨e,ee⟩:∃ a,(decide (-1000≤v.e)&&decide (v.e≤1000))=a:=⟨_,rfl⟩
    have hR:v.cY=((a&&b)||(c&& !d&&e)):=by
     simp only[Vl.cY,q8,ea,eb,ec,bne,ed,ee];rfl
    rw[hR]
    have hz:a=true→c=true:=fun h=>by
     rw[←ec];have h0:v.n=0:=by rw[←ea]at h;simpa using h
     rw[h0];decide
    have od:=aWX v.n;rw[ed]at od
    have p37:PSp prog 37 [.one (.t (I v.n)),.one (.t (I (-1152921504606846976))),.one (.t (I 1152921504606846976))] (.one (.t (.bool c))):=by
     rw[←ec];exact dG _ _ _
    cases d
    ·simp only[Bool.not_false]at od;have od':=of_decide_eq_true (p:=IntKind.i64.wrap ((((v.n % 2 ^ IntKind.i64.bits).toNat&&&1 % 2 ^ IntKind.i64.bits):Nat):Int)=1) (by simpa using od);simp -implicitDefEqProofs [h1,h9,o1,o2,o3,q8,od'];refine aD.tree (dG _ _ _) rfl ?_;rw[ee];simp -implicitDefEqProofs [h1,o1,o2,o3];refine aD.tree p37 rfl ?_;cases c<;>cases a<;>cases b<;>cases e
     all_goals first | exact absurd (hz rfl) (by decide) | simp -implicitDefEqProofs [h1,o1,o2,o3,ea,eb,bne,aC]
    ·simp only[Bool.not_true]at od;have od':¬ IntKind.i64.wrap ((((v.n % 2 ^ IntKind.i64.bits).toNat&&&1 % 2 ^ IntKind.i64.bits):Nat):Int)=1:=by simpa using od
     simp -implicitDefEqProofs [h1,h9,o1,o2,o3,q8,od];refine aD.tree p37 rfl ?_;cases c<;>cases a<;>cases b
     all_goals first | exact absurd (hz rfl) (by decide) | simp -implicitDefEqProofs [h1,o1,o2,o3,ea,eb,bne,aC]
   ·rcases eqCases v.kind 7 with q7 | q7
    ·have hR:v.cY=wZ v.items:=by simp only[Vl.cY,q7];rfl
     rw[hR];simp -implicitDefEqProofs [h9,q7];refine bS (List.range v.items.length) (gC v.items) [1] [0] (fun i st=>st.tmps 4= .one (.t (I i))∧st.tmps 2= .one (.t (.bool false))) (by simpa[short]using hl) ⟨by simp[*],by simp,by simp[]⟩ ?_ ?_
     ·rintro i y st' hi hiI hw hg hy hany ⟨hx,hx2⟩ hk hh;obtain rfl:=iJ hg;simp[h1]at hk hh;simp at hi;obtain⟨o1,o2,o3,o4⟩:=aK (hh.1.trans h2);have hi':(y:Int)<(v.items.length:Int):=by omega
      have q1:v.items[y]? =some v.items[y]:=gE9 hi;have q2:v.items[0]? =some v.items[0]:=gE9 (by omega);have c0:0<v.items.length:=by omega
      have hd:gC v.items y=((v.items[y]).kind==2&&wY y v.items[y] v.items[0]):=by simp[gC,q1,q2]
      rw[hd]at hany ⊢;have e0:wZ v.items= !(List.range v.items.length).any (gC v.items):=rfl;rw[e0,Bool.not_not];generalize (List.range v.items.length).any (gC v.items)=W at*;generalize v.items[y]=x at*;generalize v.items[0]=x0 at*;have hne:∀ c,¬0=st'.nx+c+1:=fun c=>by omega
      obtain⟨a,ea⟩:∃ a,(decide (0≤x.n)&&decide (x.n≤1152921504606846976))=a:=⟨_,rfl⟩;obtain⟨b,eb⟩:∃ a,decide (x.n>2)=a:=⟨_,rfl⟩;obtain⟨c,ec⟩:∃ a,decide (x0.n<2)=a:=⟨_,rfl⟩;obtain⟨d,ed⟩:∃ a,decide (x.n>39)=a:=⟨_,rfl⟩;obtain⟨e,ee⟩:∃ a,(x0.kind==2)=a:=⟨_,rfl⟩;obtain⟨z0,ez0⟩:∃ a,((y:Int)==0)=a:=⟨_,rfl⟩;obtain⟨z1,ez1⟩:∃ a,((y:Int)==1)=a:=⟨_,rfl⟩;have eb':decide (2<x.n)=b:=eb;have ed':decide (39<x.n)=d:=ed;obtain⟨u1,m1⟩:∃ a,(z0&&b)=a:=⟨_,rfl⟩;obtain⟨u2,m2⟩:∃ a,(z1&&e)=a:=⟨_,rfl⟩;obtain⟨u3,m3⟩:∃ a,(u2&&c)=a:=⟨_,rfl⟩;obtain⟨u4,m4⟩:∃ a,(u3&&d)=a:=⟨_,rfl⟩;simp only[wY,ea,eb,ec,ed,ee,ez0,ez1,m1,m2,m3,m4]at hany ⊢;rcases eqCases x.kind 2 with q | q
      ·simp only[q,beq_self_eq_true,Bool.true_and]at hany;cases z1
       ·simp only[Bool.false_and]at m2;subst m2;simp only[Bool.false_and]at m3;subst m3;simp only[Bool.false_and]at m4;subst m4;simp -implicitDefEqProofs [hx,hk,hi',hi,q,o1,o2,o3,aE q1,aE q2,c0,Vl.aP,-List.getElem_map,eb',ec,ed',ee,ez0,ez1,m1,-Bool.not_or,-Bool.not_and];refine aD.tree (dG _ _ _) rfl ?_;rw[ea];cases a<;>cases u1
        all_goals simp -implicitDefEqProofs [hx,hx2,hk,hw,aC]
        all_goals first | exact hany rfl | simp[Hp.set,h1,hh.1]
       ·cases e
        ·simp only[Bool.and_false]at m2;subst m2;simp only[Bool.false_and]at m3;subst m3;simp only[Bool.false_and]at m4;subst m4;simp -implicitDefEqProofs [hx,hk,hi',hi,q,o1,o2,o3,aE q1,aE q2,c0,Vl.aP,-List.getElem_map,eb',ec,ed',ee,ez0,ez1,m1,-Bool.not_or,-Bool.not_and];refine aD.tree (dG _ _ _) rfl ?_;rw[ea];cases a<;>cases u1
         all_goals simp -implicitDefEqProofs [hx,hx2,hk,hw,aC]
         all_goals first | exact hany rfl | simp[Hp.set,h1,hh.1]
        ·simp only[Bool.and_true]at m2;subst m2;simp only[Bool.true_and]at m3;subst m3;simp -implicitDefEqProofs [hx,hk,hi',hi,q,o1,o2,o3,aE q1,aE q2,c0,Vl.aP,-List.getElem_map,eb',ec,ed',ee,ez0,ez1,m1,m4,-Bool.not_or,-Bool.not_and];refine aD.tree (dG _ _ _) rfl ?_;rw[ea];cases a<;>cases u1<;>cases u4
         all_goals simp -implicitDefEqProofs [hx,hx2,hk,hw,aC]
         all_goals first | exact hany rfl | simp[Hp.set,h1,hh.1]
      ·simp -implicitDefEqProofs [hx,hx2,hk,hi',hi,hw,q,o1,o2,o3,aE q1,Vl.aP,-List.getElem_map];simp[Hp.set,h1,hh.1]
     ·rintro st' hany ⟨hx,hx2⟩ hk hh;simp[h1]at hk hh;simp only[List.length_range]at hx;obtain⟨o1,o2,o3,o4⟩:=aK (hh.1.trans h2);have e0:wZ v.items= !(List.range v.items.length).any (gC v.items):=rfl;rw[e0,hany];simp -implicitDefEqProofs [hx,hx2,hk,o1,o2,o3,q7,aC]
    ·rcases eqCases v.kind 2 with q2 | q2
     ·simp -implicitDefEqProofs [h1,h9,o1,o2,o3,q2];refine aD.tree (dG _ _ _) rfl ?_;simp -implicitDefEqProofs [aC,Vl.cY,q2,isNum]
     ·simp -implicitDefEqProofs [h1,h9,o1,o2,o3,q1,q14,q8,q7,q2,aC,Vl.cY]
attribute [local simp] b04 b05 b06 b07 b08 b09 b1a b1b b1c b1d b1e b1f b1g b1h b1i b1j b1k b1l b1m b1n b1o b1p b1q b1r b1s b1t b1u b1v b1w b1x b1y b1z b1A a6U b1C c203 in
theorem aWY(v:Vl)(hl:short v.items):PSp prog 203 [.agg (vlC v)] (.one (.t (.bool (!v.cY)))):=by
 refine k203.aI (by simp) (by simp[D.closed,A.closed]) rfl ?_;have rest:=aSY v hl;simp -implicitDefEqProofs;exact rest _ ⟨by simp,by simp[Hp.set]⟩ (by simp) (by simp) (by simp)
end
section
attribute [-simp] Go.Ab.aA Go.Ab.gval
attribute [local simp] bE aM aQ aG aV aO aX tyC fdC vlC ndC aL D.cR D.pt
attribute [local simp] b1D b1E b1F b1G b1H b1I b1J b1K b1L b1M b1N b1O b1P b1Q b1R b1S b1T b1U b1V b1W b1X b1Y b1Z b10 b11 a6V b12 c204 in
theorem aO2(v:Vl)(hl:short v.items)(st:St)(h1:VB v 1 st)(h9:st.tmps 5= .one (.t (I v.kind)))(_hnx:0<st.nx):aZ prog 66 (aC [.tmp 2] (.one (.t (.bool (!v.shaped))))) b11 [.thn (.seq (.region 15 false 1 a6V) .ret)] st:=by
 obtain⟨h1,h2⟩:=h1;obtain⟨o1,o2,o3,o4⟩:=aK h2;rcases eqCases v.kind 9 with q9 | q9
 ·simp -implicitDefEqProofs [h1,h9,o1,o2,o3,q9,aC,Vl.shaped,bne]
 ·rcases eqCases v.kind 12 with q12 | q12
  ·obtain⟨a,ea⟩:∃ a,((v.names.length:Int)==1)=a:=⟨_,rfl⟩;obtain⟨b,eb⟩:∃ a,((v.items.length:Int)==1)=a:=⟨_,rfl⟩;cases a<;>cases b
   all_goals simp -implicitDefEqProofs [h1,h9,o1,o2,o3,q12,ea,eb,bne,aC,Vl.shaped]
  ·rcases eqCases v.kind 13 with q13 | q13
   ·obtain⟨a,ea⟩:∃ a,((v.items.length:Int)==1)=a:=⟨_,rfl⟩;obtain⟨b,eb⟩:∃ a,(v.s.toList==(bs []).toList)=a:=⟨_,rfl⟩;have eb':bR v.s (bs [])=b:=eb;rcases bb a with rfl | rfl
    ·rcases bb b with rfl | rfl
     ·have hl1:v.items.length=1:=by have:=ea;simp at this;omega
      have g:v.items[0]? =some (v.items[0]'(by omega)):=gE9 (by omega);have hp:0<v.items.length:=by omega
      generalize hgx:v.items[0]'(by omega)=x at g;simp -implicitDefEqProofs [h1,h9,o1,o2,o3,q13,ea,eb,bne,hp,aE g,Vl.aP,-List.getElem_map,aC,Vl.shaped,eb',hgx]
     ·simp -implicitDefEqProofs [h1,h9,o1,o2,o3,q13,ea,eb,eb',bne,aC,Vl.shaped]
    ·simp -implicitDefEqProofs [h1,h9,o1,o2,o3,q13,ea,bne,aC,Vl.shaped]
   ·rcases eqCases v.kind 7 with q7 | q7
    ·have e0:v.shaped=(decide ((v.items.length:Int)≥2)&& !v.items.any (fun x=> !(x.kind==2))):=by simp only[Vl.shaped,q7];rfl
     rw[e0];simp -implicitDefEqProofs [h9,q7];refine bS v.items (fun x=> !(x.kind==2)) [1] [0] (fun i st=>st.tmps 3= .one (.t (I i))) hl ⟨by simp[*],by simp,by simp[]⟩ ?_ ?_
     ·intro i x st' hi hiI hw hg hy hany hx hk hh;simp[h1]at hk hh;obtain⟨o1,o2,o3,o4⟩:=aK (hh.1.trans h2);generalize v.items.any (fun x=> !(x.kind==2))=W at*;rcases eqCases x.kind 2 with q | q
      ·simp -implicitDefEqProofs [hx,hk,hi,hiI,hw,o1,o2,o3,q,aE hg,Vl.aP,-List.getElem_map];exact⟨h1.symm,hh.1⟩
      ·rw[q.1]at hany;have:=hany rfl;subst this;simp -implicitDefEqProofs [hx,hk,hi,hiI,o1,o2,o3,q,aE hg,Vl.aP,-List.getElem_map,aC]
     ·intro st' hany hx hk hh;simp[h1]at hk hh;obtain⟨o1,o2,o3,o4⟩:=aK (hh.1.trans h2);rw[hany];simp -implicitDefEqProofs [hx,hk,o1,o2,o3,aC];rw[Bool.eq_iff_iff];simp;try omega
    ·simp -implicitDefEqProofs [h9,q9,q12,q13,q7,aC,Vl.shaped]
attribute [local simp] b1D b1E b1F b1G b1H b1I b1J b1K b1L b1M b1N b1O b1P b1Q b1R b1S b1T b1U b1V b1W b1X b1Y b1Z b10 a6V b12 c204 in
theorem aWZ(v:Vl)(hl:short v.items):PSp prog 204 [.agg (vlC v)] (.one (.t (.bool (!v.shaped)))):=by
 refine k204.aI (by simp) (by simp[D.closed,A.closed]) rfl ?_;have rest:=aO2 v hl;simp -implicitDefEqProofs;exact rest _ ⟨by simp,by simp[Hp.set]⟩ (by simp) (by simp)
end
section
attribute [-simp] Go.Ab.aA Go.Ab.gval
attribute [local simp] bE aM aQ aG aV aO aX tyC fdC vlC ndC aL D.cR D.pt
def aIN(l:List Vl)(j:Nat):Bool:=match l[j]?,l[j+1]? with | some x,some y=>decide (0<x.cmp y) | _,_=>false
def unsorted(l:List Vl):Bool:=(List.range (l.length - 1)).any (aIN l)
attribute [local simp] a0b a0c a0d a0e a0f a0g a0h a0i a0j a0k a0l a0m a0n a0o a0p a0q a0r a0s a0t a0u a0v a0w a0x a0y a0z a0A a0B a0C a0D a0E a0F a0G a0H a0I a0J a0a a0K a0L a0M a0N a0O a0P a0Q a0R a0S a0T a0U c158 in
theorem aSZ(v:Vl)(hv:v.fine)(st:St)(h1:VB v 1 st)(_hnx:0<st.nx):aZ prog 218 (aC [.tmp 2] (.one (.t (I (if v.kind==11&&unsorted v.items then 14 else 0))))) a0I [] st:=by
 have hv':=(Vl.bG v).1 hv;have hl:=hv'.2.2.2.1;obtain⟨h1,h2⟩:=h1;obtain⟨o1,o2,o3,o4⟩:=aK h2;rcases eqCases v.kind 11 with q | q
 ·obtain⟨R,hR⟩:∃ R,(if v.kind==11&&unsorted v.items then(14:Int)else 0)=R:=⟨_,rfl⟩;rw[hR];simp only[q,beq_self_eq_true,Bool.true_and,unsorted]at hR;simp -implicitDefEqProofs;have hsr:short (List.range (v.items.length - 1)):=by simp[short]at hl ⊢;omega
  refine bS (List.range (v.items.length - 1)) (aIN v.items) [1] [0] (fun i st=>st.tmps 9= .one (.t (I ((i+1:Nat):Int)))) hsr ⟨by simp,by simp,by simp[]⟩ ?_ ?_
  ·intro i y st' hi hiI hw hg hy hany hx hk hh;obtain rfl:=iJ hg;simp[h1]at hk hh;simp at hi;obtain⟨o1,o2,o3,o4⟩:=aK (hh.1.trans h2);have b1:y+1<v.items.length:=by omega
   have b2:((y+1:Nat):Int)<(v.items.length:Int):=by omega
   have g1:v.items[y+1]? =some v.items[y+1]:=gE9 b1;have g0:v.items[y]? =some v.items[y]:=gE9 (by omega)
   have w1:IntKind.i64.wrap (((y+1:Nat):Int) - 1)=(y:Int):=by
    rw[show((y+1:Nat):Int) - 1=(y:Int)by omega];exact aH _ (by omega) (by simp[short]at hl;omega)
   have w2:IntKind.i64.wrap (((y+1:Nat):Int)+1)=((y+1+1:Nat):Int):=aH _ (by omega) (by simp[short]at hl;omega);have hd:aIN v.items y=decide (0<(v.items[y]).cmp v.items[y+1]):=by simp[aIN,g0,g1]
   have m0:v.items[y]∈v.items:=gL9 _;have m1:v.items[y+1]∈v.items:=gL9 _;rw[hd]at hany ⊢;generalize v.items[y]=x0 at*;generalize v.items[y+1]=x1 at*;have b0:y<v.items.length:=by omega
   have b0':(y:Int)<(v.items.length:Int):=by omega
   obtain⟨m,hm⟩:∃ m,y+1=m:=⟨_,rfl⟩;rw[hm]at hx b1 b2 g1 w1 w2;simp -implicitDefEqProofs [hx,hk,b1,b2,b0,b0',w1,o1,o2,o3,q,aE g0,aE g1,Vl.aP,-List.getElem_map];refine aD.bN (aWU x0 (hv'.2.2.2.2 x0 m0) x1 (hv'.2.2.2.2 x1 m1)) rfl ?_;rcases pX 0 (x0.cmp x1)with c | c
   ·rw[if_pos (hany (by simp[c]))]at hR;subst hR;simp -implicitDefEqProofs [c,aC]
   ·simp -implicitDefEqProofs [c,hx,hk,w2,hh.1,h1];omega
  ·intro st' hany hx hk hh;simp[h1]at hk hh;simp only[List.length_range]at hx;obtain⟨o1,o2,o3,o4⟩:=aK (hh.1.trans h2);obtain⟨m,hm⟩:∃ m,v.items.length - 1+1=m:=⟨_,rfl⟩;rw[hm]at hx;have b1:¬ (m:Int)<(v.items.length:Int):=by omega
   rw[hany]at hR;subst hR;simp -implicitDefEqProofs [hx,hk,b1,o1,o2,o3,aC]
 ·have e:(if v.kind==11&&unsorted v.items then(14:Int)else 0)=0:=by simp[q]
  rw[e];simp -implicitDefEqProofs;refine bS ([]:List Fd) (fun f=> !isNum f.num) [1] [0] (fun i st=>st.tmps 9= .one (.t (I 1))) (by simp[short]) ⟨by simp,by simp,by simp[]⟩ ?_ ?_
  ·intro i f st' hi;simp at hi
  ·intro st' hany hx hk hh;simp[h1]at hk hh hx;obtain⟨o1,o2,o3,o4⟩:=aK (hh.1.trans h2);simp -implicitDefEqProofs [hk,hx,o1,o2,o3,q,aC]
attribute [local simp] a0b a0c a0d a0e a0f a0g a0h a0i a0j a0k a0l a0m a0n a0o a0p a0q a0r a0s a0t a0u a0v a0w a0x a0y a0z a0A a0B a0C a0D a0E a0F a0G a0H a0J a0a a0K a0L a0M a0N a0O a0P a0Q a0R a0S a0T a0U c158 in
theorem aT0(v:Vl)(hv:v.fine)(R:Int)(hR:(if(List.range v.names.length).any (kT v.names)then(13:Int)else if v.kind==11&&unsorted v.items then 14 else 0)=R)(st:St)(h1:VB v 1 st)(_hnx:0<st.nx):aZ prog 218 (aC [.tmp 2] (.one (.t (I R)))) a0J [] st:=by
 have rest:=aSZ v hv;have hv':=(Vl.bG v).1 hv;have hl:=hv'.2.1;obtain⟨h1,h2⟩:=h1;obtain⟨o1,o2,o3,o4⟩:=aK h2;generalize (if v.kind==11&&unsorted v.items then(14:Int)else 0)=R3 at*;simp -implicitDefEqProofs;refine bS (List.range v.names.length) (kT v.names) [1] [0] (fun i st=>st.tmps 8= .one (.t (I i))) (by simpa[short]using hl) ⟨by simp,by simp,by simp[]⟩ ?_ ?_
 ·intro i y st' hi hiI hw hg hy hany hx hk hh;obtain rfl:=iJ hg;simp[h1]at hk hh;simp at hi;obtain⟨o1,o2,o3,o4⟩:=aK (hh.1.trans h2);have hi':(y:Int)<(v.names.length:Int):=by omega
  have g0:v.names[y]? =some v.names[y]:=gE9 hi
  have hd:kT v.names y=aIF (v.names.take y) v.names[y]:=by
   simp only[kT,g0,aIF];congr 1;funext x;simp only[bR];exact Bool.beq_comm ..
  rw[hd]at hany ⊢;generalize v.names[y]=x at*;have hle:y≤v.names.length:=by omega
  have aT1:=aS3 (v.names.take y) x (by simp[short]at hl ⊢;omega);simp -implicitDefEqProofs [hx,hk,hi,hi',hle,o1,o2,o3,aE g0,-List.getElem_map];simp only[aO,List.map_take]at aT1;refine aD.bN aT1 rfl ?_;rcases bb (aIF (v.names.take y) x)with c | c
  ·rw[if_pos (hany c)]at hR;subst hR;rw[c];simp -implicitDefEqProofs [aC]
  ·rw[c];simp -implicitDefEqProofs [hx,hk,hw,h1];exact hh.1
 ·intro st' hany hx hk hh;simp[h1]at hk hh;simp only[List.length_range]at hx;obtain⟨o1,o2,o3,o4⟩:=aK (hh.1.trans h2);rw[hany]at hR;subst hR;simp -implicitDefEqProofs [hx,hk,o1,o2,o3];exact rest _ ⟨by simp[hk],by simp[hh,h2]⟩ (by simp<;>omega)
attribute [local simp] a0b a0c a0d a0e a0f a0g a0h a0i a0j a0k a0l a0m a0n a0o a0p a0q a0r a0s a0t a0u a0v a0w a0x a0y a0z a0A a0B a0C a0D a0E a0F a0G a0H a0I a0a a0K a0L a0M a0N a0O a0P a0Q a0R a0S a0T a0U c158 in
theorem aT2(v:Vl)(hv:v.fine)(R:Int)(hR:(if v.names.any (fun s=> !bF s)then(7:Int)else if(List.range v.names.length).any (kT v.names)then(13:Int)else if v.kind==11&&unsorted v.items then 14 else 0)=R)(st:St)(h1:VB v 1 st)(_hnx:0<st.nx):aZ prog 218 (aC [.tmp 2] (.one (.t (I R)))) a0a [] st:=by
 have rest:=aT0 v hv _ rfl;have hv':=(Vl.bG v).1 hv;have hl:=hv'.2.1;obtain⟨h1,h2⟩:=h1;obtain⟨o1,o2,o3,o4⟩:=aK h2;generalize (if(List.range v.names.length).any (kT v.names)then(13:Int)else if v.kind==11&&unsorted v.items then 14 else 0)=R3 at*;simp -implicitDefEqProofs;refine bS v.names (fun s=> !bF s) [1] [0] (fun i st=>st.tmps 7= .one (.t (I i))) hl ⟨by simp,by simp,by simp[]⟩ ?_ ?_
 ·intro i x st' hi hiI hw hg hy hany hx hk hh;simp[h1]at hk hh;obtain⟨o1,o2,o3,o4⟩:=aK (hh.1.trans h2);simp -implicitDefEqProofs [hx,hk,hi,hiI,o1,o2,o3,aE hg,-List.getElem_map];refine aD.tree (aNH x (hv'.2.2.1 x hy)) rfl ?_;rcases bb (bF x)with c | c
  ·rw[c];simp -implicitDefEqProofs [hx,hk,hw,h1];exact hh.1
  ·rw[if_pos (hany (by simp[c]))]at hR;subst hR;rw[c];simp -implicitDefEqProofs [aC]
 ·intro st' hany hx hk hh;simp[h1]at hk hh;obtain⟨o1,o2,o3,o4⟩:=aK (hh.1.trans h2);rw[hany]at hR;subst hR;simp -implicitDefEqProofs [hx,hk,o1,o2,o3];exact rest _ ⟨by simp[hk],by simp[hh,h2]⟩ (by simp<;>omega)
attribute [local simp] a0b a0c a0d a0e a0f a0g a0h a0i a0j a0k a0l a0m a0n a0o a0p a0q a0r a0s a0t a0u a0v a0w a0x a0y a0z a0A a0B a0C a0D a0E a0F a0G a0H a0I a0J a0K a0L a0M a0N a0O a0P a0Q a0R a0S a0T a0U c158 in
theorem aT3(v:Vl)(hv:v.fine)(R:Int)(hR:(if v.mE then(7:Int)else if(List.range v.names.length).any (kT v.names)then(13:Int)else if v.kind==11&&unsorted v.items then 14 else 0)=R)(st:St)(h1:VB v 1 st)(_hnx:0<st.nx):aZ prog 218 (aC [.tmp 2] (.one (.t (I R)))) a0K [] st:=by
 have rest:=aT2 v hv _ rfl;have hv':=(Vl.bG v).1 hv;have e0:v.mE=(((v.kind==3||(v.kind==13&& !bR v.s (bs [])))&& !bF v.s)||v.names.any fun s=> !bF s):=rfl;rw[e0]at hR;obtain⟨h1,h2⟩:=h1;obtain⟨o1,o2,o3,o4⟩:=aK h2;generalize (if(List.range v.names.length).any (kT v.names)then(13:Int)else if v.kind==11&&unsorted v.items then 14 else 0)=R3 at*;have aL1:=aNH v.s hv'.1
 have go:(v.kind==3||(v.kind==13&& !bR v.s (bs [])))=false∨bF v.s=true→∀st:St,VB v 1 st→0<st.nx→aZ prog 218 (aC [.tmp 2] (.one (.t (I R)))) a0a [] st:=fun h st g1 g2=>by
  have:=rest st g1 g2;rcases h with h | h
  ·rw[h]at hR;simp only[Bool.false_and,Bool.false_or]at hR;rw[hR]at this;exact this
  ·rw[h]at hR;simp only[Bool.not_true,Bool.and_false,Bool.false_or]at hR;rw[hR]at this;exact this
 have bad:(v.kind==3||(v.kind==13&& !bR v.s (bs [])))=true→bF v.s=false→R=7:=fun h h'=>by
  rw[h,h']at hR;simpa using hR.symm
 rcases eqCases v.kind 3 with q3 | q3
 ·simp -implicitDefEqProofs [h1,o1,o2,o3,q3];refine aD.tree aL1 rfl ?_;rcases bb (bF v.s)with c | c
  ·rw[c];simp -implicitDefEqProofs [h1,o1,o2,o3,q3];exact go (.inr c) _ ⟨by simp[h1],by simp[h2]⟩ (by simp<;>omega)
  ·rw[c,bad (by simp[q3]) c];simp -implicitDefEqProofs [h1,o1,o2,o3,q3,aC]
 ·rcases eqCases v.kind 13 with q13 | q13
  ·obtain⟨z,hz⟩:∃ z,(v.s.toList==(bs []).toList)=z:=⟨_,rfl⟩;have hz':bR v.s (bs [])=z:=hz;rw[hz']at go bad;cases z
   ·simp -implicitDefEqProofs [h1,o1,o2,o3,q13,hz,bne];refine aD.tree aL1 rfl ?_;rcases bb (bF v.s)with c | c
    ·rw[c];simp -implicitDefEqProofs;exact go (.inr c) _ ⟨by simp[h1],by simp[h2]⟩ (by simp<;>omega)
    ·rw[c,bad (by simp[q13]) c];simp -implicitDefEqProofs [aC]
   ·simp -implicitDefEqProofs [h1,o1,o2,o3,q13,hz,bne];exact go (.inl (by simp[q3])) _ ⟨by simp[h1],by simp[h2,q13]⟩ (by simp<;>omega)
  ·simp -implicitDefEqProofs [h1,o1,o2,o3,q3,q13];exact go (.inl (by simp[q3,q13])) _ ⟨by simp[h1],by simp[h2]⟩ (by simp<;>omega)
end
section
attribute [-simp] Go.Ab.aA Go.Ab.gval
attribute [local simp] bE aM aQ aG aV aO aX tyC fdC vlC ndC aL D.cR D.pt oY D.oH
attribute [local simp] a0b a0c a0d a0e a0f a0g a0h a0i a0j a0k a0l a0m a0n a0o a0p a0q a0r a0s a0t a0u a0v a0w a0x a0y a0z a0A a0B a0C a0D a0E a0F a0G a0H a0I a0J a0a a0L a0M a0N a0O a0P a0Q a0R a0S a0T a0U c158 in
theorem aT4(v:Vl)(hv:v.fine)(R:Int)(R3:Int)(hR3:(if v.mE then(7:Int)else if(List.range v.names.length).any (kT v.names)then(13:Int)else if v.kind==11&&unsorted v.items then 14 else 0)=R3)
  (hR:(if v.kind==6&&(chars v.s).any (fun c=>decide (127<c))then(17:Int)else R3)=R) (st:St) (h1:VB v 1 st) (_hnx:0<st.nx):aZ prog 218 (aC [.tmp 2] (.one (.t (I R)))) a0L [] st:=by
 have rest:=aT3 v hv _ rfl;rw[hR3]at rest;have hv':=(Vl.bG v).1 hv;have hl:=hv'.1;have hcl:=dW v.s;obtain⟨h1,h2⟩:=h1;obtain⟨o1,o2,o3,o4⟩:=aK h2;rcases eqCases v.kind 6 with q | q
 ·simp only[q,beq_self_eq_true,Bool.true_and]at hR;simp -implicitDefEqProofs;refine bS (chars v.s) (fun c=>decide (127<c)) [1] [0] (fun i st=>st.tmps 6= .one (.t (I i))) (by simp only[short];omega) ⟨by simp,by simp,by simp[]⟩ ?_ ?_
  ·intro i c st' hi hiI hw hg hy hany hx hk hh;simp[h1]at hk hh;obtain⟨o1,o2,o3,o4⟩:=aK (hh.1.trans h2);rw[hcl]at hi hiI;have hc:(chars v.s)[i]?.getD 0=c:=by rw[hg];rfl
   rcases pX 127 c with g | g
   ·rw[if_pos (hany (by simp[g]))]at hR;subst hR;simp -implicitDefEqProofs [hx,hk,hiI,o1,o2,o3,q,hc,g,aC]
   ·simp -implicitDefEqProofs [hx,hk,hiI,o1,o2,o3,q,hc,g,hw,h1];exact hh.1
  ·intro st' hany hx hk hh;simp[h1]at hk hh;rw[hcl]at hx;obtain⟨o1,o2,o3,o4⟩:=aK (hh.1.trans h2);rw[hany]at hR;simp at hR;subst hR;simp -implicitDefEqProofs [hx,hk,o1,o2,o3];exact rest _ ⟨by simp[hk],by simp[hh,h2]⟩ (by simp<;>omega)
 ·have e:R3=R:=by rw[←hR];simp[q]
  subst e;simp -implicitDefEqProofs;refine bS ([]:List Fd) (fun f=> !isNum f.num) [1] [0] (fun i st=>st.tmps 6= .one (.t (I 0))) (by simp[short]) ⟨by simp,by simp,by simp[]⟩ ?_ ?_
  ·intro i f st' hi;simp at hi
  ·intro st' hany hx hk hh;simp[h1]at hk hh hx;obtain⟨o1,o2,o3,o4⟩:=aK (hh.1.trans h2);obtain⟨b,eb⟩:∃ x,decide (0<v.s.size)=x:=⟨_,rfl⟩;cases b
   ·simp -implicitDefEqProofs [hk,hx,o1,o2,o3,q,eb];exact rest _ ⟨by simp[hk],by simp[hh,h2]⟩ (by simp<;>omega)
   ·simp -implicitDefEqProofs [hk,hx,o1,o2,o3,q,eb];exact rest _ ⟨by simp[hk],by simp[hh,h2]⟩ (by simp<;>omega)
attribute [local simp] a0b a0c a0d a0e a0f a0g a0h a0i a0j a0k a0l a0m a0n a0o a0p a0q a0r a0s a0t a0u a0v a0w a0x a0y a0z a0A a0B a0C a0D a0E a0F a0G a0H a0I a0J a0a a0K a0M a0N a0O a0P a0Q a0R a0S a0T a0U c158 in
theorem aT5(v:Vl)(hv:v.fine)(R:Int)(R3:Int)(hR3:(if v.mE then(7:Int)else if(List.range v.names.length).any (kT v.names)then(13:Int)else if v.kind==11&&unsorted v.items then 14 else 0)=R3)
  (hR:(if v.sJ then(17:Int)else R3)=R) (st:St) (h1:VB v 1 st) (_hnx:0<st.nx):aZ prog 218 (aC [.tmp 2] (.one (.t (I R)))) a0M [] st:=by
 have rest:=fun R'=>aT4 v hv R' R3 hR3
 have hv':=(Vl.bG v).1 hv;have hl:=hv'.1;have hcl:=dW v.s;have e0:v.sJ=((v.kind==4&&(chars v.s).any fun c=> !(c==48||c==49))||(v.kind==6&&(chars v.s).any fun c=>decide (127<c))):=rfl;rw[e0]at hR;obtain⟨h1,h2⟩:=h1;obtain⟨o1,o2,o3,o4⟩:=aK h2;rcases eqCases v.kind 4 with q | q
 ·have q6:(v.kind==6)=false:=by simp[q]
  simp only[q,beq_self_eq_true,Bool.true_and]at hR;rw[show((4:Int)==6)=false by decide]at hR;simp only[Bool.false_and,Bool.or_false]at hR;have rest':=rest R3 (by simp[q6]);simp -implicitDefEqProofs [h1,o1,o2,o3,q];refine bS (chars v.s) (fun c=> !(c==48||c==49)) [1] [0] (fun i st=>st.tmps 5= .one (.t (I i))) (by simp only[short];omega) ⟨by simp,by simp,by simp[]⟩ ?_ ?_
  ·intro i c st' hi hiI hw hg hy hany hx hk hh;simp[h1]at hk hh;obtain⟨o1,o2,o3,o4⟩:=aK (hh.1.trans h2);rw[hcl]at hi hiI;have hc:(chars v.s)[i]?.getD 0=c:=by rw[hg];rfl
   have hm:=mY hy;rcases eqCases c 48 with g | g
   ·subst g;simp -implicitDefEqProofs [hx,hk,hiI,o1,o2,o3,q,hc,hw,h1,hh.1]
   ·rcases eqCases c 49 with g' | g'
    ·subst g';simp -implicitDefEqProofs [hx,hk,hiI,o1,o2,o3,q,hc,hw,h1,hh.1]
    ·rw[if_pos (hany (by simp[g,g']))]at hR;subst hR;simp -implicitDefEqProofs [hx,hk,hiI,o1,o2,o3,q,hc,g,g',aC]
  ·intro st' hany hx hk hh;simp[h1]at hk hh;rw[hcl]at hx;obtain⟨o1,o2,o3,o4⟩:=aK (hh.1.trans h2);rw[hany]at hR;simp at hR;subst hR;simp -implicitDefEqProofs [hx,hk,o1,o2,o3];exact rest' _ ⟨by simp[hk],by simp[hh,h2]⟩ (by simp<;>omega)
 ·simp only[q,Bool.false_and,Bool.false_or]at hR;simp -implicitDefEqProofs [h1,o1,o2,o3,q];exact rest R hR _ ⟨by simp[h1],by simp[h2]⟩ (by simp<;>omega)
end
section
attribute [-simp] Go.Ab.aA Go.Ab.gval
attribute [local simp] bE aM aQ aG aV aO aX tyC fdC vlC ndC aL D.cR D.pt
def Vl.r1(v:Vl):Int:=if v.mE then(7:Int)else if(List.range v.names.length).any (kT v.names)then(13:Int)else if v.kind==11&&unsorted v.items then 14 else 0
def Vl.r2(v:Vl):Int:=if v.sJ then(17:Int)else v.r1
def Vl.r3(v:Vl):Int:=if v.shaped then v.r2 else 6
def Vl.aC9(v:Vl):Bool:=(decide (200<v.s.size)&&v.kind != 3&&v.kind != 13)||decide ((if v.kind==9 then 16 else 40)<v.items.length)
def Vl.r4(v:Vl):Int:=if v.aC9 then 2 else v.r3
def Vl.r5(v:Vl):Int:=if v.cY then v.r4 else 3
def Vl.r6(v:Vl):Int:=if v.bM then 5 else v.r5
def Vl.mP(v:Vl):Int:=if decide (0≤v.kind)&&decide (v.kind≤14)then v.r6 else 4
attribute [local simp] a0b a0c a0d a0e a0f a0g a0h a0i a0j a0k a0l a0m a0n a0o a0p a0q a0r a0s a0t a0u a0v a0w a0x a0y a0z a0A a0B a0C a0D a0E a0F a0G a0H a0I a0J a0a a0K a0L a0N a0O a0P a0Q a0R a0S a0T a0U c158 in
theorem aT6(v:Vl)(hv:v.fine)(st:St)(h1:VB v 1 st)(_hnx:0<st.nx):aZ prog 218 (aC [.tmp 2] (.one (.t (I v.r3)))) a0N [] st:=by
 have rest:=aT5 v hv v.r2 v.r1 rfl rfl;have hv':=(Vl.bG v).1 hv;obtain⟨h1,h2⟩:=h1;obtain⟨o1,o2,o3,o4⟩:=aK h2;rw[Vl.r3];simp -implicitDefEqProofs [h1,o1,o2,o3];refine aD.tree (aWZ v hv'.2.2.2.1) rfl ?_;rcases bb v.shaped with c | c
 ·rw[c];simp -implicitDefEqProofs;exact rest _ ⟨by simp[h1],by simp[h2]⟩ (by simp<;>omega)
 ·rw[c];simp -implicitDefEqProofs [aC]
attribute [local simp] a0b a0c a0d a0e a0f a0g a0h a0i a0j a0k a0l a0m a0n a0o a0p a0q a0r a0s a0t a0u a0v a0w a0x a0y a0z a0A a0B a0C a0D a0E a0F a0G a0H a0I a0J a0a a0K a0L a0M a0O a0P a0Q a0R a0S a0T a0U c158 in
theorem aT7(v:Vl)(hv:v.fine)(k:Int)(hk:(if v.kind==9 then(16:Int)else 40)=k)(st:St)(h1:VB v 1 st)(_hnx:0<st.nx)(h4:st.tmps 4= .one (.t (I k))):aZ prog 218 (aC [.tmp 2] (.one (.t (I v.r4)))) a0O [] st:=by
 have rest:=aT6 v hv;obtain⟨h1,h2⟩:=h1;obtain⟨o1,o2,o3,o4⟩:=aK h2;obtain⟨a,ea⟩:∃ x,decide (200<v.s.size)=x:=⟨_,rfl⟩;have ea':decide ((200:Int)<(v.s.size:Int))=a:=by rw[←ea];congr 1;simp;omega
 obtain⟨b,eb⟩:∃ x,(v.kind==3)=x:=⟨_,rfl⟩;obtain⟨c,ec⟩:∃ x,(v.kind==13)=x:=⟨_,rfl⟩;obtain⟨d,ed⟩:∃ x,decide (k<(v.items.length:Int))=x:=⟨_,rfl⟩
 have ed':decide ((if v.kind==9 then 16 else 40)<v.items.length)=d:=by
  rw[←ed,←hk];congr 1
  by_cases q:v.kind=9
  ·simp[q];omega
  ·simp[q];omega
 obtain⟨u1,m1⟩:∃ x,(a&& !b)=x:=⟨_,rfl⟩;obtain⟨u2,m2⟩:∃ x,(u1&& !c)=x:=⟨_,rfl⟩;obtain⟨u3,m3⟩:∃ x,(u2||d)=x:=⟨_,rfl⟩
 have e0:v.r4=if u3 then 2 else v.r3:=by
  simp only[Vl.r4,Vl.aC9,ea,bne,eb,ec,ed',m1,m2,m3]
 rw[e0];generalize v.r3=R at*;simp -implicitDefEqProofs [h1,h4,o1,o2,o3,ea',eb,ec,ed,bne,m1,m2,m3,-Bool.not_or,-Bool.not_and];refine⟨fun h=>?_,fun h=>?_⟩
 ·subst h;simp -implicitDefEqProofs [aC]
 ·subst h;exact rest _ ⟨by simp[h1],by simp[h2]⟩ (by simp<;>omega)
attribute [local simp] a0b a0c a0d a0e a0f a0g a0h a0i a0j a0k a0l a0m a0n a0o a0p a0q a0r a0s a0t a0u a0v a0w a0x a0y a0z a0A a0B a0C a0D a0E a0F a0G a0H a0I a0J a0a a0K a0L a0M a0N a0P a0Q a0R a0S a0T a0U c158 in
theorem aT8(v:Vl)(hv:v.fine)(st:St)(h1:VB v 1 st)(_hnx:0<st.nx):aZ prog 218 (aC [.tmp 2] (.one (.t (I v.r5)))) a0R [] st:=by
 have rest:=aT7 v hv;have hv':=(Vl.bG v).1 hv;obtain⟨h1,h2⟩:=h1;obtain⟨o1,o2,o3,o4⟩:=aK h2;rw[Vl.r5];simp -implicitDefEqProofs [h1,o1,o2,o3];refine aD.tree (aWY v hv'.2.2.2.1) rfl ?_;rcases bb v.cY with c | c
 ·rw[c];rcases eqCases v.kind 9 with q | q
  ·simp -implicitDefEqProofs [h1,o1,o2,o3,q];exact rest 16 (by simp[q]) _ ⟨by simp[h1],by simp[h2,q]⟩ (by simp<;>omega) (by simp)
  ·simp -implicitDefEqProofs [h1,o1,o2,o3,q];exact rest 40 (by simp[q]) _ ⟨by simp[h1],by simp[h2]⟩ (by simp<;>omega) (by simp)
 ·rw[c];simp -implicitDefEqProofs [aC]
attribute [local simp] a0b a0c a0d a0e a0f a0g a0h a0i a0j a0k a0l a0m a0n a0o a0p a0q a0r a0s a0t a0u a0v a0w a0x a0y a0z a0A a0B a0C a0D a0E a0F a0G a0H a0I a0J a0a a0K a0L a0M a0N a0O a0P a0Q a0S a0T a0U c158 in
theorem aT9(v:Vl)(hv:v.fine)(st:St)(h1:VB v 1 st)(_hnx:0<st.nx)(h3:st.tmps 3= .one (.t (.bool (lM v.kind)))):aZ prog 218 (aC [.tmp 2] (.one (.t (I v.r6)))) a0S [] st:=by
 have rest:=aT8 v hv;obtain⟨h1,h2⟩:=h1;obtain⟨o1,o2,o3,o4⟩:=aK h2;obtain⟨N,eN⟩:∃ x,lM v.kind=x:=⟨_,rfl⟩;obtain⟨n,en⟩:∃ x,(v.n==0)=x:=⟨_,rfl⟩;obtain⟨E,eE⟩:∃ x,(v.kind==8)=x:=⟨_,rfl⟩;obtain⟨e,ee⟩:∃ x,(v.e==0)=x:=⟨_,rfl⟩;obtain⟨S,eS⟩:∃ x,kO v.kind=x:=⟨_,rfl⟩;obtain⟨s,es⟩:∃ x,(v.s.toList==(bs []).toList)=x:=⟨_,rfl⟩;obtain⟨M,eM⟩:∃ x,iK v.kind=x:=⟨_,rfl⟩;obtain⟨m,em⟩:∃ x,decide (0<v.names.length)=x:=⟨_,rfl⟩;obtain⟨F,eF⟩:∃ x,gR v.kind=x:=⟨_,rfl⟩;obtain⟨f,ef⟩:∃ x,decide (0<v.items.length)=x:=⟨_,rfl⟩;obtain⟨u1,m1⟩:∃ x,(!N&& !n)=x:=⟨_,rfl⟩;obtain⟨x2,m2⟩:∃ x,(!E&& !e)=x:=⟨_,rfl⟩;obtain⟨u2,m3⟩:∃ x,(u1||x2)=x:=⟨_,rfl⟩;obtain⟨y3,m4⟩:∃ x,(!S&& !s)=x:=⟨_,rfl⟩;obtain⟨y4,m5⟩:∃ x,(!M&&m)=x:=⟨_,rfl⟩;obtain⟨y5,m6⟩:∃ x,(!F&&f)=x:=⟨_,rfl⟩
 have e0:v.r6=if(u2||y3||y4||y5)then 5 else v.r5:=by
  have es':bR v.s (bs [])=s:=es;simp only[Vl.r6,Vl.bM,eN,bne,en,nC,eE,ee,eS,es',eM,em,eF,ef,m1,m2,m3,m4,m5,m6]
 rw[e0];generalize v.r5=R at*;have aTA:=aWV v.kind;have aTB:PSp prog 201 [.one (.t (I v.kind))] (.one (.t (.bool (iK v.kind)))):=aV3 v.kind;have aTC:=aWW v.kind;rw[eS]at aTA;rw[eM]at aTB;rw[eF]at aTC;rw[eN]at h3;rcases bb u2 with rfl | rfl
 ·simp -implicitDefEqProofs [h1,h3,o1,o2,o3,en,eE,ee,bne,m1,m2,m3,-Bool.not_or,-Bool.not_and];refine⟨fun h=>by simp[h],?_⟩;simp -implicitDefEqProofs [aC]
 ·simp -implicitDefEqProofs [h1,h3,o1,o2,o3,en,eE,ee,bne,m1,m2,m3,-Bool.not_or,-Bool.not_and];refine⟨fun h=>by simp[h],?_⟩;refine aD.tree aTA rfl ?_;rcases bb y3 with rfl | rfl
  ·simp -implicitDefEqProofs [h1,o1,o2,o3,es,m4,-Bool.not_or,-Bool.not_and];simp -implicitDefEqProofs [aC]
  ·simp -implicitDefEqProofs [h1,o1,o2,o3,es,m4,-Bool.not_or,-Bool.not_and];refine aD.tree aTB rfl ?_;rcases bb y4 with rfl | rfl
   ·simp -implicitDefEqProofs [h1,o1,o2,o3,em,m5,-Bool.not_or,-Bool.not_and];simp -implicitDefEqProofs [aC]
   ·simp -implicitDefEqProofs [h1,o1,o2,o3,em,m5,-Bool.not_or,-Bool.not_and];refine aD.tree aTC rfl ?_;rcases bb y5 with rfl | rfl
    ·simp -implicitDefEqProofs [h1,o1,o2,o3,ef,m6,-Bool.not_or,-Bool.not_and];simp -implicitDefEqProofs [aC]
    ·simp -implicitDefEqProofs [h1,o1,o2,o3,ef,m6,-Bool.not_or,-Bool.not_and];exact rest _ ⟨by simp[h1],by simp[h2]⟩ (by simp<;>omega)
attribute [local simp] a0b a0c a0d a0e a0f a0g a0h a0i a0j a0k a0l a0m a0n a0o a0p a0q a0r a0s a0t a0u a0v a0w a0x a0y a0z a0A a0B a0C a0D a0E a0F a0G a0H a0I a0J a0a a0K a0L a0M a0N a0O a0P a0Q a0R a0T a0U c158 in
theorem aX0(v:Vl)(hv:v.fine):PSp prog 158 [.agg (vlC v)] (.one (.t (I v.mP))):=by
 have rest:=aT9 v hv;refine k158.aI (by simp) (by simp[D.closed,A.closed]) rfl ?_;obtain⟨R,hR⟩:∃ R,v.mP=R:=⟨_,rfl⟩;rw[hR];rw[Vl.mP]at hR;simp -implicitDefEqProofs;refine aD.tree (dG _ _ _) rfl ?_;obtain⟨a,ea⟩:∃ x,(decide (0≤v.kind)&&decide (v.kind≤14))=x:=⟨_,rfl⟩;rw[ea]at hR ⊢;cases a
 ·simp at hR;subst hR;simp -implicitDefEqProofs [aC]
 ·simp only[if_true]at hR;subst hR;simp -implicitDefEqProofs;refine aD.pure (P46 [1,2,8,14] v.kind (by simp[short])) (by simp) (by simp[ints]) ?_
  have e:([1,2,8,14].any fun x=>x==v.kind)=lM v.kind:=by
   rw[Bool.eq_iff_iff];simp[lM];omega
  rw[e];simp -implicitDefEqProofs;refine rest _ ⟨?_,?_⟩ ?_ ?_
  ·simp
  ·simp[Hp.set]
  ·simp
  ·simp
mutual
def Vl.oK:Vl→Int
 | .mk k n e s ns is=>if(Vl.mk k n e s ns is).mP != 0 then(Vl.mk k n e s ns is).mP else jO is
def jO:List Vl→Int
 | []=>0
 | v::r=>if v.oK != 0 then v.oK else jO r
end
theorem Vl.aDX(v:Vl):v.oK=if v.mP != 0 then v.mP else jO v.items:=by cases v;rw[Vl.oK];rfl
attribute [local simp] b0u b0v b0w b0x b0y b0z b0A b0B b0C b0D c127 in
theorem aTD(v:Vl)(hl:short v.items)(IH:∀ x∈v.items,PSp prog 127 [.agg (vlC x)] (.one (.t (I x.oK))))(st:St)(h1:VB v 1 st)(_hnx:0<st.nx):aZ prog 27 (aC [.tmp 2] (.one (.t (I (jO v.items))))) b0C [] st:=by
 obtain⟨h1,h2⟩:=h1;obtain⟨o1,o2,o3,o4⟩:=aK h2;simp -implicitDefEqProofs;refine eZ v.items (fun _ r (_:Unit)=>jO r) (jO v.items) () [1] [0] (fun i _ st=>st.tmps 4= .one (.t (I i))) hl rfl ⟨by simp,by simp,by simp[]⟩ ?_ ?_
 ·intro i y _ st' hi hiI hw hg hy hR hx hk hh;simp[h1]at hk hh;rw[jO]at hR;generalize jO v.items=R at*;obtain⟨o1,o2,o3,o4⟩:=aK (hh.1.trans h2);simp -implicitDefEqProofs [hx,hk,hiI,hi,o1,o2,o3,aE hg,Vl.aP,-List.getElem_map];refine aD.tree (IH y hy) rfl ?_;rcases eqCases y.oK 0 with e | e
  ·rw[e]at hR ⊢;simp at hR;simp -implicitDefEqProofs [hx,hk,hw,h1];exact⟨hR,hh.1⟩
  ·simp -implicitDefEqProofs [e,aC];simpa[e]using hR
 ·intro _ st' hR hx hk hh;simp[h1]at hk hh;rw[jO]at hR;generalize jO v.items=R at*;obtain⟨o1,o2,o3,o4⟩:=aK (hh.1.trans h2);simp -implicitDefEqProofs [hx,hk,o1,o2,o3,aC];exact hR
attribute [local simp] b0u b0v b0w b0x b0y b0z b0A b0B b0D c127 in
theorem aO3(v:Vl)(hv:v.fine)(IH:∀ x∈v.items,PSp prog 127 [.agg (vlC x)] (.one (.t (I x.oK)))):PSp prog 127 [.agg (vlC v)] (.one (.t (I v.oK))):=by
 rw[Vl.aDX];refine k127.aI (by simp) (by simp[D.closed,A.closed]) rfl ?_;have rest:=aTD v ((Vl.bG v).1 hv).2.2.2.1 IH;simp -implicitDefEqProofs;refine aD.tree (aX0 v hv) rfl ?_;rcases eqCases v.mP 0 with e | e
 ·rw[e];simp -implicitDefEqProofs;exact rest _ ⟨by simp,by simp[Hp.set]⟩ (by simp)
 ·simp -implicitDefEqProofs [e,aC]
theorem aX1:∀ v:Vl,v.fine→PSp prog 127 [.agg (vlC v)] (.one (.t (I v.oK))):=
 Vl.ind fun v IH hv=>aO3 v hv fun x hx=>IH x hx (((Vl.bG v).1 hv).2.2.2.2 x hx)
def Vl.cS(v:Vl):Int:=if(v.sz 8 (120,false)).2 then 2 else v.oK
attribute [local simp] c75 in
theorem P75(v:Vl)(hv:v.fine):PSp prog 75 [.agg (vlC v)] (.one (.t (I v.cS))):=by
 refine k75.aI (by simp) (by simp[D.closed,A.closed]) rfl ?_;rw[Vl.cS];simp -implicitDefEqProofs;refine aD.tree (aWF v 120 hv) rfl ?_;cases(v.sz 8 (120,false)).2
 ·simp -implicitDefEqProofs;refine aD.tree (aX1 v hv) rfl ?_;simp -implicitDefEqProofs [aC]
 ·simp -implicitDefEqProofs [aC]
end
section
attribute [-simp] Go.Ab.aA Go.Ab.gval
attribute [local simp] bE aM aQ aG aV aO aX tyC fdC vlC ndC aL D.cR D.pt
def xE:List Vl→Int
 | []=>0
 | v::_=>v.cS
mutual
def Ty.kH:Ty→Int
 | .mk k nm tg fs o r of l=>if(Ty.mk k nm tg fs o r of l).mP != 0 then(Ty.mk k nm tg fs o r of l).mP else if lO (!(k==3||k==14)) fs != 0 then lO (!(k==3||k==14)) fs else xF of
def Fd.kH(h:Bool):Fd→Int
 | .mk _ _ t _ d _=>if h then(if t.kH != 0 then t.kH else xE d)else 0
def lO(h:Bool):List Fd→Int
 | []=>0
 | f::r=>if f.kH h != 0 then f.kH h else lO h r
def xF:List Ty→Int
 | []=>0
 | t::_=>t.kH
end
theorem Ty.pZ(t:Ty):t.kH=if t.mP != 0 then t.mP else if lO (!(t.kind==3||t.kind==14)) t.fields != 0 then lO (!(t.kind==3||t.kind==14)) t.fields else xF t.of:=by
 cases t;rw[Ty.kH];rfl
theorem Fd.pZ(h:Bool)(f:Fd):f.kH h=if h then(if f.ty.kH != 0 then f.ty.kH else xE f.dflt)else 0:=by
 cases f;rw[Fd.kH];rfl
theorem rG:∀ l:List Fd,lO false l=0
 | []=>by rw[lO]
 | f::r=>by rw[lO,Fd.pZ,rG r];rfl
attribute [local simp] a6B a6C a6D a6E a6F a6G a6H a6I a6J a6K a6L a6M a6N a6O a6P a6Q a6R a6S c113 in
theorem aTE(t:Ty)(IH:∀ x∈t.of,PSp prog 113 [.agg (tyC x)] (.one (.t (I x.kH))))(R:Int)(hR:xF t.of=R)(st:St)(h1:TB t 1 st)(_hnx:0<st.nx):aZ prog 66 (aC [.tmp 2] (.one (.t (I R)))) a6Q [] st:=by
 obtain⟨h1,h2⟩:=h1;obtain⟨o1,o2,o3,o4⟩:=aK h2;rcases ho:t.of with - | ⟨o,r⟩
 ·rw[ho,xF]at hR;subst hR;simp -implicitDefEqProofs [h1,o1,o2,o3,ho,aC]
 ·rw[ho,xF]at hR;subst hR;have hlen:(0:Int)<((r.length:Int)+1):=by omega
  have ih:=IH o (by rw[ho];simp);simp -implicitDefEqProofs [h1,o1,o2,o3,ho,hlen,Ty.aP];refine aD.tree ih rfl ?_;simp -implicitDefEqProofs [aC]
attribute [local simp] a6B a6C a6D a6E a6F a6G a6H a6I a6J a6K a6L a6M a6N a6O a6P a6R a6S c113 in
theorem aTF(t:Ty)(hn:t.narrow=true)(IHf:∀ x∈t.fields,PSp prog 113 [.agg (tyC x.ty)] (.one (.t (I x.ty.kH))))(IH:∀ x∈t.of,PSp prog 113 [.agg (tyC x)] (.one (.t (I x.kH))))(h:Bool)(hh0:(!(t.kind==3||t.kind==14))=h)(R:Int)(hR0:(if lO h t.fields != 0 then lO h t.fields else xF t.of)=R)(st:St)(h1:TB t 1 st)(_hnx:0<st.nx):
  aZ prog 66 (aC [.tmp 2] (.one (.t (I R)))) a6R [] st:=by
 have hnr:=(Ty.aU t).1 hn;have hle:=hnr.2.2.1;have rest:=aTE t IH;obtain⟨h1,h2⟩:=h1;obtain⟨o1,o2,o3,o4⟩:=aK h2;cases h
 ·have h0:(t.kind==3||t.kind==14)=true:=by rcases bb (t.kind==3||t.kind==14)with z | z<;>simp_all
  rw[rG]at hR0;simp only[bne_self_eq_false,Bool.false_eq_true,if_false]at hR0;simp -implicitDefEqProofs;refine bS ([]:List Fd) (fun f=> !isNum f.num) [1] [0] (fun i st=>st.tmps 4= .one (.t (I 0))) (by simp[short]) ⟨by simp,by simp,by simp[]⟩ ?_ ?_
  ·intro i f st' hi;simp at hi
  ·intro st' hany hx hk hh;simp[h1]at hk hh hx;obtain⟨o1,o2,o3,o4⟩:=aK (hh.1.trans h2);obtain⟨b,eb⟩:∃ x,decide (0<t.fields.length)=x:=⟨_,rfl⟩;cases b
   ·simp -implicitDefEqProofs [hk,hx,o1,o2,o3,eb];exact rest R hR0 _ ⟨by simp[hk],by simp[hh,h2]⟩ (by simp<;>omega)
   ·simp -implicitDefEqProofs [hk,hx,o1,o2,o3,eb,h0];exact rest R hR0 _ ⟨by simp[hk],by simp[hh,h2]⟩ (by simp<;>omega)
 ·have h0:(t.kind==3||t.kind==14)=false:=by rcases bb (t.kind==3||t.kind==14)with z | z<;>simp_all
  simp -implicitDefEqProofs;refine eZ t.fields (fun _ r (_:Unit)=>if lO true r != 0 then lO true r else xF t.of) R () [1] [0] (fun i _ st=>st.tmps 4= .one (.t (I i))) (by simp[short];omega) hR0 ⟨by simp,by simp,by simp[]⟩ ?_ ?_
  ·intro i f _ st' hi hiI hw hg hy hR hx hk hh;simp[h1]at hk hh;rw[lO]at hR;have hfn:=(Fd.aU _).1 (hnr.2.2.2.2.2.2.1 _ hy);obtain⟨o1,o2,o3,o4⟩:=aK (hh.1.trans h2);simp -implicitDefEqProofs [hx,hk,hiI,hi,aE hg,Fd.aP,o1,o2,o3,h0,-List.getElem_map];refine aD.tree (IHf f hy) rfl ?_;rw[Fd.pZ]at hR;simp only[if_true]at hR;rcases eqCases f.ty.kH 0 with e | e
   ·rw[e]at hR ⊢;simp only[bne_self_eq_false,Bool.false_eq_true,if_false]at hR;rcases hd:f.dflt with - | ⟨d,r⟩
    ·rw[hd,xE]at hR;simp only[bne_self_eq_false,Bool.false_eq_true,if_false]at hR;simp -implicitDefEqProofs [hx,hk,hiI,hi,aE hg,Fd.aP,o1,o2,o3,hd,hw,h1,-List.getElem_map];exact⟨by simpa using hR,hh.1⟩
    ·rw[hd,xE]at hR;have hlen:(0:Int)<((r.length:Int)+1):=by omega
     have hdf:d.fine:=Vl.tT d (Vl.xC (hfn.2.2.2 d (by rw[hd];simp)));simp -implicitDefEqProofs [hx,hk,hiI,hi,aE hg,Fd.aP,o1,o2,o3,hd,hlen,Vl.aP,-List.getElem_map];refine aD.tree (P75 d hdf) rfl ?_;rcases eqCases d.cS 0 with e2 | e2
     ·rw[e2]at hR ⊢;simp only[bne_self_eq_false,Bool.false_eq_true,if_false]at hR;simp -implicitDefEqProofs [hx,hk,hw,h1];exact⟨by simpa using hR,hh.1⟩
     ·simp -implicitDefEqProofs [e2,aC];simpa[e2]using hR
   ·simp -implicitDefEqProofs [e,aC];simpa[e]using hR
  ·intro _ st' hR hx hk hh;simp[h1]at hk hh;rw[lO]at hR;simp only[bne_self_eq_false,Bool.false_eq_true,if_false]at hR;obtain⟨o1,o2,o3,o4⟩:=aK (hh.1.trans h2);simp -implicitDefEqProofs [hx,hk,o1,o2,o3];exact rest R hR _ ⟨by simp[hk],by simp[hh.1,h2]⟩ (by simp)
attribute [local simp] a6B a6C a6D a6E a6F a6G a6H a6I a6J a6K a6L a6M a6N a6O a6P a6Q a6S c113 in
theorem aO4(t:Ty)(hn:t.narrow=true)(IHf:∀ x∈t.fields,PSp prog 113 [.agg (tyC x.ty)] (.one (.t (I x.ty.kH))))(IH:∀ x∈t.of,PSp prog 113 [.agg (tyC x)] (.one (.t (I x.kH)))):PSp prog 113 [.agg (tyC t)] (.one (.t (I t.kH))):=by
 obtain⟨R,hR⟩:∃ R,t.kH=R:=⟨_,rfl⟩;rw[hR];rw[Ty.pZ]at hR;have rest:=aTF t hn IHf IH _ rfl _ rfl;generalize (if lO (!(t.kind==3||t.kind==14)) t.fields != 0 then lO (!(t.kind==3||t.kind==14)) t.fields else xF t.of)=R2 at*;refine k113.aI (by simp) (by simp[D.closed,A.closed]) rfl ?_;simp -implicitDefEqProofs;refine aD.tree (aWR t hn) rfl ?_;rcases eqCases t.mP 0 with e | e
 ·rw[e]at hR ⊢;simp only[bne_self_eq_false,Bool.false_eq_true,if_false]at hR;subst hR;simp -implicitDefEqProofs;refine rest _ ⟨?_,?_⟩ ?_
  ·simp
  ·simp[Hp.set]
  ·simp
 ·simp -implicitDefEqProofs [e,aC];simpa[e]using hR
theorem aX2:∀ t:Ty,t.narrow=true→PSp prog 113 [.agg (tyC t)] (.one (.t (I t.kH))):=
 Ty.ind fun t IHf IH hn=>by
  have h:=(Ty.aU t).1 hn;exact aO4 t hn (fun x hx=>IHf x hx ((Fd.aU x).1 (h.2.2.2.2.2.2.1 x hx)).2.2.1) fun x hx=>IH x hx (h.2.2.2.2.2.2.2 x hx)
def Ty.kI(t:Ty):Int:=if(t.sz 9 (60,false)).2 then 2 else t.kH
attribute [local simp] c67 in
theorem P67(t:Ty)(hn:t.narrow=true):PSp prog 67 [.agg (tyC t)] (.one (.t (I t.kI))):=by
 refine k67.aI (by simp) (by simp[D.closed,A.closed]) rfl ?_;rw[Ty.kI];simp -implicitDefEqProofs;refine aD.tree (aWE t 60 (Ty.kF t hn)) rfl ?_;cases(t.sz 9 (60,false)).2
 ·simp -implicitDefEqProofs;refine aD.tree (aX2 t hn) rfl ?_;simp -implicitDefEqProofs [aC]
 ·simp -implicitDefEqProofs [aC]
end
theorem aIO(a b:Int):kD b a= - kD a b:=by
 simp only[kD]
 by_cases h1:a<b
 ·have:¬ b<a:=by omega
  simp[h1,this]
 ·by_cases h2:b<a
  ·simp[h1,h2]
  ·simp[h1,h2]
theorem rH:∀ a b:List UInt8,Lib.compareBytes b a= - Lib.compareBytes a b
 | [],[]=>rfl
 | [],_::_=>rfl
 | _::_,[]=>rfl
 | a::r,b::s=>by
  simp only[Lib.compareBytes]
  by_cases h1:a<b
  ·have:¬ b<a:=fun h=>UInt8.lt_asymm h h1
   simp[h1,this]
  ·by_cases h2:b<a
   ·simp[h1,h2]
   ·simp only[h1,h2,if_false];exact rH r s
theorem xG:∀ a b:List ByteArray,bV b a= - bV a b
 | [],[]=>rfl
 | [],_::_=>rfl
 | _::_,[]=>rfl
 | x::r,y::s=>by
  have e:fC y x= - fC x y:=by rw[tV,tV];exact rH _ _
  simp only[bV,e,xG r s]
  by_cases h:fC x y=0
  ·simp[h]
  ·simp[h]
theorem uU:∀ l:List Int,bZ (l.map fun x=> -x)= - bZ l
 | []=>rfl
 | x::r=>by
  rw[List.map_cons,bT,bT,uU r]
  by_cases h:x=0
  ·simp[h]
  ·simp[h]
theorem aAL:∀ a b:List Vl,(∀x∈a,∀y,y.cmp x= - x.cmp y)→bU b a= - bU a b
 | [],[],_=>by simp[bU]
 | [],_::_,_=>by simp[bU]
 | _::_,[],_=>by simp[bU]
 | x::r,y::s,h=>by
  have e:=h x (by simp) y;simp only[bU,e,aAL r s (fun x hx=>h x (by simp[hx]))]
  by_cases h:x.cmp y=0
  ·simp[h]
  ·simp[h]
theorem Vl.aL3:∀ x y:Vl,y.cmp x= - x.cmp y:=
 Vl.ind fun x IH y=>by
  rw[Vl.cmp_eq,Vl.cmp_eq x y,←uU];simp only[List.map_cons,List.map_nil,←aIO,←rH,←xG,←aAL x.items y.items IH]
theorem aDY(l:List Vl):unsorted l=(List.range (l.length - 1)).any (lL l):=by
 have key:∀ j,j<l.length - 1→lL l j=aIN l (l.length - 2 - j):=fun j hj=>by
  have e:l.length - 2 - j+1=l.length - 1 - j:=by omega
  have g1:l[l.length - 1 - j]? =some (l[l.length - 1 - j]'(by omega)):=gE9 _;have g2:l[l.length - 2 - j]? =some (l[l.length - 2 - j]'(by omega)):=gE9 _;simp only[lL,aIN,e,g1,g2];rw[Vl.aL3 (l[l.length - 2 - j]'(by omega))];congr 1;simp
 rw[unsorted,Bool.eq_iff_iff];simp only[List.any_eq_true,List.mem_range];constructor
 ·rintro⟨i,hi,h⟩;refine⟨l.length - 2 - i,by omega,?_⟩;rw[key _ (by omega),show l.length - 2 - (l.length - 2 - i)=i by omega];exact h
 ·rintro⟨j,hj,h⟩;rw[key j hj]at h;exact⟨_,by omega,h⟩
theorem aL4(v:Vl)(h:v.bM=false):v.aC9=v.large:=by
 have hs:kO v.kind=true∨bR v.s (bs [])=true:=by
  simp only[Vl.bM,Bool.or_eq_false_iff,Bool.and_eq_false_iff,Bool.not_eq_false']at h;exact h.1.1.2
 simp only[Vl.aC9,Vl.large];congr 1;rcases hs with h | h
 ·have:v.kind=3∨v.kind=4∨v.kind=5∨v.kind=6∨v.kind=13:=by simp[kO]at h;omega
  rcases this with q | q | q | q | q<;>simp[Vl.aC6,q]
 ·have:v.s.size=0:=by
   simp only[bR,ByteArray.toList_eq,beq_iff_eq]at h;have:=congrArg List.length h;rw[dsize,dsize]at this;exact this.trans rfl
  simp[this]
theorem Vl.aO5(v:Vl):v.mP=v.fU:=by
 rw[Vl.mP,Vl.fU];congr 1;rw[Vl.r6,Vl.aDR];rcases bb v.bM with h | h
 ·simp[h]
 ·have e:v.r1=v.aDP:=by
   rw[Vl.r1,Vl.aDP,Vl.aFW,aDY];congr 2
   by_cases q:v.kind=11
   ·simp only[q,beq_self_eq_true,Bool.true_and,bne_self_eq_false,Bool.false_or];cases(List.range (v.items.length - 1)).any (lL v.items)<;>rfl
   ·simp[q]
  rw[h,Vl.r5,Vl.aFY,Vl.r4,Vl.aDQ,Vl.r3,Vl.aFX,Vl.r2,Vl.aIL,e,aL4 v h]
theorem aAM:∀ l:List Vl,(∀x∈l,x.oK=x.fR)→jO l=cB l
 | [],_=>by rw[jO,cB]
 | x::r,h=>by rw[jO,cB,h x (by simp),aAM r (fun y hy=>h y (by simp[hy]))]
theorem Vl.qA:∀ v:Vl,v.oK=v.fR:=
 Vl.ind fun v IH=>by rw[Vl.aDX,Vl.nW,Vl.aO5,aAM v.items IH]
theorem aDZ{x:Int}(h1: -1000000≤x)(h2:x≤1000000):wr x=x:=wrap_i64 (by omega) (by omega)
theorem Vl.uQ(lv:Int)(v:Vl)(s:Sz):v.sz lv s=if(cD lv s).2 then cD lv s else gG (wr (lv - 1)) v.items (cD lv s):=by
 cases v;rw[Vl.sz];rfl
theorem aHH{lv:Int}{m:Int}(hm:m≤100000)(hm0: -100≤m)(h:(cD lv (m,false)).2=false):1≤m∧1≤lv∧cD lv (m,false)=(m - 1,false):=by
 simp only[cD]at h ⊢;rw[aDZ (by omega) (by omega)]at h ⊢;simp at h;refine⟨by omega,by omega,?_⟩;simp;omega
theorem aO6{lv:Int}{m:Int}(hm:m≤100000)(hm0:1≤m)(hl:1≤lv):cD lv (m,false)=(m - 1,false):=by
 simp only[cD];rw[aDZ (by omega) (by omega)];simp;omega
def VN(v:Vl):Prop:=∀ (lv m:Int),0≤m→m≤1000→lv≤1000→(v.sz lv (m,false)).2=false→∃r,0≤r∧r≤m∧∀(lv' d:Int),lv≤lv'→lv'≤1000→0≤d→d≤1000→v.sz lv' (m+d,false)=(r+d,false)
theorem aL5:∀ (l:List Vl),(∀x∈l,VN x)→∀(lv m:Int),0≤m→m≤1000→lv≤1000→(gG lv l (m,false)).2=false→∃r,0≤r∧r≤m∧∀(lv' d:Int),lv≤lv'→lv'≤1000→0≤d→d≤1000→gG lv' l (m+d,false)=(r+d,false)
 | [],_,lv,m,h0,h1,h2,h=>⟨m,h0,Int.le_refl _,fun lv' d _ _ _ _=>by rw[gG]⟩
 | v::l,ih,lv,m,h0,h1,h2,h=>by
  rw[gG,if_neg (by simp)]at h
  have hb:(v.sz lv (m,false)).2=false:=by
   rcases bb (v.sz lv (m,false)).2 with c | c
   ·rw[oW c,c]at h;cases h
   ·exact c
  obtain⟨r,r0,r1,hr⟩:=ih v (by simp) lv m h0 h1 h2 hb;have e:=hr lv 0 (Int.le_refl _) h2 (by omega) (by omega);rw[Int.add_zero,Int.add_zero]at e;rw[e]at h;obtain⟨q,q0,q1,hq⟩:=aL5 l (fun x hx=>ih x (by simp[hx])) lv r r0 (by omega) h2 h;refine⟨q,q0,by omega,fun lv' d a b c e=>?_⟩;rw[gG,if_neg (by simp),hr lv' d a b c e];exact hq lv' d a b c e
theorem Vl.aL6:∀ v:Vl,VN v:=
 Vl.ind fun v IH lv m h0 h1 h2 h=>by
  rw[Vl.uQ]at h
  have hb:(cD lv (m,false)).2=false:=by
   rcases bb (cD lv (m,false)).2 with c | c
   ·rw[if_pos c,c]at h;cases h
   ·exact c
  rw[if_neg (by rw[hb];simp)]at h;obtain⟨m1,l1,e⟩:=aHH (by omega) (by omega) hb;rw[e,aDZ (by omega) (by omega)]at h;obtain⟨r,r0,r1,hr⟩:=aL5 v.items IH (lv - 1) (m - 1) (by omega) (by omega) (by omega) h;refine⟨r,r0,by omega,fun lv' d a b c e=>?_⟩;rw[Vl.uQ,aO6 (by omega) (by omega) (by omega),if_neg (by simp),aDZ (by omega) (by omega),show m+d - 1=m - 1+d by omega];exact hr (lv' - 1) d (by omega) (by omega) c e
def aG3(v:Vl):Prop:=∃ lv m:Int,0≤m∧m≤60∧lv≤8∧(v.sz lv (m,false)).2=false
def Fit(t:Ty):Prop:=∃ lv m:Int,0≤m∧m≤60∧lv≤9∧(t.sz lv (m,false)).2=false
theorem aG4{v:Vl}(h:aG3 v):(v.sz 8 (120,false)).2=false:=by
 obtain⟨lv,m,h0,h1,h2,h3⟩:=h;obtain⟨r,_,_,hr⟩:=Vl.aL6 v lv m h0 (by omega) (by omega) h3;have:=hr 8 (120 - m) h2 (by omega) (by omega) (by omega);rw[show m+(120 - m)=120 by omega]at this;rw[this]
theorem aE0:∀ (l:List Vl) (lv m:Int),0≤m→m≤60→lv≤8→(gG lv l (m,false)).2=false→(∃r,0≤r∧r≤m∧gG lv l (m,false)=(r,false))∧∀d∈l,aG3 d
 | [],lv,m,h0,h1,h2,h=>⟨⟨m,h0,Int.le_refl _,by rw[gG]⟩,fun d hd=>by simp at hd⟩
 | v::l,lv,m,h0,h1,h2,h=>by
  rw[gG,if_neg (by simp)]at h ⊢
  have hb:(v.sz lv (m,false)).2=false:=by
   rcases bb (v.sz lv (m,false)).2 with c | c
   ·rw[oW c,c]at h;cases h
   ·exact c
  obtain⟨r,r0,r1,hr⟩:=Vl.aL6 v lv m h0 (by omega) (by omega) hb;have e:=hr lv 0 (Int.le_refl _) (by omega) (by omega) (by omega);rw[Int.add_zero,Int.add_zero]at e;rw[e]at h ⊢;obtain⟨⟨q,q0,q1,hq⟩,hd⟩:=aE0 l lv r r0 (by omega) h2 h;refine⟨⟨q,q0,by omega,hq⟩,fun d hd'=>?_⟩;rcases List.mem_cons.1 hd' with rfl | hd'
  ·exact⟨lv,m,h0,h1,h2,hb⟩
  ·exact hd d hd'
def TN(t:Ty):Prop:=∀ (lv m:Int),0≤m→m≤60→lv≤9→(t.sz lv (m,false)).2=false→∃r,0≤r∧r≤m∧t.sz lv (m,false)=(r,false)
theorem aE1:∀ (l:List Fd),(∀f∈l,TN f.ty)→∀(lv m:Int),0≤m→m≤60→lv≤8→(mO lv l (m,false)).2=false→(∃r,0≤r∧r≤m∧mO lv l (m,false)=(r,false))∧∀f∈l,Fit f.ty∧∀d∈f.dflt,aG3 d
 | [],_,lv,m,h0,h1,h2,h=>⟨⟨m,h0,Int.le_refl _,by rw[mO]⟩,fun d hd=>by simp at hd⟩
 | f::l,ih,lv,m,h0,h1,h2,h=>by
  rw[mO,if_neg (by simp)]at h ⊢
  have hb:(f.sz lv (m,false)).2=false:=by
   rcases bb (f.sz lv (m,false)).2 with c | c
   ·rw[wV c,c]at h;cases h
   ·exact c
  rw[Fd.uQ]at h hb ⊢
  have hb2:(f.ty.sz lv (m,false)).2=false:=by
   rcases bb (f.ty.sz lv (m,false)).2 with c | c
   ·rw[oW c,c]at hb;cases hb
   ·exact c
  obtain⟨r,r0,r1,hr⟩:=ih f (by simp) lv m h0 h1 (by omega) hb2;rw[hr]at h hb ⊢;obtain⟨⟨q,q0,q1,hq⟩,hd⟩:=aE0 f.dflt lv r r0 (by omega) h2 hb;rw[hq]at h ⊢;obtain⟨⟨p,p0,p1,hp⟩,hf⟩:=aE1 l (fun x hx=>ih x (by simp[hx])) lv q q0 (by omega) h2 h;refine⟨⟨p,p0,by omega,hp⟩,fun x hx=>?_⟩;rcases List.mem_cons.1 hx with rfl | hx
  ·exact⟨⟨lv,m,h0,h1,by omega,hb2⟩,hd⟩
  ·exact hf x hx
theorem aE2:∀ (l:List Ty),(∀x∈l,TN x)→∀(lv m:Int),0≤m→m≤60→lv≤8→(lU lv l (m,false)).2=false→(∃r,0≤r∧r≤m∧lU lv l (m,false)=(r,false))∧∀o∈l,Fit o
 | [],_,lv,m,h0,h1,h2,h=>⟨⟨m,h0,Int.le_refl _,by rw[lU]⟩,fun d hd=>by simp at hd⟩
 | t::l,ih,lv,m,h0,h1,h2,h=>by
  rw[lU,if_neg (by simp)]at h ⊢
  have hb:(t.sz lv (m,false)).2=false:=by
   rcases bb (t.sz lv (m,false)).2 with c | c
   ·rw[sH c,c]at h;cases h
   ·exact c
  obtain⟨r,r0,r1,hr⟩:=ih t (by simp) lv m h0 h1 (by omega) hb;rw[hr]at h ⊢;obtain⟨⟨p,p0,p1,hp⟩,hf⟩:=aE2 l (fun x hx=>ih x (by simp[hx])) lv r r0 (by omega) h2 h;refine⟨⟨p,p0,by omega,hp⟩,fun x hx=>?_⟩;rcases List.mem_cons.1 hx with rfl | hx
  ·exact⟨lv,m,h0,h1,by omega,hb⟩
  ·exact hf x hx
theorem aE3(t:Ty)(ihf:∀ f∈t.fields,TN f.ty)(ih:∀ o∈t.of,TN o)(lv m:Int)(h0:0≤m)(h1:m≤60)(h2:lv≤9)(h:(t.sz lv (m,false)).2=false):
  (∃r,0≤r∧r≤m∧t.sz lv (m,false)=(r,false))∧(∀f∈t.fields,Fit f.ty∧∀d∈f.dflt,aG3 d)∧∀o∈t.of,Fit o:=by
 rw[Ty.uQ]at h ⊢
 have hb:(cD lv (m,false)).2=false:=by
  rcases bb (cD lv (m,false)).2 with c | c
  ·rw[if_pos c,c]at h;cases h
  ·exact c
 rw[if_neg (by rw[hb];simp)]at h ⊢;obtain⟨m1,l1,e⟩:=aHH (by omega) (by omega) hb;rw[e,aDZ (by omega) (by omega)]at h ⊢
 have hb2:(mO (lv - 1) t.fields (m - 1,false)).2=false:=by
  rcases bb (mO (lv - 1) t.fields (m - 1,false)).2 with c | c
  ·rw[sH c,c]at h;cases h
  ·exact c
 obtain⟨⟨r,r0,r1,hr⟩,hf⟩:=aE1 t.fields ihf (lv - 1) (m - 1) (by omega) (by omega) (by omega) hb2;rw[hr]at h ⊢;obtain⟨⟨p,p0,p1,hp⟩,ho⟩:=aE2 t.of ih (lv - 1) r r0 (by omega) (by omega) h;exact⟨⟨p,p0,by omega,hp⟩,hf,ho⟩
theorem Ty.aL6:∀ t:Ty,TN t:=Ty.ind fun t ihf ih lv m h0 h1 h2 h=>(aE3 t ihf ih lv m h0 h1 h2 h).1
theorem aIP{t:Ty}(h:Fit t):(∀f∈t.fields,Fit f.ty∧∀d∈f.dflt,aG3 d)∧∀o∈t.of,Fit o:=by
 obtain⟨lv,m,h0,h1,h2,h3⟩:=h;exact(aE3 t (fun f _=>Ty.aL6 f.ty) (fun o _=>Ty.aL6 o) lv m h0 h1 h2 h3).2
theorem aE4{x:Int}{l:List Int}(h:bZ (x::l)=0):x=0∧bZ l=0:=by
 rw[bT]at h
 by_cases c:x=0
 ·simp[c]at h;exact⟨c,h⟩
 ·simp[c]at h
theorem xH(t:Ty)(h:t.dR=0):t.bM=false∧t.eH=true:=by
 rw[Ty.dR]at h;rcases bb t.bM with c | c
 ·rw[c]at h;simp at h
 ·refine⟨c,?_⟩;rw[c]at h;simp only[Bool.false_eq_true,if_false]at h
  have h1:t.dK=0:=by
   by_cases q:t.dK=0
   ·exact q
   ·simp[q]at h
  rw[Ty.dK]at h1;have:=(aE4 h1).1
  by_cases q:t.eH=true
  ·exact q
  ·simp[q]at this
theorem aQC(t:Ty)(hf:t.bM=false)(hs:t.eH=true):t.of.length≤1:=by
 simp only[Ty.eH,Bool.and_eq_true,Bool.not_eq_true']at hs;have h1:=hs.1.1.1;simp only[Ty.aC4,Bool.or_eq_false_iff]at h1;have h2:=h1.1;simp only[Ty.bM,Bool.or_eq_false_iff]at hf;have h3:=hf.1.1.2;rcases bb (mZ t.kind)with c | c
 ·have c':(t.kind==11||t.kind==12)=true:=c;rw[c']at h2;simp at h2;omega
 ·rw[c]at h3;simp at h3;simp[h3]
theorem aQD(t:Ty)(h:t.of.length≤1)(ih:∀ o∈t.of,o.kH=o.cG):xF t.of=dS t.of:=by
 rcases e:t.of with - | ⟨o,r⟩
 ·rw[xF,dS]
 ·rw[e]at h
  have:r=[]:=by
   have:r.length=0:=by simp at h;simp[h]
   exact List.length_eq_zero_iff.1 this
  subst this;rw[xF,dS,dS,ih o (by rw[e];simp)]
  by_cases q:o.cG=0<;>simp[q]
theorem aO7(l:List Vl)(h:l.length≤1)(hd:∀ d∈l,aG3 d):xE l=cB l:=by
 rcases l with - | ⟨d,r⟩
 ·rw[xE,cB]
 ·have:r=[]:=by
   have:r.length=0:=by simp at h;simp[h]
   exact List.length_eq_zero_iff.1 this
  subst this;rw[xE,cB,cB,Vl.cS,aG4 (hd d (by simp)),Vl.qA]
  by_cases q:d.fR=0<;>simp[q]
theorem aE5:∀ l:List Fd,(∀f∈l,f.ty.kH=f.ty.cG∧f.dflt.length≤1∧∀d∈f.dflt,aG3 d)→lO true l=cA true l
 | [],_=>by rw[lO,cA]
 | f::r,h=>by
  obtain⟨h1,h2,h3⟩:=h f (by simp)
  have e:f.kH true=f.fU true:=by
   rw[Fd.pZ,Fd.tU,h1,aO7 f.dflt h2 h3]
   by_cases q:f.ty.cG=0<;>simp[q]
  rw[lO,cA,e,aE5 r (fun x hx=>h x (by simp[hx]))]
theorem aE6:∀ l:List Fd,(∀f∈l,f.dflt=[])→cA false l=0
 | [],_=>by rw[cA]
 | f::r,h=>by
  have:f.fU false=0:=by rw[Fd.tU,h f (by simp),cB];rfl
  rw[cA,this,aE6 r (fun x hx=>h x (by simp[hx]))];rfl
theorem aQE:∀ t:Ty,Fit t→t.kH=t.cG:=
 Ty.ind fun t ihf ih hfit=>by
  obtain⟨ff,fo⟩:=aIP hfit;rw[Ty.pZ,Ty.nX,aQB]
  by_cases hr:t.cI=0
  ·by_cases hp:t.dR=0
   ·obtain⟨hf,hs⟩:=xH t hp;rw[aQD t (aQC t hf hs) (fun o ho=>ih o ho (fo o ho))]
    have e:lO (!(t.kind==3||t.kind==14)) t.fields=cA (sM t.kind) t.fields:=by
     rcases hfl:t.fields with - | ⟨f0,r0⟩
     ·rw[lO,cA]
     ·rw[←hfl]
      have hk:fV t.kind=true:=by
       rcases bb (fV t.kind)with c | c
       ·exact c
       ·have hk':(cM t.kind||t.kind==3||t.kind==14||t.kind==15)=false:=c;simp only[Ty.bM,fL,hk',hfl,Bool.or_eq_false_iff]at hf;simp at hf
      have hfits:∀ f∈t.fields,f.fits t.kind=true:=by
       simp only[Ty.bM,Ty.aDN,Bool.or_eq_false_iff]at hf;have:=List.any_eq_false.1 hf.2.1;exact fun f hf=>by simpa using this f hf
      have hsh:∀ f∈t.fields,f.pres=2→f.dflt.length=1:=by
       simp only[Ty.eH,Bool.and_eq_true,Bool.not_eq_true']at hs;have:=List.any_eq_false.1 hs.1.2;exact fun f hf h=>by have:=this f hf;simp[h]at this;omega
      have h1:t.kind=9∨t.kind=10∨t.kind=13∨t.kind=3∨t.kind=14∨t.kind=15:=by
       simp[fV,cM]at hk;omega
      have one:(t.kind=9∨t.kind=10∨t.kind=13∨t.kind=15)→∀f∈t.fields,f.dflt.length≤1:=fun q f hf=>by
       have a:=hfits f hf;have b:=hsh f hf
       by_cases p:f.pres=2
       ·have:=b p;omega
       ·rcases q with q | q | q | q<;>simp[Fd.fits,Fd.alone,q,p]at a<;>simp[a]
      have go:(t.kind=9∨t.kind=10∨t.kind=13∨t.kind=15)→lO true t.fields=cA true t.fields:=fun q=>
       aE5 t.fields fun f hf=>⟨ihf f hf (ff f hf).1,one q f hf,(ff f hf).2⟩
      have no:(t.kind=3∨t.kind=14)→lO false t.fields=cA false t.fields:=fun q=>by
       rw[rG,aE6];intro f hf;have a:=hfits f hf;rcases q with q | q<;>simp[Fd.fits,Fd.alone,q]at a<;>simp[a]
      rcases h1 with q | q | q | q | q | q
      ·have:=go (.inl q);rw[q];exact this
      ·have:=go (.inr (.inl q));rw[q];exact this
      ·have:=go (.inr (.inr (.inl q)));rw[q];exact this
      ·have:=no (.inl q);rw[q];exact this
      ·have:=no (.inr q);rw[q];exact this
      ·have:=go (.inr (.inr (.inr q)));rw[q];exact this
    rw[e];simp[hr,hp]
   ·simp[hr,hp]
  ·simp[hr]
theorem uV(t:Ty):t.kI=t.check:=by
 rw[Ty.kI,Ty.check];rcases bb (t.sz 9 (60,false)).2 with c | c
 ·rw[c];rfl
 ·rw[c,aQE t ⟨9,60,by omega,by omega,by omega,c⟩]
section
attribute [-simp] Go.Ab.aA Go.Ab.gval
attribute [local simp] bE aM aQ aG aV aO aX tyC fdC vlC ndC aL D.cR D.pt
def aG5:ByteArray:=bs [78,117,109,101,114,105,99,83,116,114,105,110,103]
def aG6:ByteArray:=bs [80,114,105,110,116,97,98,108,101,83,116,114,105,110,103]
def aG7:ByteArray:=bs [86,105,115,105,98,108,101,83,116,114,105,110,103]
def pC:ByteArray:=bs [73,65,53,83,116,114,105,110,103]
def alpha(s:ByteArray):List Sp:=
 if bR s aG5 then[⟨32,32⟩,⟨48,57⟩] else if bR s aG6 then[⟨32,32⟩,⟨39,41⟩,⟨43,58⟩,⟨61,61⟩,⟨63,63⟩,⟨65,90⟩,⟨97,122⟩]
 else if bR s aG7 then[⟨32,126⟩] else if bR s pC then[⟨0,127⟩] else[]
theorem aG8(s:ByteArray):gY s=(bR s aG5||bR s aG6||bR s aG7||bR s pC):=by
 simp[gY,jC,aG5,aG6,aG7,pC,Bool.or_assoc]
attribute [local simp] b6B b6C b6D b6E b6F b6G c18 in
theorem P18(s:ByteArray):PSp prog 18 [.one (.t (.str s))] (.one (.t (spans (alpha s)))):=by
 refine k18.aI (by simp) rfl rfl ?_;obtain⟨a,ea⟩:∃ x,bR s aG5=x:=⟨_,rfl⟩;obtain⟨b,eb⟩:∃ x,bR s aG6=x:=⟨_,rfl⟩;obtain⟨c,ec⟩:∃ x,bR s aG7=x:=⟨_,rfl⟩;obtain⟨d,ed⟩:∃ x,bR s pC=x:=⟨_,rfl⟩
 have e0:alpha s=if a then[⟨32,32⟩,⟨48,57⟩] else if b then[⟨32,32⟩,⟨39,41⟩,⟨43,58⟩,⟨61,61⟩,⟨63,63⟩,⟨65,90⟩,⟨97,122⟩] else if c then[⟨32,126⟩] else if d then[⟨0,127⟩] else[]:=by
  rw[←ea,←eb,←ec,←ed];rfl
 rw[e0];simp only[bR,aG5,aG6,aG7,pC]at ea eb ec ed;cases a
 ·cases b
  ·cases c
   ·cases d
    ·simp -implicitDefEqProofs [ea,eb,ec,ed,aC,spans]
    ·simp -implicitDefEqProofs [ea,eb,ec,ed,aC,spans,spr]
   ·simp -implicitDefEqProofs [ea,eb,ec,aC,spans,spr]
  ·simp -implicitDefEqProofs [ea,eb,aC,spans,spr]
 ·simp -implicitDefEqProofs [ea,aC,spans,spr]
attribute [local simp] b6v b6w b6x b6y b6z b6A c17 in
theorem P17(s:ByteArray):PSp prog 17 [.one (.t (.str s))] (.tup [.one (.t (spans (alpha s))),.one (.t (I (if gY s then 0 else 7)))]):=by
 refine k17.aI (by simp) rfl rfl ?_;obtain⟨a,ea⟩:∃ x,bR s aG5=x:=⟨_,rfl⟩;obtain⟨b,eb⟩:∃ x,bR s aG6=x:=⟨_,rfl⟩;obtain⟨c,ec⟩:∃ x,bR s aG7=x:=⟨_,rfl⟩;obtain⟨d,ed⟩:∃ x,bR s pC=x:=⟨_,rfl⟩
 have e0:alpha s=if a then[⟨32,32⟩,⟨48,57⟩] else if b then[⟨32,32⟩,⟨39,41⟩,⟨43,58⟩,⟨61,61⟩,⟨63,63⟩,⟨65,90⟩,⟨97,122⟩] else if c then[⟨32,126⟩] else if d then[⟨0,127⟩] else[]:=by
  rw[←ea,←eb,←ec,←ed];rfl
 rw[e0,aG8,ea,eb,ec,ed];simp only[bR,aG5,aG6,aG7,pC]at ea eb ec ed;cases a
 ·cases b
  ·cases c
   ·cases d
    ·simp -implicitDefEqProofs [ea,eb,ec,ed,aC,spans]
    ·simp -implicitDefEqProofs [ea,eb,ec,ed,aC,spans,spr]
   ·simp -implicitDefEqProofs [ea,eb,ec,aC,spans,spr]
  ·simp -implicitDefEqProofs [ea,eb,aC,spans,spr]
 ·simp -implicitDefEqProofs [ea,aC,spans,spr]
end
section
attribute [-simp] Go.Ab.aA Go.Ab.gval
attribute [local simp] bE aM aQ aG aV aO aX tyC fdC vlC ndC aL D.cR D.pt
attribute [local simp] b3B b3C b3D b3E b3F b3G b3H b3I b3J c79 in
theorem P79(l:List Int)(hl:short l):PSp prog 79 [.one (.t (aX l))] (.one (.t (I (bZ l)))):=by
 refine k79.aI (by simp) rfl rfl ?_;simp -implicitDefEqProofs;refine wW l ne0 [5,6] [] (fun i st=>st.tmps 7= .one (.t (I i))) hl ⟨by simp,by simp,by simp⟩ ?_ ?_
 ·intro i y st hi hiI hw hg hy hany hx hk hh;simp at hk;rcases eqCases y 0 with e | e
  ·simp -implicitDefEqProofs [hx,hk,hiI,hi,aE hg,hw,e,ne0]
  ·simp -implicitDefEqProofs [hx,hk,hiI,hi,aE hg,e,aC];simp[bZ,hany y (by simp[e,ne0])]
 ·intro st hany hx hk hh;simp at hk;simp -implicitDefEqProofs [hx,hk,aC,bZ,hany]
def iQ(k:Int):Int:=if k==11||k==12 then 40 else 200
attribute [local simp] c91 in
theorem P91(t:Ty):PSp prog 91 [.agg (tyC t)] (.one (.t (I (iQ t.kind)))):=by
 refine k91.aI (by simp) (by simp[D.closed,A.closed]) rfl ?_;rw[iQ];obtain⟨a,ea⟩:∃ x,(t.kind==11||t.kind==12)=x:=⟨_,rfl⟩;have p61:=P61 t.kind;rw[ea]at p61 ⊢;simp -implicitDefEqProofs;refine aD.tree p61 rfl ?_;cases a
 ·simp -implicitDefEqProofs [aC]
 ·simp -implicitDefEqProofs [aC]
def jP(x:Nd)(a k:Int):Bool:=
 let lo:Int:=if a==5||a==6 then 0 else -1152921504606846976
 let hi:Int:=if a==5 then iQ k else if a==6 then 127 else 1152921504606846976
 decide (x.lo>x.hi)||decide (x.lo<lo)||decide (x.hi>hi)
attribute [local simp] b6Z b60 b61 b62 b63 c116 in
theorem aX3(x:Nd)(a k:Int):PSp prog 116 [.agg (ndC x),.one (.t (I a)),.one (.t (I k))] (.one (.t (.bool (jP x a k)))):=by
 have fin:∀ (lo hi:Int) (R:Bool),(decide (x.lo>x.hi)||decide (x.lo<lo)||decide (x.hi>hi))=R→(lo=(if a==5||a==6 then 0 else -1152921504606846976))→(hi=(if a==5 then iQ k else if a==6 then 127 else 1152921504606846976))→jP x a k=R:=fun lo hi R h1 h2 h3=>by
  rw[jP,←h2,←h3];exact h1
 obtain⟨u,eu⟩:∃ y,decide (x.hi<x.lo)=y:=⟨_,rfl⟩;have eu':decide (x.lo>x.hi)=u:=eu;have aTG:PSp prog 133 [.one (.t (I k))] (.one (.t (I (iQ k)))):=aUU k;obtain⟨m,em⟩:∃ m,iQ k=m:=⟨_,rfl⟩;rw[em]at aTG fin;refine k116.aI (by simp) (by simp[D.closed,A.closed]) rfl ?_;rcases eqCases a 5 with q5 | q5
 ·obtain⟨v,ev⟩:∃ y,decide (x.lo<0)=y:=⟨_,rfl⟩;obtain⟨w,ew⟩:∃ y,decide (m<x.hi)=y:=⟨_,rfl⟩;have ew':decide (x.hi>m)=w:=ew;rw[fin 0 m _ (by rw[eu',ev,ew']) (by simp[q5]) (by simp[q5])];simp -implicitDefEqProofs [q5];refine aD.tree aTG rfl ?_;cases u<;>cases v<;>cases w
  all_goals simp -implicitDefEqProofs [eu,ev,ew,aC]
 ·rcases eqCases a 6 with q6 | q6
  ·obtain⟨v,ev⟩:∃ y,decide (x.lo<0)=y:=⟨_,rfl⟩;obtain⟨w,ew⟩:∃ y,decide (127<x.hi)=y:=⟨_,rfl⟩;have ew':decide (x.hi>127)=w:=ew;rw[fin 0 127 _ (by rw[eu',ev,ew']) (by simp[q6]) (by simp[q6])];cases u<;>cases v<;>cases w
   all_goals simp -implicitDefEqProofs [q6,eu,ev,ew,aC]
  ·obtain⟨v,ev⟩:∃ y,decide (x.lo< -1152921504606846976)=y:=⟨_,rfl⟩;obtain⟨w,ew⟩:∃ y,decide (1152921504606846976<x.hi)=y:=⟨_,rfl⟩;have ew':decide (x.hi>1152921504606846976)=w:=ew;rw[fin (-1152921504606846976) 1152921504606846976 _ (by rw[eu',ev,ew']) (by simp[q5,q6]) (by simp[q5,q6])];cases u<;>cases v<;>cases w
   all_goals simp -implicitDefEqProofs [q5,q6,eu,ev,ew,aC]
theorem aAN(s:ByteArray):(alpha s).length≤7:=by
 simp only[alpha]
 repeat' split
 all_goals simp
theorem aE7{α:Type}(p:α→Bool):∀ (l:List α) (b:Bool),l.foldl (fun b c=>b||p c) b=(b||l.any p)
 | [],b=>by simp
 | x::r,b=>by rw[List.foldl_cons,aE7 p r,List.any_cons,Bool.or_assoc]
def dT(t:Ty)(a c:Int):Bool:=if a==3 then t.kind==4&&c != 48&&c != 49 else !inS (alpha (if a==6 then pC else t.name)) c
def nE(t:Ty)(s:ByteArray)(a:Int):Int:=if(a==6&&bR s (bs []))||(chars s).any (dT t a)then 17 else if 200<s.size then 2 else 0
attribute [local simp] oY D.oH
attribute [local simp] b0i b0j b0k b0l b0m b0n b0o b0p b0q a6T b0r b0s b0t c117 in
theorem aQF(t:Ty)(s:ByteArray)(a:Int)(b0:Bool)(hs:s.size≤9223372036854775807)(st:St)(h1:st.tmps 1= .one (.t (.str s)))(h2:st.tmps 2= .one (.t (I a)))(h3:st.tmps 3= .one (.ptr ⟨0,0,8,0,0⟩))(hh:st.heap 0=some (.arr 0 false 8 [tyC t]))(_hnx:0<st.nx)
  (h7:st.tmps 7= .one (.t (spans (alpha (if a==6 then pC else t.name))))) (h8:st.tmps 8= .one (.t (.bool b0))):
  aZ prog 62 (aC [.tmp 6] (.one (.t (I (if b0||(chars s).any (dT t a)then 17 else if 200<s.size then 2 else 0))))) a6T [] st:=by
 obtain⟨R,hR⟩:∃ R,(if b0||(chars s).any (dT t a)then(17:Int)else if 200<s.size then 2 else 0)=R:=⟨_,rfl⟩;rw[hR];have hcl:=dW s;obtain⟨o1,o2,o3,o4⟩:=aK hh;generalize hA:alpha (if a==6 then pC else t.name)=A at*
 have hAl:A.length≤1000000:=by
  rw[←hA];have:=aAN (if a==6 then pC else t.name);omega
 simp -implicitDefEqProofs;refine oX (chars s) (fun b c=>b||dT t a c) b0 [1,2,3,7] [0] (fun i b st=>st.tmps 9= .one (.t (I i))∧st.tmps 8= .one (.t (.bool b))) (by simp only[short];omega) ⟨by simp[h8],by simp,by simp[]⟩ ?_ ?_
 ·rintro i c b st' hi hiI hw hg hy hb ⟨hx,hx8⟩ hk hh';simp[h1,h2,h3,h7]at hk hh';rw[hcl]at hi hiI;obtain⟨o1,o2,o3,o4⟩:=aK (hh'.1.trans hh);have hc:(chars s)[i]?.getD 0=c:=by rw[hg];rfl
  have hm:=mY hy
  have hcv:D.dO .i64 (.one (.t (.int .u8 c)))= .one (.t (I c)):=by
   have:IntKind.i64.wrap c=c:=wrap_i64 (by omega) (by omega);simp[D.dO,this]
  rcases eqCases a 3 with q | q
  ·have hd:dT t a c=(t.kind==4&&c != 48&&c != 49):=by simp[dT,q]
   obtain⟨x,ex⟩:∃ x,(t.kind==4)=x:=⟨_,rfl⟩;obtain⟨y,ey⟩:∃ x,(c==48)=x:=⟨_,rfl⟩;obtain⟨z,ez⟩:∃ x,(c==49)=x:=⟨_,rfl⟩;rw[hd];simp only[ex,bne,ey,ez];cases b<;>cases x<;>cases y<;>cases z
   all_goals simp -implicitDefEqProofs [hx,hx8,hk,hiI,hw,hc,hcv,o1,o2,o3,q,ex,ey,ez,bne,hh'.1]
   all_goals simp[h1,h2,h3,h7,q]
  ·have hd:dT t a c= !inS A c:=by rw[←hA];simp[dT,q]
   rw[hd];cases b
   ·simp -implicitDefEqProofs [hx,hx8,hk,hiI,hw,hc,hcv,q,hh'.1];refine aD.tree (InP A c hAl) rfl ?_;simp -implicitDefEqProofs [hx,hk,hw,hh'.1];simp[h1,h2,h3,h7]
   ·simp -implicitDefEqProofs [hx,hx8,hk,hiI,hw,hc,hcv,q,hh'.1];simp[h1,h2,h3,h7]
 ·rintro st' ⟨hx,hx8⟩ hk hh';simp[h1,h2,h3,h7]at hk hh';rw[hcl]at hx;rw[aE7]at hx8;rcases bb (b0||(chars s).any (dT t a))with z | z
  ·rw[z]at hx8 hR;simp only[if_true]at hR;subst hR;simp -implicitDefEqProofs [hx,hx8,hk,aC]
  ·rw[z]at hx8 hR;obtain⟨w,ew⟩:∃ x,decide ((200:Int)<(s.size:Int))=x:=⟨_,rfl⟩;have ew':decide (200<s.size)=w:=by rw[←ew];congr 1;simp;omega
   have e2:(if 200<s.size then(2:Int)else 0)=if w then 2 else 0:=by rw[←ew'];simp
   rw[e2]at hR;simp only[Bool.false_eq_true,if_false]at hR;subst hR;have wF:IntKind.i64.wrap (2:Int)=2:=by decide
   simp -implicitDefEqProofs [hx,hx8,hk,ew];refine aD.tree (P19 _) rfl ?_;cases w
   ·simp -implicitDefEqProofs [aC,wE]
   ·simp -implicitDefEqProofs [aC,wF]
attribute [local simp] b0i b0j b0k b0l b0m b0n b0o b0p b0q b0r b0s b0t c117 in
theorem aX4(t:Ty)(s:ByteArray)(a:Int)(hs:s.size≤9223372036854775807):PSp prog 117 [.agg (tyC t),.one (.t (.str s)),.one (.t (I a))] (.one (.t (I (nE t s a)))):=by
 obtain⟨b,eb⟩:∃ b,(s.toList==(bs []).toList)=b:=⟨_,rfl⟩;have eb':bR s (bs [])=b:=eb;obtain⟨R,hR⟩:∃ R,nE t s a=R:=⟨_,rfl⟩;rw[hR];rw[nE,eb']at hR
 have rest:∀ b0,(a==6&&b)=b0→∀st:St,st.tmps 1= .one (.t (.str s))→st.tmps 2= .one (.t (I a))→st.tmps 3= .one (.ptr ⟨0,0,8,0,0⟩)→st.heap 0=some (.arr 0 false 8 [tyC t])→0<st.nx→
   st.tmps 7= .one (.t (spans (alpha (if a==6 then pC else t.name))))→st.tmps 8= .one (.t (.bool b0))→aZ prog 62 (aC [.tmp 6] (.one (.t (I R)))) a6T [] st:=fun b0 hb0 st g1 g2 g3 g4 g5 g6 g7=>by
  have:=aQF t s a b0 hs st g1 g2 g3 g4 g5 g6 g7;rw[←hb0,hR]at this;exact this
 refine k117.aI (by simp) (by simp[D.closed,A.closed]) rfl ?_;simp -implicitDefEqProofs;refine aD.tree (P18 t.name) rfl ?_;rcases eqCases a 6 with q | q
 ·have p18:=P18 pC;simp only[pC]at p18;simp -implicitDefEqProofs [q];refine aD.tree p18 rfl ?_;simp -implicitDefEqProofs [eb];refine rest b (by rw[q];rfl) _ ?_ ?_ ?_ ?_ ?_ ?_ ?_
  ·simp
  ·simp[q]
  ·simp
  ·simp[Hp.set]
  ·simp
  ·simp[q,pC]
  ·simp
 ·simp -implicitDefEqProofs [q,eb];refine rest false (by rw[q.1];rfl) _ ?_ ?_ ?_ ?_ ?_ ?_ ?_
  ·simp
  ·simp
  ·simp
  ·simp[Hp.set]
  ·simp
  ·simp[q]
  ·simp
end
section
attribute [-simp] Go.Ab.aA Go.Ab.gval
attribute [local simp] bE aM aQ aG aV aO aX tyC fdC vlC ndC aL D.cR D.pt
theorem Vl.aO8(v:Vl):v.slim=(decide (v.s.size≤500)&&decide (v.names.length≤60)&&decide (v.items.length≤60)&&v.names.all (fun x=>decide (x.size≤60))&&v.items.all Vl.slim):=by
 cases v;rw[Vl.slim,aAI];rfl
attribute [local simp] a6n a6o a6p a6q a6r a6s a6t a6u a6v a6w a6x a6y a6z a6A c70 in
theorem aQG(v:Vl)(hl:short v.items)(IH:∀ x∈v.items,PSp prog 70 [.agg (vlC x)] (.one (.t (.bool x.slim))))(st:St)(h1:VB v 1 st)(_hnx:0<st.nx):aZ prog 49 (aC [.tmp 2] (.one (.t (.bool (!v.items.any fun x=> !x.slim))))) a6y [] st:=by
 obtain⟨h1,h2⟩:=h1;obtain⟨o1,o2,o3,o4⟩:=aK h2;obtain⟨R,hR⟩:∃ R,(!v.items.any fun x=> !x.slim)=R:=⟨_,rfl⟩;rw[hR];simp -implicitDefEqProofs;refine bS v.items (fun x=> !x.slim) [1] [0] (fun i st=>st.tmps 4= .one (.t (I i))) hl ⟨by simp,by simp,by simp[]⟩ ?_ ?_
 ·intro i x st' hi hiI hw hg hy hany hx hk hh;simp[h1]at hk hh;obtain⟨o1,o2,o3,o4⟩:=aK (hh.1.trans h2);simp -implicitDefEqProofs [hx,hk,hi,hiI,o1,o2,o3,aE hg,Vl.aP,-List.getElem_map];refine aD.tree (IH x hy) rfl ?_;rcases bb x.slim with c | c
  ·rw[c];simp -implicitDefEqProofs [hx,hk,hw,h1,hh.1]
  ·rw[hany (by simp[c])]at hR;subst hR;rw[c];simp -implicitDefEqProofs [aC]
 ·intro st' hany hx hk hh;simp[h1]at hk hh;obtain⟨o1,o2,o3,o4⟩:=aK (hh.1.trans h2);rw[hany]at hR;subst hR;simp -implicitDefEqProofs [hx,hk,o1,o2,o3,aC]
attribute [local simp] a6n a6o a6p a6q a6r a6s a6t a6u a6v a6w a6x a6z a6A c70 in
theorem aQH(v:Vl)(hv:v.fine)(IH:∀ x∈v.items,PSp prog 70 [.agg (vlC x)] (.one (.t (.bool x.slim))))(st:St)(h1:VB v 1 st)(_hnx:0<st.nx):aZ prog 49 (aC [.tmp 2] (.one (.t (.bool (!(v.names.any fun x=>decide (60<x.size))&& !v.items.any fun x=> !x.slim))))) a6z [] st:=by
 have hv':=(Vl.bG v).1 hv;have rest:=aQG v hv'.2.2.2.1 IH;generalize (!v.items.any fun x=> !x.slim)=Q at*;obtain⟨h1,h2⟩:=h1;obtain⟨o1,o2,o3,o4⟩:=aK h2;obtain⟨R,hR⟩:∃ R,(!(v.names.any fun x=>decide (60<x.size))&&Q)=R:=⟨_,rfl⟩;rw[hR];simp -implicitDefEqProofs;refine bS v.names (fun x=>decide (60<x.size)) [1] [0] (fun i st=>st.tmps 3= .one (.t (I i))) hv'.2.1 ⟨by simp,by simp,by simp[]⟩ ?_ ?_
 ·intro i x st' hi hiI hw hg hy hany hx hk hh;simp[h1]at hk hh;obtain⟨o1,o2,o3,o4⟩:=aK (hh.1.trans h2);obtain⟨c,ec⟩:∃ c,decide (60<x.size)=c:=⟨_,rfl⟩;have ec':decide ((60:Int)<(x.size:Int))=c:=by rw[←ec];congr 1;simp;omega
  rw[ec]at hany ⊢;cases c
  ·simp -implicitDefEqProofs [hx,hk,hi,hiI,hw,o1,o2,o3,aE hg,-List.getElem_map,ec',h1,hh.1]
  ·rw[hany rfl]at hR;subst hR;simp -implicitDefEqProofs [hx,hk,hi,hiI,o1,o2,o3,aE hg,-List.getElem_map,ec',aC]
 ·intro st' hany hx hk hh;simp[h1]at hk hh;obtain⟨o1,o2,o3,o4⟩:=aK (hh.1.trans h2);rw[hany]at hR;simp at hR;subst hR;simp -implicitDefEqProofs [hx,hk,o1,o2,o3];exact rest _ ⟨by simp[hk],by simp[hh,h2]⟩ (by simp<;>omega)
attribute [local simp] a6n a6o a6p a6q a6r a6s a6t a6u a6v a6w a6x a6y a6A c70 in
theorem aQI(v:Vl)(hv:v.fine)(IH:∀ x∈v.items,PSp prog 70 [.agg (vlC x)] (.one (.t (.bool x.slim)))):PSp prog 70 [.agg (vlC v)] (.one (.t (.bool v.slim))):=by
 have rest:=aQH v hv IH;obtain⟨a,ea⟩:∃ x,decide ((500:Int)<(v.s.size:Int))=x:=⟨_,rfl⟩;obtain⟨b,eb⟩:∃ x,decide ((60:Int)<(v.names.length:Int))=x:=⟨_,rfl⟩;obtain⟨c,ec⟩:∃ x,decide ((60:Int)<(v.items.length:Int))=x:=⟨_,rfl⟩
 have e0:v.slim=(!a&& !b&& !c&&(!(v.names.any fun x=>decide (60<x.size))&& !v.items.any fun x=> !x.slim)):=by
  have e1:v.names.all (fun x=>decide (x.size≤60))= !(v.names.any fun x=>decide (60<x.size)):=by
   rw[List.not_any_eq_all_not];congr 1;funext x;rw[Bool.eq_iff_iff];simp
  have e2:v.items.all Vl.slim= !v.items.any fun x=> !x.slim:=by
   rw[List.not_any_eq_all_not];congr 1;funext x;simp
  have e3:decide (v.s.size≤500)= !a:=by rw[←ea,Bool.eq_iff_iff];simp;omega
  have e4:decide (v.names.length≤60)= !b:=by rw[←eb,Bool.eq_iff_iff];simp;omega
  have e5:decide (v.items.length≤60)= !c:=by rw[←ec,Bool.eq_iff_iff];simp;omega
  rw[Vl.aO8,e1,e2,e3,e4,e5];simp only[Bool.and_assoc]
 rw[e0];generalize (!(v.names.any fun x=>decide (60<x.size))&& !v.items.any fun x=> !x.slim)=Q at*;refine k70.aI (by simp) (by simp[D.closed,A.closed]) rfl ?_;cases a<;>cases b<;>cases c
 all_goals simp -implicitDefEqProofs [ea,eb,ec,aC]
 all_goals exact rest _ ⟨by simp,by simp[Hp.set]⟩ (by simp)
theorem P70:∀ v:Vl,v.fine→PSp prog 70 [.agg (vlC v)] (.one (.t (.bool v.slim))):=
 Vl.ind fun v IH hv=>aQI v hv fun x hx=>IH x hx (((Vl.bG v).1 hv).2.2.2.2 x hx)
attribute [local simp] b6L b6M b6N b6O b6P c69 in
theorem P69(l:List Vl)(m lv:Int)(hv:∀ x∈l,x.fine)(hl:short l):PSp prog 69 [.one (.t (aV l)),.one (.t (I m)),.one (.t (I lv))] (.one (.t (.bool (!(gG lv l (m,false)).2)))):=by
 refine k69.aI (by simp) rfl rfl ?_;obtain⟨R,hR⟩:∃ R,gG lv l (m,false)=R:=⟨_,rfl⟩;rw[hR];simp -implicitDefEqProofs [-Prod.exists,-Bool.exists_bool];refine eZ l (fun _ r s=>gG lv r s) R (m,false) [0,2,7] [] (fun i s st=>st.tmps 8= .one (.t (I i))∧st.heap 3=some (yQ s)∧3<st.nx) hl hR ⟨by simp[Hp.set,yQ],by simp,by simp⟩ ?_ ?_
 ·rintro i y ⟨s1,s2⟩ st hi hiI hw hg hy hR ⟨h8,ho,hnx⟩ hk hh;simp at hk;obtain⟨o1,o2,o3,o4⟩:=aK ho;have k105:=sG y (hv y hy);rw[aC2]at k105;cases s2
  ·rw[gG,if_neg (by simp)]at hR;simp -implicitDefEqProofs [h8,hk,hi,hiI,o1,o2,o3,aE hg,Vl.aP,-List.getElem_map,-Prod.exists,-Bool.exists_bool];refine aD.imp (ISp.ok fun ho'=>k105 _ _ _ lv (s1,false) ho' (by simpa using ho)) ?_;simp -implicitDefEqProofs [h8,hk,hw,eC,-Prod.exists,-Bool.exists_bool];refine⟨y.sz lv (s1,false),hR,?_⟩;simp[Hp.set,yQ]
  ·rw[oW rfl]at hR;subst hR;simp -implicitDefEqProofs [h8,hk,hiI,o1,o2,o3,aC,-Prod.exists,-Bool.exists_bool]
 ·rintro⟨s1,s2⟩ st hR ⟨h8,ho,hnx⟩ hk hh;simp at hk;obtain⟨o1,o2,o3,o4⟩:=aK ho;rw[gG]at hR;subst hR;simp -implicitDefEqProofs [h8,hk,o1,o2,o3,aC,-Prod.exists,-Bool.exists_bool]
attribute [local simp] c21 in
theorem P21(v:Vl)(hv:v.fine):PSp prog 21 [.agg (vlC v)] (.one (.t (.bool v.few))):=by
 refine k21.aI (by simp) (by simp[D.closed,A.closed]) rfl ?_;have p69:=P69 [v] 400 12 (fun x hx=>by simp at hx;rw[hx];exact hv) (by simp[short]);have p70:=P70 v hv;rw[Vl.few];generalize (gG 12 [v] (400,false)).2=q at*;simp -implicitDefEqProofs;refine aD.pure p69 (by simp) (by simp[Vl.aP]) ?_;cases q
 ·simp -implicitDefEqProofs;refine aD.tree p70 rfl ?_;simp -implicitDefEqProofs [aC]
 ·simp -implicitDefEqProofs [aC]
end
section
attribute [-simp] Go.Ab.aA Go.Ab.gval
attribute [local simp] bE aM aQ aG aV aO aX tyC fdC vlC ndC aL D.cR D.pt
attribute [local simp] a1K a1L a1M a1N a1O a1P a1Q a1R a1S a1T a1U a1V a1W a1X a1Y a1Z a10 a13 a14 a15 a16 a18 a19 a4G a2a a2b a2c c58 in
theorem aTH(t:Ty)(hl:short t.of)(IH:∀ x∈t.of,PSp prog 58 [.agg (tyC x)] (.one (.t (.bool x.narrow))))(st:St)(h1:TB t 1 st)(_hnx:0<st.nx):aZ prog 117 (aC [.tmp 2] (.one (.t (.bool (!t.of.any fun x=> !x.narrow))))) a4G [] st:=by
 obtain⟨h1,h2⟩:=h1;obtain⟨o1,o2,o3,o4⟩:=aK h2;obtain⟨R,hR⟩:∃ R,(!t.of.any fun x=> !x.narrow)=R:=⟨_,rfl⟩;rw[hR];simp -implicitDefEqProofs;refine bS t.of (fun x=> !x.narrow) [1] [0] (fun i st=>st.tmps 7= .one (.t (I i))) hl ⟨by simp,by simp,by simp[]⟩ ?_ ?_
 ·intro i x st' hi hiI hw hg hy hany hx hk hh;simp[h1]at hk hh;obtain⟨o1,o2,o3,o4⟩:=aK (hh.1.trans h2);simp -implicitDefEqProofs [hx,hk,hi,hiI,o1,o2,o3,aE hg,Ty.aP,-List.getElem_map];refine aD.tree (IH x hy) rfl ?_;rcases bb x.narrow with c | c
  ·rw[c];simp -implicitDefEqProofs [hx,hk,hw,h1,hh.1]
  ·rw[hany (by simp[c])]at hR;subst hR;rw[c];simp -implicitDefEqProofs [aC]
 ·intro st' hany hx hk hh;simp[h1]at hk hh;obtain⟨o1,o2,o3,o4⟩:=aK (hh.1.trans h2);rw[hany]at hR;subst hR;simp -implicitDefEqProofs [hx,hk,o1,o2,o3,aC]
attribute [local simp] a1K a1L a1M a1N a1O a1P a1Q a1R a1S a1T a1U a1V a1W a1X a1Y a1Z a10 a13 a14 a15 a16 a18 a19 a2a a2b a2c c58 in
theorem aTI(f:Fd)(hfi:f.fine)(A:Exit→St→Prop)(ks:List KF)(id:Nat)(st:St)(h5:st.tmps 5= .one (.ptr ⟨id,0,13,0,0⟩))(hid:st.heap id=some (.arr 0 false 13 [fdC f]))(_hlt:id<st.nx)
  (hok:f.dflt.any (fun x=> !x.few)=false→∀st',dD [1,4] st.tmps st'.tmps→st'.heap=st.heap→st.nx≤st'.nx→cX prog 117 A ks .normal st')
  (hbad:f.dflt.any (fun x=> !x.few)=true→∀st',st'.tmps 2= .one (.t (.bool false))→cX prog 117 A ks .ret st'):
  aZ prog 117 A a1X ks st:=by
 have hff:=(Fd.bG f).1 hfi;obtain⟨o1,o2,o3,o4⟩:=aK hid;simp -implicitDefEqProofs;refine bS f.dflt (fun x=> !x.few) [1,4,5] [] (fun i st'=>st'.tmps 6= .one (.t (I i))∧st'.heap=st.heap∧st.nx≤st'.nx) hff.2.2.1 ⟨by simp<;>omega,by simp[h5],by simp⟩ ?_ ?_
 ·rintro i x st' hi hiI hw hg hy hany ⟨hx,hhe,hn⟩ hk hh;simp[h5]at hk;rw[←hhe]at o1 o2 o3 o4;simp -implicitDefEqProofs [hx,hk,hi,hiI,o1,o2,o3,aE hg,Vl.aP,-List.getElem_map];refine aD.tree (P21 x (hff.2.2.2 x hy)) rfl ?_;rcases bb x.few with c | c
  ·rw[c];simp -implicitDefEqProofs [hx,hk,hw,hhe];exact⟨by omega,h5.symm⟩
  ·rw[c];simp -implicitDefEqProofs;exact hbad (hany (by simp[c])) _ (by simp)
 ·rintro st' hany ⟨hx,hhe,hn⟩ hk hh;simp[h5]at hk;rw[←hhe]at o1 o2 o3 o4;simp -implicitDefEqProofs [hx,hk,o1,o2,o3];exact hok hany _ (by simp[hk]) (by simp[hhe]) (by simp<;>omega)
attribute [local simp] a1K a1L a1M a1N a1O a1P a1Q a1R a1S a1T a1U a1V a1W a1Y a1Z a10 a13 a14 a15 a16 a18 a19 a2a a2b a2c c58 in
theorem aTJ(t:Ty)(ht:t.fine)(IHf:∀ x∈t.fields,PSp prog 58 [.agg (tyC x.ty)] (.one (.t (.bool x.ty.narrow))))(IH:∀ x∈t.of,PSp prog 58 [.agg (tyC x)] (.one (.t (.bool x.narrow))))(R:Bool)(hR:((!t.fields.any fun x=> !x.narrow)&&(!t.of.any fun x=> !x.narrow))=R)(st:St)(h1:TB t 1 st)(_hnx:0<st.nx):aZ prog 117 (aC [.tmp 2] (.one (.t (.bool R)))) a2a [] st:=by
 have hf:=(Ty.bG t).1 ht;obtain⟨g1,g2,g3,g4,g5,g6,g7,g8⟩:=hf;have rest:=aTH t g5 IH;generalize (!t.of.any fun x=> !x.narrow)=Q at*;obtain⟨h1,h2⟩:=h1;obtain⟨o1,o2,o3,o4⟩:=aK h2;simp -implicitDefEqProofs;refine bS t.fields (fun x=> !x.narrow) [1] [0] (fun i st=>st.tmps 4= .one (.t (I i))) g3 ⟨by simp,by simp,by simp[]⟩ ?_ ?_
 ·intro i f st' hi hiI hw hg hy hany hx hk hh;simp[h1]at hk hh;obtain⟨o1,o2,o3,o4⟩:=aK (hh.1.trans h2);have hfi:=g4 f hy;have hne:¬ 0=st'.nx+5+5:=by omega
  obtain⟨a,ea⟩:∃ x,decide ((60:Int)<(f.name.size:Int))=x:=⟨_,rfl⟩;obtain⟨b,eb⟩:∃ x,decide ((3:Int)<(f.dflt.length:Int))=x:=⟨_,rfl⟩
  have e0:f.narrow=(!a&& !b&&f.ty.narrow&& !f.dflt.any fun x=> !x.few):=by
   have e1:f.dflt.all Vl.few= !f.dflt.any fun x=> !x.few:=by
    rw[List.not_any_eq_all_not];congr 1;funext x;simp
   have e3:decide (f.name.size≤60)= !a:=by rw[←ea,Bool.eq_iff_iff];simp;omega
   have e4:decide (f.dflt.length≤3)= !b:=by rw[←eb,Bool.eq_iff_iff];simp;omega
   rw[←e1,←e3,←e4];cases f;rw[Fd.narrow];rfl
  rw[e0]at hany ⊢
  have stop:(!(!a&& !b&&f.ty.narrow&& !f.dflt.any fun x=> !x.few))=true→R=false:=fun h=>by
   rw[hany h]at hR;exact hR.symm
  cases a
  ·cases b
   ·simp -implicitDefEqProofs [h1,hx,hk,hi,hiI,o1,o2,o3,aE hg,Fd.aP,-List.getElem_map,ea,eb];refine aD.tree (IHf f hy) rfl ?_;rcases bb f.ty.narrow with c | c
    ·rw[c];simp -implicitDefEqProofs;refine aTI f hfi _ _ (st'.nx+5+5) _ (by simp) (by simp[Hp.set]) (by simp<;>omega) (fun hz st2 k1 k2 k3=>?_) fun hz st2 k2=>?_
     ·simp at k1;simp -implicitDefEqProofs [k1,hk,hx,hw];refine⟨by simpa[c]using hz,?_⟩;rw[k2];simp only[Hp.set];rw[if_neg hne];exact hh.1
     ·rw[stop (by rw[hz];simp)];simp -implicitDefEqProofs [aC,k2]
    ·rw[c,stop (by rw[c];simp)];simp -implicitDefEqProofs [aC]
   ·rw[stop (by simp)];simp -implicitDefEqProofs [h1,hx,hk,hi,hiI,o1,o2,o3,aE hg,Fd.aP,-List.getElem_map,ea,eb,aC]
  ·rw[stop (by simp)];simp -implicitDefEqProofs [h1,hx,hk,hi,hiI,o1,o2,o3,aE hg,Fd.aP,-List.getElem_map,ea,aC]
 ·intro st' hany hx hk hh;simp[h1]at hk hh;obtain⟨o1,o2,o3,o4⟩:=aK (hh.1.trans h2);rw[hany]at hR;simp at hR;subst hR;simp -implicitDefEqProofs [hx,hk,o1,o2,o3];exact rest _ ⟨by simp[hk],by simp[hh,h2]⟩ (by simp<;>omega)
def Nd.big(x:Nd):Bool:=decide ((500:Int)<(x.s.size:Int))||decide ((5:Int)<(x.args.length:Int))
attribute [local simp] a1K a1L a1M a1N a1O a1P a1Q a1R a1S a1T a1U a1V a1W a1X a1Y a1Z a10 a13 a14 a15 a16 a18 a19 a4G a2b a2c c58 in
theorem aTK(t:Ty)(ht:t.fine)(IHf:∀ x∈t.fields,PSp prog 58 [.agg (tyC x.ty)] (.one (.t (.bool x.ty.narrow))))(IH:∀ x∈t.of,PSp prog 58 [.agg (tyC x)] (.one (.t (.bool x.narrow))))(R:Bool)(hR:((!t.limits.any Nd.big)&&((!t.fields.any fun x=> !x.narrow)&&(!t.of.any fun x=> !x.narrow)))=R)(st:St)(h1:TB t 1 st)(_hnx:0<st.nx):aZ prog 117 (aC [.tmp 2] (.one (.t (.bool R)))) a2b [] st:=by
 have hf:=(Ty.bG t).1 ht;obtain⟨g1,g2,g3,g4,g5,g6,g7,g8⟩:=hf;have rest:=aTJ t ht IHf IH _ rfl;generalize ((!t.fields.any fun x=> !x.narrow)&&(!t.of.any fun x=> !x.narrow))=Q at*;obtain⟨h1,h2⟩:=h1;obtain⟨o1,o2,o3,o4⟩:=aK h2;simp -implicitDefEqProofs;refine bS t.limits Nd.big [1] [0] (fun i st=>st.tmps 3= .one (.t (I i))) g7 ⟨by simp,by simp,by simp[]⟩ ?_ ?_
 ·intro i x st' hi hiI hw hg hy hany hx hk hh;simp[h1]at hk hh;obtain⟨o1,o2,o3,o4⟩:=aK (hh.1.trans h2);obtain⟨a,ea⟩:∃ y,decide ((500:Int)<(x.s.size:Int))=y:=⟨_,rfl⟩;obtain⟨b,eb⟩:∃ y,decide ((5:Int)<(x.args.length:Int))=y:=⟨_,rfl⟩;have e0:x.big=(a||b):=by rw[←ea,←eb];rfl
  rw[e0]at hany ⊢;cases a<;>cases b
  all_goals try
   rw[hany rfl]at hR;simp only[Bool.not_true,Bool.false_and]at hR;subst hR
  all_goals simp -implicitDefEqProofs [hx,hk,hi,hiI,hw,o1,o2,o3,aE hg,Nd.row,-List.getElem_map,ea,eb,h1,hh.1,aC]
 ·intro st' hany hx hk hh;simp[h1]at hk hh;obtain⟨o1,o2,o3,o4⟩:=aK (hh.1.trans h2);rw[hany]at hR;simp at hR;subst hR;simp -implicitDefEqProofs [hx,hk,o1,o2,o3];exact rest _ ⟨by simp[hk],by simp[hh,h2]⟩ (by simp<;>omega)
theorem Ty.aIQ(t:Ty)(a b c d e:Bool)(ha:decide ((60:Int)<(t.name.size:Int))=a)(hb:decide ((8:Int)<(t.tags.length:Int))=b)(hc:decide ((40:Int)<(t.fields.length:Int))=c)(hd:decide ((4:Int)<(t.of.length:Int))=d)(he:decide ((40:Int)<(t.limits.length:Int))=e):
  t.narrow=(!(a||b||c||d||e)&&((!t.limits.any Nd.big)&&((!t.fields.any fun x=> !x.narrow)&&(!t.of.any fun x=> !x.narrow)))):=by
 subst ha hb hc hd he;rw[Bool.eq_iff_iff,Ty.aU];simp only[Bool.and_eq_true,Bool.not_eq_true',Bool.or_eq_false_iff,decide_eq_false_iff_not,List.any_eq_false,Nd.big,Bool.or_eq_true,decide_eq_true_eq,not_or,Bool.not_eq_false];constructor
 ·rintro⟨h1,h2,h3,h4,h5,h6,h7,h8⟩;refine⟨⟨⟨⟨⟨by omega,by omega⟩,by omega⟩,by omega⟩,by omega⟩,fun x hx=>?_,h7,h8⟩;have:=h6 x hx;omega
 ·rintro⟨⟨⟨⟨⟨h1,h2⟩,h3⟩,h4⟩,h5⟩,h6,h7,h8⟩;refine⟨by omega,by omega,by omega,by omega,by omega,fun x hx=>?_,h7,h8⟩;have:=h6 x hx;omega
attribute [local simp] a1K a1L a1M a1N a1O a1P a1Q a1R a1S a1T a1U a1V a1W a1X a1Y a1Z a10 a13 a14 a15 a16 a18 a19 a4G a2a a2c c58 in
theorem aQJ(t:Ty)(ht:t.fine)(IHf:∀ x∈t.fields,PSp prog 58 [.agg (tyC x.ty)] (.one (.t (.bool x.ty.narrow))))(IH:∀ x∈t.of,PSp prog 58 [.agg (tyC x)] (.one (.t (.bool x.narrow)))):PSp prog 58 [.agg (tyC t)] (.one (.t (.bool t.narrow))):=by
 have rest:=aTK t ht IHf IH _ rfl;obtain⟨a,ea⟩:∃ x,decide ((60:Int)<(t.name.size:Int))=x:=⟨_,rfl⟩;obtain⟨b,eb⟩:∃ x,decide ((8:Int)<(t.tags.length:Int))=x:=⟨_,rfl⟩;obtain⟨c,ec⟩:∃ x,decide ((40:Int)<(t.fields.length:Int))=x:=⟨_,rfl⟩;obtain⟨d,ed⟩:∃ x,decide ((4:Int)<(t.of.length:Int))=x:=⟨_,rfl⟩;obtain⟨e,ee⟩:∃ x,decide ((40:Int)<(t.limits.length:Int))=x:=⟨_,rfl⟩;rw[Ty.aIQ t a b c d e ea eb ec ed ee];generalize ((!t.limits.any Nd.big)&&((!t.fields.any fun x=> !x.narrow)&&(!t.of.any fun x=> !x.narrow)))=Q at*;obtain⟨u1,m1⟩:∃ y,(a||b)=y:=⟨_,rfl⟩;obtain⟨u2,m2⟩:∃ y,(u1||c)=y:=⟨_,rfl⟩;obtain⟨u3,m3⟩:∃ y,(u2||d)=y:=⟨_,rfl⟩;obtain⟨u4,m4⟩:∃ y,(u3||e)=y:=⟨_,rfl⟩;rw[m1,m2,m3,m4];refine k58.aI (by simp) (by simp[D.closed,A.closed]) rfl ?_;simp -implicitDefEqProofs [ea,eb,ec,ed,ee,m1,m2,m3,m4,-Bool.not_or,-Bool.not_and];refine⟨fun h=>?_,fun h=>?_⟩
 ·subst h;simp -implicitDefEqProofs [aC]
 ·subst h;simp -implicitDefEqProofs;exact rest _ ⟨by simp,by simp[Hp.set]⟩ (by simp)
theorem P58:∀ t:Ty,t.fine→PSp prog 58 [.agg (tyC t)] (.one (.t (.bool t.narrow))):=
 Ty.ind fun t IHf IH ht=>by
  have h:=(Ty.bG t).1 ht;exact aQJ t ht (fun x hx=>IHf x hx ((Fd.bG x).1 (h.2.2.2.1 x hx)).2.1) fun x hx=>IH x hx (h.2.2.2.2.2.1 x hx)
def Ty.tiny(t:Ty):Bool:= !(t.sz 12 (400,false)).2&&t.narrow
attribute [local simp] c13 in
theorem P13(t:Ty)(ht:t.fine):PSp prog 13 [.agg (tyC t)] (.one (.t (.bool t.tiny))):=by
 have k57:=P57 t ht;have p58:=P58 t ht;refine k13.aI (by simp) (by simp[D.closed,A.closed]) rfl ?_;rw[Ty.tiny];simp -implicitDefEqProofs;refine aD.imp (ISp.ok fun ho=>k57 _ _ _ 12 (400,false) ho (by simp[sI,yQ])) ?_;obtain⟨⟨s1,s2⟩,hs⟩:∃ s,t.sz 12 (400,false)=s:=⟨_,rfl⟩;rw[hs];cases s2
 ·simp -implicitDefEqProofs [eC,hs,aC];refine aD.tree p58 rfl ?_;simp -implicitDefEqProofs
 ·simp -implicitDefEqProofs [eC,hs,aC]
end
section
attribute [-simp] Go.Ab.aA Go.Ab.gval
attribute [local simp] bE aM aQ aG aV aO aX tyC fdC vlC ndC aL D.cR D.pt
theorem aG9{h:Hp}{id ver sz:Nat}{t:Bool}{rs:List (List T)}(hr:h.rows id=rs.map (·.map .t)):(A.ref id ver 0 rs.length sz t).frz h aT= .rows sz rs:=by
 simp[aT,A.frz,hr,List.take_of_length_le,Function.comp_def]
theorem aCA{h:Hp}{id ver sz:Nat}{t:Bool}{rs:List (List T)}(ha:alive h id ver)(hz:h.sz id=sz)(hr:h.rows id=rs.map (·.map .t)):(A.ref id ver 0 rs.length sz t).cE h aT:=by
 refine⟨ha,hz,by simp[hr],fun r hr' x hx=>?_⟩;rw[hr]at hr';have:=List.mem_of_mem_drop (List.mem_of_mem_take hr');obtain⟨y,_,rfl⟩:=List.mem_map.1 this;obtain⟨z,_,rfl⟩:=List.mem_map.1 hx;simp
theorem nZ{h:Hp}{id ver sz n:Nat}{rs:List (List T)}(e:h id=some (.arr ver false sz (rs.map (·.map .t))))(hn:n=rs.length):(A.ref id ver 0 n sz false).cE h aT∧(A.ref id ver 0 n sz false).frz h aT= .rows sz rs:=by
 subst hn;obtain⟨o1,o2,o3,o4⟩:=aK e;exact⟨aCA o1 o3 o2,aG9 o2⟩
attribute [local simp] c111 in
theorem aX5(l:List Int)(hl:l.length≤1000000):PSp prog 111 [.one (.t (aX l))] (.one (.t (aX l))):=by
 refine k111.aI (by simp) rfl (by simp[D.closed,A.closed]) ?_;rcases l with - | ⟨a,r⟩
 ·simp -implicitDefEqProofs [aC]
 ·simp -implicitDefEqProofs [aC];exact⟨by simp at hl;omega,nZ (rs:=(a::r).map fun a=>[I a]) (by simp[Hp.set,Function.comp_def]) (by simp)⟩
attribute [local simp] c73 in
theorem P73(l:List ByteArray)(hl:l.length≤1000000):PSp prog 73 [.one (.t (aO l))] (.one (.t (aO l))):=by
 refine k73.aI (by simp) rfl (by simp[D.closed,A.closed]) ?_;rcases l with - | ⟨a,r⟩
 ·simp -implicitDefEqProofs [aC]
 ·simp -implicitDefEqProofs [aC];exact⟨by simp at hl;omega,nZ (rs:=(a::r).map fun s=>[T.str s]) (by simp[Hp.set,Function.comp_def]) (by simp)⟩
def GS(sz k:Nat)(rs:List (List T))(tm:Nat→D)(h:Hp)(nx:Nat):Prop:=(rs=[]∧tm k= .one (.tt sz []))∨(rs≠[]∧∃id ver,tm k= .one (.ref id ver 0 rs.length sz false)∧h id=some (.arr ver false sz (rs.map (·.map .t)))∧id<nx)
attribute [local simp] b6I c64 in
theorem P64(l:List Vl)(hl:l.length≤1000000)(IH:∀ x∈l,PSp prog 23 [.agg (vlC x)] (.agg (vlC x))):PSp prog 64 [.one (.t (aV l))] (.one (.t (aV l))):=by
 refine k64.aI (by simp) rfl (by simp[D.closed,A.closed]) ?_;simp -implicitDefEqProofs;refine bS l (fun _=>false) [0] [] (fun i st=>st.tmps 4= .one (.t (I i))∧GS 6 3 ((l.take i).map Vl.row) st.tmps st.heap st.nx) (by simp[short];omega) ⟨by simp[GS],by simp,by simp⟩ ?_ ?_
 ·rintro i x st hi hiI hw hg hy hany ⟨h4,hgs⟩ hk hh;simp at hk;have htk:l.take (i+1)=l.take i++[x]:=by rw[List.take_add_one,hg];rfl
  have hlen:((l.take i).map Vl.row).length=i:=by simp;omega
  have e:List.take (i+1) (List.map Vl.row l)=(l.take i).map Vl.row++[x.row]:=by rw[←List.map_take,htk];simp
  rcases hgs with⟨g1,g2⟩ | ⟨g1,id,ver,g2,g3,g4⟩
  ·simp -implicitDefEqProofs [h4,hk,hi,hiI,aE hg,Vl.aP,-List.getElem_map];refine aD.tree (IH x hy) rfl ?_;simp -implicitDefEqProofs [h4,hk,g2,hw];rw[e,g1];refine .inr ⟨by simp,st.nx+4+7,0,?_,?_,?_⟩
   ·simp
   ·simp[Hp.set,Vl.aP]
   ·omega
  ·obtain⟨p1,p2,p3,p4⟩:=aK g3;simp -implicitDefEqProofs [h4,hk,hi,hiI,aE hg,Vl.aP,-List.getElem_map];refine aD.tree (IH x hy) rfl ?_;simp -implicitDefEqProofs [h4,hk,g2,hw,p1,p2,p3,p4];refine⟨by omega,?_⟩;rw[e];refine .inr ⟨by simp,id,ver+1,?_,?_,?_⟩
   ·simp
   ·simp[Hp.set,Vl.aP]
   ·omega
 ·rintro st hany ⟨h4,hgs⟩ hk hh;simp at hk;rw[List.take_length]at hgs;rcases hgs with⟨g1,g2⟩ | ⟨g1,id,ver,g2,g3,g4⟩
  ·have hl0:l=[]:=by simpa using g1
   subst hl0;simp -implicitDefEqProofs [h4,hk,g2,aC]
  ·simp -implicitDefEqProofs [h4,hk,g2,aC];obtain⟨p1,p2,p3,p4⟩:=aK g3;exact nZ g3 (by simp)
attribute [local simp] c23 in
theorem aQK(v:Vl)(h1:v.names.length≤1000000)(h2:v.items.length≤1000000)(IH:∀ x∈v.items,PSp prog 23 [.agg (vlC x)] (.agg (vlC x))):PSp prog 23 [.agg (vlC v)] (.agg (vlC v)):=by
 have p73:=P73 v.names h1;have p64:=P64 v.items h2 IH;refine k23.aI (by simp) (by simp[D.closed,A.closed]) (by simp[D.closed,A.closed]) ?_;simp -implicitDefEqProofs;refine aD.bN p73 rfl ?_;simp -implicitDefEqProofs;refine aD.bN p64 rfl ?_;simp -implicitDefEqProofs [aC]
theorem P23:∀ v:Vl,v.slim=true→PSp prog 23 [.agg (vlC v)] (.agg (vlC v)):=
 Vl.ind fun v IH hv=>by
  obtain⟨h1,h2,h3,h4,h5⟩:=(Vl.aDU v).1 hv;exact aQK v (by omega) (by omega) fun x hx=>IH x hx (h5 x hx)
theorem Nd.aP(x:Nd):x.row=[I x.k,I x.lo,I x.hi,.str x.s,.rows 1 (x.args.map fun a=>[I a])]:=rfl
attribute [local simp] b6K c66 in
theorem P66(l:List Nd)(hl:l.length≤1000000)(ha:∀ x∈l,x.args.length≤1000000):PSp prog 66 [.one (.t (aG l))] (.one (.t (aG l))):=by
 refine k66.aI (by simp) rfl (by simp[D.closed,A.closed]) ?_;simp -implicitDefEqProofs;refine bS l (fun _=>false) [0] [] (fun i st=>st.tmps 4= .one (.t (I i))∧GS 5 3 ((l.take i).map Nd.row) st.tmps st.heap st.nx) (by simp[short];omega) ⟨by simp[GS],by simp,by simp⟩ ?_ ?_
 ·rintro i x st hi hiI hw hg hy hany ⟨h4,hgs⟩ hk hh;simp at hk;have htk:l.take (i+1)=l.take i++[x]:=by rw[List.take_add_one,hg];rfl
  have hlen:((l.take i).map Nd.row).length=i:=by simp;omega
  have e:List.take (i+1) (List.map Nd.row l)=(l.take i).map Nd.row++[x.row]:=by rw[←List.map_take,htk];simp
  have aTL:=aX5 x.args (ha x hy);rcases hgs with⟨g1,g2⟩ | ⟨g1,id,ver,g2,g3,g4⟩
  ·simp -implicitDefEqProofs [h4,hk,hi,hiI,aE hg,Nd.aP,-List.getElem_map];refine aD.tree aTL rfl ?_;simp -implicitDefEqProofs [h4,hk,g2,hw];rw[e,g1];refine .inr ⟨by simp,_,_,rfl,?_,?_⟩
   ·simp[Hp.set,Nd.aP]
   ·omega
  ·obtain⟨p1,p2,p3,p4⟩:=aK g3;have hne:¬ id=st.nx+4+4:=by omega
   simp -implicitDefEqProofs [h4,hk,hi,hiI,aE hg,Nd.aP,-List.getElem_map];refine aD.tree aTL rfl ?_;simp -implicitDefEqProofs [h4,hk,g2,hw,p1,p2,p3,p4,hne];refine⟨by omega,?_⟩;rw[e];refine .inr ⟨by simp,id,ver+1,?_,?_,?_⟩
   ·simp
   ·simp[Hp.set,Nd.aP]
   ·omega
 ·rintro st hany ⟨h4,hgs⟩ hk hh;simp at hk;rw[List.take_length]at hgs;rcases hgs with⟨g1,g2⟩ | ⟨g1,id,ver,g2,g3,g4⟩
  ·have hl0:l=[]:=by simpa using g1
   subst hl0;simp -implicitDefEqProofs [h4,hk,g2,aC]
  ·simp -implicitDefEqProofs [h4,hk,g2,aC];exact nZ g3 (by simp)
attribute [local simp] b6J c65 in
theorem P65(l:List Ty)(hl:l.length≤1000000)(IH:∀ x∈l,PSp prog 15 [.agg (tyC x)] (.agg (tyC x))):PSp prog 65 [.one (.t (aQ l))] (.one (.t (aQ l))):=by
 refine k65.aI (by simp) rfl (by simp[D.closed,A.closed]) ?_;simp -implicitDefEqProofs;refine bS l (fun _=>false) [0] [] (fun i st=>st.tmps 4= .one (.t (I i))∧GS 8 3 ((l.take i).map Ty.row) st.tmps st.heap st.nx) (by simp[short];omega) ⟨by simp[GS],by simp,by simp⟩ ?_ ?_
 ·rintro i x st hi hiI hw hg hy hany ⟨h4,hgs⟩ hk hh;simp at hk;have htk:l.take (i+1)=l.take i++[x]:=by rw[List.take_add_one,hg];rfl
  have hlen:((l.take i).map Ty.row).length=i:=by simp;omega
  have e:List.take (i+1) (List.map Ty.row l)=(l.take i).map Ty.row++[x.row]:=by rw[←List.map_take,htk];simp
  rcases hgs with⟨g1,g2⟩ | ⟨g1,id,ver,g2,g3,g4⟩
  ·simp -implicitDefEqProofs [h4,hk,hi,hiI,aE hg,Ty.aP,-List.getElem_map];refine aD.tree (IH x hy) rfl ?_;simp -implicitDefEqProofs [h4,hk,g2,hw];rw[e,g1];refine .inr ⟨by simp,_,_,rfl,?_,?_⟩
   ·simp[Hp.set,Ty.aP]
   ·omega
  ·obtain⟨p1,p2,p3,p4⟩:=aK g3;simp -implicitDefEqProofs [h4,hk,hi,hiI,aE hg,Ty.aP,-List.getElem_map];refine aD.tree (IH x hy) rfl ?_;simp -implicitDefEqProofs [h4,hk,g2,hw,p1,p2,p3,p4];refine⟨by omega,?_⟩;rw[e];refine .inr ⟨by simp,id,ver+1,?_,?_,?_⟩
   ·simp
   ·simp[Hp.set,Ty.aP]
   ·omega
 ·rintro st hany ⟨h4,hgs⟩ hk hh;simp at hk;rw[List.take_length]at hgs;rcases hgs with⟨g1,g2⟩ | ⟨g1,id,ver,g2,g3,g4⟩
  ·have hl0:l=[]:=by simpa using g1
   subst hl0;simp -implicitDefEqProofs [h4,hk,g2,aC]
  ·simp -implicitDefEqProofs [h4,hk,g2,aC];exact nZ g3 (by simp)
end
section
attribute [-simp] Go.Ab.aA Go.Ab.gval
attribute [local simp] bE aM aQ aG aV aO aX tyC fdC vlC ndC aL D.cR D.pt
def CS(sz:Nat)(a:A)(rs:List (List T))(h:Hp)(nx:Nat):Prop:=(rs=[]∧a= .tt sz [])∨(rs≠[]∧∃id ver,a= .ref id ver 0 rs.length sz false∧h id=some (.arr ver false sz (rs.map (·.map .t)))∧id<nx∧5<id)
def kU:A→Nat
 | .ref id _ _ _ _ _=>id
 | _=>0
structure OS (t:Ty) (tA fA:A) (done:List (List T)) (h:Hp) (nx:Nat):Prop where
 src:h 0=some (.arr 0 false 8 [tyC t])
 res:h 1=some (.arr 0 false 8 [[.t (I 0),.t (.str (bs [])),.tt 3 [],.tt 13 [],.t (.bool false),.t (I 0),.tt 8 [],.tt 5 []]])
 cop:h 3=some (.arr 0 false 8 [[.t (I t.kind),.t (.str t.name),tA,fA,.t (.bool t.opn),.t (I t.root),.t (aQ t.of),.t (aG t.limits)]])
 tag:CS 3 tA (t.tags.map Tg.row) h nx
 fld:CS 13 fA done h nx
 dif:kU tA=kU fA→kU tA=0
 lt:5<nx
theorem CS.keep{sz:Nat}{a:A}{rs:List (List T)}{h h':Hp}{nx nx':Nat}(hc:CS sz a rs h nx)(hh:kU a≠0→h' (kU a)=h (kU a))(hn:nx≤nx'):CS sz a rs h' nx':=by
 rcases hc with⟨g1,g2⟩ | ⟨g1,id,ver,g2,g3,g4,g5⟩
 ·exact .inl ⟨g1,g2⟩
 ·subst g2;exact .inr ⟨g1,id,ver,rfl,by rw[←g3];exact hh (by simp[kU];omega),by omega,g5⟩
theorem CS.ref{sz:Nat}{a:A}{rs:List (List T)}{h:Hp}{nx:Nat}(hc:CS sz a rs h nx):kU a=0∨5<kU a∧kU a<nx:=by
 rcases hc with⟨g1,g2⟩ | ⟨g1,id,ver,g2,g3,g4,g5⟩
 ·left;rw[g2];rfl
 ·right;rw[g2];exact⟨g5,g4⟩
theorem CS.frz{sz:Nat}{a:A}{rs:List (List T)}{h:Hp}{nx:Nat}(hc:CS sz a rs h nx):a.cE h aT∧a.frz h aT= .rows sz rs:=by
 rcases hc with⟨g1,g2⟩ | ⟨g1,id,ver,g2,g3,g4,g5⟩
 ·subst g1 g2;simp[aT]
 ·subst g2;exact nZ g3 rfl
attribute [local simp] a9y a9z a9A a9B a9C a9D a9E c15 in
theorem aTM(t:Ty)(hn:t.narrow=true)(IHf:∀ f∈t.fields,PSp prog 15 [.agg (tyC f.ty)] (.agg (tyC f.ty)))(p65:PSp prog 65 [.one (.t (aQ t.of))] (.one (.t (aQ t.of))))(p66:PSp prog 66 [.one (.t (aG t.limits))] (.one (.t (aG t.limits))))
  (p64:∀ f∈t.fields,PSp prog 64 [.one (.t (aV f.dflt))] (.one (.t (aV f.dflt)))) (tA fA:A) (st:St) (h1:st.tmps 1= .one (.ptr ⟨0,0,8,0,0⟩)) (h2:st.tmps 2= .one (.ptr ⟨1,0,8,0,0⟩)) (h3:st.tmps 3= .one (.ptr ⟨3,0,8,0,0⟩)) (hs:OS t tA fA [] st.heap st.nx):
  aZ prog 48 (aC [.cell 2 8 true] (.agg (tyC t))) a9B [] st:=by
 have hnr:=(Ty.aU t).1 hn;have hle:=hnr.2.2.1;simp -implicitDefEqProofs;refine bS t.fields (fun _=>false) [1,2,3] [] (fun i st=>st.tmps 4= .one (.t (I i))∧∃tA fA,OS t tA fA ((t.fields.take i).map Fd.row) st.heap st.nx) (by simp[short];omega) ⟨⟨by simp,tA,fA,?_⟩,by simp,by simp⟩ ?_ ?_
 ·have lt:=hs.lt;exact⟨hs.src,hs.res,hs.cop,hs.tag.keep (fun _=>rfl) (by simp),hs.fld.keep (fun _=>rfl) (by simp),hs.dif,by simp;omega⟩
 ·rintro i f st hi hiI hw hg hy hany ⟨h4,tA,fA,hs⟩ hk hh;simp[h1,h2,h3]at hk;obtain⟨o1,o2,o3,o4⟩:=aK hs.src;obtain⟨p1,p2,p3,p4⟩:=aK hs.cop;have hne0:¬ 0=st.nx+5+5:=by omega
  have hne3:¬ 3=st.nx+5+5:=by have:=hs.lt;omega
  simp -implicitDefEqProofs [h4,hk,hi,hiI,o1,o2,o3,aE hg,Fd.aP,-List.getElem_map];refine aD.bN (IHf f hy) rfl ?_;simp -implicitDefEqProofs;refine aD.bN (p64 f hy) rfl ?_
  have e:List.take (i+1) (List.map Fd.row t.fields)=(t.fields.take i).map Fd.row++[f.row]:=by
   rw[←List.map_take,List.take_add_one,hg];simp
  have hlen:((t.fields.take i).map Fd.row).length=i:=by simp;omega
  have lt:=hs.lt;rcases hs.fld with⟨d1,d2⟩ | ⟨d1,id,ver,d2,d3,d4,d5⟩
  ·subst d2;have hnew:¬ 3=st.nx+5+7+10+4:=by omega
   simp -implicitDefEqProofs [h4,hk,hw,p1,p2,p3,p4];rw[e,d1];have tr:=hs.tag.ref;refine⟨⟨tA,.ref (st.nx+5+7+10+4) 0 0 1 13 false,?_,?_,?_,?_,?_,?_,by omega⟩,h1.symm,h2.symm,h3.symm⟩
   ·simp only[Hp.set];rw[if_neg (by omega),if_neg (by omega),if_neg (by omega)];exact hs.src
   ·simp only[Hp.set];rw[if_neg (by omega),if_neg (by omega),if_neg (by omega)];exact hs.res
   ·simp[Hp.set]
   ·refine hs.tag.keep (fun hz=>?_) (by omega);simp only[Hp.set];rw[if_neg (by omega),if_neg (by omega),if_neg (by omega)]
   ·refine .inr ⟨by simp,_,0,rfl,?_,by omega,by omega⟩;simp only[Hp.set];rw[if_neg (by omega)];simp[Fd.aP]
   ·show kU tA=st.nx+5+7+10+4→kU tA=0;omega
  ·subst d2;obtain⟨q1,q2,q3,q4⟩:=aK d3;have aX6:¬ 3=id:=by omega
   have hidn:¬ id=st.nx+5+5:=by omega
   simp -implicitDefEqProofs [h4,hk,hw,p1,p2,p3,p4,q1,q2,q3,q4,aX6,hidn];rw[e];have tr:=hs.tag.ref;have df:kU tA=id→kU tA=0:=hs.dif;refine⟨by omega,⟨tA,.ref id (ver+1) 0 (min i t.fields.length+1) 13 false,?_,?_,?_,?_,?_,?_,by omega⟩,h1.symm,h2.symm,h3.symm⟩
   ·simp only[Hp.set];rw[if_neg (by omega),if_neg (by omega),if_neg (by omega)];exact hs.src
   ·simp only[Hp.set];rw[if_neg (by omega),if_neg (by omega),if_neg (by omega)];exact hs.res
   ·simp[Hp.set]
   ·refine hs.tag.keep (fun hz=>?_) (by omega);have:kU tA≠id:=fun q=>hz (df q)
    simp only[Hp.set];rw[if_neg (by omega),if_neg this,if_neg (by omega)]
   ·refine .inr ⟨by simp,id,ver+1,by simp,?_,by omega,by omega⟩;simp only[Hp.set];rw[if_neg (by omega)];simp[Fd.aP]
   ·exact df
 ·rintro st hany ⟨h4,tA,fA,hs⟩ hk hh;simp[h1,h2,h3]at hk;rw[List.take_length]at hs;obtain⟨o1,o2,o3,o4⟩:=aK hs.src;obtain⟨p1,p2,p3,p4⟩:=aK hs.cop;obtain⟨r1,r2,r3,r4⟩:=aK hs.res;simp -implicitDefEqProofs [h4,hk,o1,o2,o3];refine aD.tree p65 rfl ?_;simp -implicitDefEqProofs [hk,p1,p2,p3,p4,o1,o2,o3];refine aD.tree p66 rfl ?_;simp -implicitDefEqProofs [hk,r1,r2,r3,r4];have tr:=hs.tag.ref;have fr:=hs.fld.ref;refine⟨⟨?_,?_⟩,?_⟩
  ·rcases hs.tag with⟨_,g⟩ | ⟨_,id,ver,g,_⟩<;>rw[g]
  ·rcases hs.fld with⟨_,g⟩ | ⟨_,id,ver,g,_⟩<;>rw[g]
  have kt:∀ o1 o2,CS 3 tA (t.tags.map Tg.row) ((st.heap.set 3 o1).set 1 o2) st.nx:=fun o1 o2=>hs.tag.keep (fun hz=>by simp only[Hp.set];rw[if_neg (by omega),if_neg (by omega)]) (Nat.le_refl _)
  have kf:∀ o1 o2,CS 13 fA (t.fields.map Fd.row) ((st.heap.set 3 o1).set 1 o2) st.nx:=fun o1 o2=>hs.fld.keep (fun hz=>by simp only[Hp.set];rw[if_neg (by omega),if_neg (by omega)]) (Nat.le_refl _)
  simp -implicitDefEqProofs [aC,hk];exact⟨⟨(kt _ _).frz.1,(kf _ _).frz.1⟩,(kt _ _).frz.2,(kf _ _).frz.2⟩
attribute [local simp] a9y a9z a9A a9C a9D a9E c15 in
theorem aQL(t:Ty)(hn:t.narrow=true)(IHf:∀ f∈t.fields,PSp prog 15 [.agg (tyC f.ty)] (.agg (tyC f.ty)))(IH:∀ x∈t.of,PSp prog 15 [.agg (tyC x)] (.agg (tyC x))):PSp prog 15 [.agg (tyC t)] (.agg (tyC t)):=by
 have hnr:=(Ty.aU t).1 hn;have p65:=P65 t.of (by omega) IH;have p66:=P66 t.limits (by omega) (fun x hx=>by have:=hnr.2.2.2.2.2.1 x hx;omega)
 have p64:∀ f∈t.fields,PSp prog 64 [.one (.t (aV f.dflt))] (.one (.t (aV f.dflt))):=fun f hf=>by
  have hf':=(Fd.aU _).1 (hnr.2.2.2.2.2.2.1 _ hf);exact P64 f.dflt (by omega) fun x hx=>P23 x (Vl.xC (hf'.2.2.2 x hx))
 have rest:=aTM t hn IHf p65 p66 p64;refine k15.aI (by simp) (by simp[D.closed,A.closed]) (by simp[D.closed,A.closed]) ?_;rcases ht:t.tags with - | ⟨g,r⟩
 ·simp only[tyC,ht,bE,aM,aQ,aG]at rest;simp -implicitDefEqProofs [ht];refine rest (.tt 3 []) (.tt 13 []) _ ?_ ?_ ?_ ?_
  ·simp
  ·simp
  ·simp
  ·exact⟨by simp[Hp.set,ht],by simp[Hp.set],by simp[Hp.set],.inl ⟨by simp[ht],rfl⟩,.inl ⟨rfl,rfl⟩,fun _=>rfl,by simp⟩
 ·simp only[tyC,ht,bE,aM,aQ,aG]at rest;simp -implicitDefEqProofs [ht];refine⟨by have:=hnr.2.1;rw[ht]at this;simp at this;omega,?_⟩;refine rest (.ref 8 0 0 (r.length+1) 3 false) (.tt 13 []) _ ?_ ?_ ?_ ?_
  ·simp
  ·simp
  ·simp
  ·exact⟨by simp[Hp.set,ht],by simp[Hp.set],by simp[Hp.set],.inr ⟨by simp[ht],8,0,by simp[ht],by simp[Hp.set,ht,Function.comp_def],by simp,by omega⟩,.inl ⟨rfl,rfl⟩,fun h=>by simp[kU]at h,by simp⟩
theorem P15:∀ t:Ty,t.narrow=true→PSp prog 15 [.agg (tyC t)] (.agg (tyC t)):=
 Ty.ind fun t IHf IH hn=>by
  have h:=(Ty.aU t).1 hn;exact aQL t hn (fun x hx=>IHf x hx ((Fd.aU x).1 (h.2.2.2.2.2.2.1 x hx)).2.2.1) fun x hx=>IH x hx (h.2.2.2.2.2.2.2 x hx)
end
section
attribute [-simp] Go.Ab.aA Go.Ab.gval
attribute [local simp] bE aM aQ aG aV aO aX tyC fdC vlC ndC aL D.cR D.pt
structure CK (t:Ty) (ab:List Int) (id sid ver:Nat) (h:Hp):Prop where
 obj:h id=some (.arr 0 false 9 [tyC t++[.ref sid ver 0 ab.length 1 true]])
 abs:h sid=some (.arr ver false 1 (ab.map fun a=>[.t (I a)]))
 len:ab.length=t.limits.length
def dI(tk k a:Int):Bool:=if k==0 then a==0||a==3||a==4 else if k==1 then a==1||a==4 else if k==2 then a==1||a==2 else if k==3 then a==1&&tk==6 else true
theorem fW{α:Type}{l:List α}{g:α→List A}{i:Nat}{y:α}(h:l[i]? =some y):∀ hh,(l.map g)[i]'hh=g y:=fun hh=>by
 rw[List.getElem_map];congr 1;have:=gS9.1 h;exact this.2
attribute [local simp] c108 in
theorem aX7(t:Ty)(ab:List Int)(id sid ver:Nat)(h:Hp)(hc:CK t ab id sid ver h)(i:Nat)(x:Nd)(a:Int)(hx:t.limits[i]? =some x)(ha:ab[i]? =some a)(n:Nat):
  ISp prog 108 h n [.one (.ptr ⟨id,0,9,0,0⟩),.one (.t (I i))] (.one (.t (.bool (dI t.kind x.k a)))) h:=by
 obtain⟨R0,hR0⟩:∃ R,dI t.kind x.k a=R:=⟨_,rfl⟩;rw[hR0];refine ISp.ok fun ho=>?_
 have h1:=fZ ho hc.obj;have h2:=fZ ho hc.abs;refine k108.gQ (by simp) ?_;obtain⟨o1,o2,o3,o4⟩:=aK hc.obj;obtain⟨p1,p2,p3,p4⟩:=aK hc.abs;obtain⟨hi,_⟩:=gS9.1 hx;have hiI:(i:Int)<(t.limits.length:Int):=by omega
 have hia:i<ab.length:=by rw[hc.len];exact hi
 have pD:(i:Int)<(ab.length:Int):=by omega
 obtain⟨a0,e0⟩:∃ y,(a==0)=y:=⟨_,rfl⟩;obtain⟨a1,e1⟩:∃ y,(a==1)=y:=⟨_,rfl⟩;obtain⟨a2,e2⟩:∃ y,(a==2)=y:=⟨_,rfl⟩;obtain⟨a3,e3⟩:∃ y,(a==3)=y:=⟨_,rfl⟩;obtain⟨a4,e4⟩:∃ y,(a==4)=y:=⟨_,rfl⟩
 have fin:∀ (R:Bool) (st:St),dI t.kind x.k a=R→st.tmps 4= .one (.t (.bool R))→st.heap=h→gF [.tmp 4] (.one (.t (.bool R0))) h n .ret st:=fun R st hR hs hh=>by
  rw[←hR0,hR];exact dQ (.inr rfl) hs (fun j hj=>by rw[hh]) ho
 rcases eqCases x.k 0 with q0 | q0
 ·cases a0<;>cases a3<;>cases a4
  all_goals simp -implicitDefEqProofs [o1,o2,o3,p1,p2,p3,hi,hiI,hia,pD,fW ha,aE hx,Nd.row,q0,e0,e3,e4,-List.getElem_map]
  all_goals
   refine fin _ _ ?_ (by exact rfl) (by exact rfl);simp[dI,q0,e0,e3,e4]
 ·rcases eqCases x.k 1 with q1 | q1
  ·cases a1<;>cases a4
   all_goals simp -implicitDefEqProofs [o1,o2,o3,p1,p2,p3,hi,hiI,hia,pD,fW ha,aE hx,Nd.row,q1,e1,e4,-List.getElem_map]
   all_goals
    refine fin _ _ ?_ (by exact rfl) (by exact rfl);simp[dI,q1,e1,e4]
  ·rcases eqCases x.k 2 with q2 | q2
   ·cases a1<;>cases a2
    all_goals simp -implicitDefEqProofs [o1,o2,o3,p1,p2,p3,hi,hiI,hia,pD,fW ha,aE hx,Nd.row,q2,e1,e2,-List.getElem_map]
    all_goals
     refine fin _ _ ?_ (by exact rfl) (by exact rfl);simp[dI,q2,e1,e2]
   ·rcases eqCases x.k 3 with q3 | q3
    ·obtain⟨w,ew⟩:∃ w,(t.kind==6)=w:=⟨_,rfl⟩;cases a1<;>cases w
     all_goals simp -implicitDefEqProofs [o1,o2,o3,p1,p2,p3,hi,hiI,hia,pD,fW ha,aE hx,Nd.row,q3,e1,ew,-List.getElem_map]
     all_goals
      refine fin _ _ ?_ (by exact rfl) (by exact rfl);simp[dI,q3,e1,ew]
    ·simp -implicitDefEqProofs [o1,o2,o3,p1,p2,p3,hi,hiI,hia,pD,fW ha,aE hx,Nd.row,q0,q1,q2,q3,-List.getElem_map];refine fin _ _ ?_ (by exact rfl) (by exact rfl);simp[dI,q0,q1,q2,q3]
end
structure xI (bg:List Nat) (i:Nat) (args:List Int):Prop where
 le:bg.getD i 0≤i
 cover:∀ j,bg.getD i 0≤j→j<i→∃a:Nat,(a:Int)∈args∧bg.getD a 0≤j∧j≤a
 arg:∀ a∈args,∃c:Nat,a=(c:Int)∧c<i∧bg.getD i 0≤bg.getD c 0
 apart:args.Pairwise fun a b=>a<(bg.getD b.toNat 0:Int)
theorem aAO(bg:List Nat)(hb:∀ j,bg.getD j 0≤j):∀ (r:List Int) (n m:Nat),gK bg r n=some m→
  m≤n∧(∀j,m≤j→j<n→∃a:Nat,(a:Int)∈r∧bg.getD a 0≤j∧j≤a)∧(∀a∈r,∃c:Nat,a=(c:Int)∧c<n∧m≤bg.getD c 0)∧r.Pairwise fun a b=>b<(bg.getD a.toNat 0:Int)
 | [],n,m,h=>by
  simp only[gK,sI9]at h;subst h;exact⟨Nat.le_refl _,fun j h1 h2=>by omega,by simp,by simp⟩
 | a::r,n,m,h=>by
  rw[gK]at h;split at h
  ·exact absurd h (by simp)
  ·rename_i hc;have h0:¬ n=0:=fun e=>hc (.inl e)
   have ha:a=(n:Int) - 1:=Classical.byContradiction fun e=>hc (.inr e)
   obtain⟨i1,i2,i3,i4⟩:=aAO bg hb r _ m h;have hn:=hb (n - 1);have hac:a=((n - 1:Nat):Int):=by omega
   refine⟨by omega,fun j h1 h2=>?_,fun x hx=>?_,?_⟩
   ·by_cases hj:bg.getD (n - 1) 0≤j
    ·exact⟨n - 1,by rw[hac];simp,hj,by omega⟩
    ·obtain⟨c,c1,c2,c3⟩:=i2 j h1 (by omega);exact⟨c,List.mem_cons_of_mem _ c1,c2,c3⟩
   ·rcases List.mem_cons.1 hx with e | e
    ·exact⟨n - 1,by rw[e];exact hac,by omega,i1⟩
    ·obtain⟨c,c1,c2,c3⟩:=i3 x e;exact⟨c,c1,by omega,c3⟩
   ·refine List.pairwise_cons.2 ⟨fun x hx=>?_,i4⟩;obtain⟨c,c1,c2,c3⟩:=i3 x hx;rw[hac,c1];have:((n - 1:Nat):Int).toNat=n - 1:=by simp
    rw[this];omega
theorem aIR{α:Type}(l:List α)(x:α)(d:α)(i:Nat)(h:i<l.length):(l++[x]).getD i d=l.getD i d:=by
 simp only[List.getD_eq_getElem?_getD,List.getElem?_append_left h]
theorem aIS{α:Type}(l:List α)(x:α)(d:α):(l++[x]).getD l.length d=x:=by
 simp[List.getD_eq_getElem?_getD]
theorem uW:∀ (r p:List Nd) (bg out:List Nat),bg.length=p.length→(∀j,bg.getD j 0≤j)→(∀i x,p[i]? =some x→xI bg i x.args)→cP r bg=some out→
  out.length=(p++r).length∧(∀j,out.getD j 0≤j)∧∀i x,(p++r)[i]? =some x→xI out i x.args
 | [],p,bg,out,hl,hb,hp,h=>by
  simp only[cP,sI9]at h;subst h;simp only[List.append_nil];exact⟨hl,hb,hp⟩
 | x::r,p,bg,out,hl,hb,hp,h=>by
  rw[cP]at h;split at h
  ·split at h
   ·exact absurd h (by simp)
   ·rename_i hx n hn;obtain⟨b1,b2,b3,b4⟩:=aAO bg hb _ _ _ hn;have hout:(bg++[n]).length=(p++[x]).length:=by simp[hl]
    have old:∀ j,j<bg.length→(bg++[n]).getD j 0=bg.getD j 0:=fun j hj=>aIR bg n 0 j hj
    have new:(bg++[n]).getD bg.length 0=n:=aIS bg n 0
    have hbn:∀ j,(bg++[n]).getD j 0≤j:=fun j=>by
     rcases Nat.lt_trichotomy j bg.length with q | q | q
     ·rw[old j q];exact hb j
     ·rw[q,new];omega
     ·have:(bg++[n]).getD j 0=0:=by
       simp only[List.getD_eq_getElem?_getD];rw[List.getElem?_eq_none (by simp;omega)];rfl
      omega
    have:=uW r (p++[x]) (bg++[n]) out hout hbn ?_ h
    ·simpa[List.append_assoc]using this
    ·intro i y hy
     by_cases hi:i<p.length
     ·rw[List.getElem?_append_left hi]at hy;obtain⟨q1,q2,q3,q4⟩:=hp i y hy;have ei:=old i (by omega);refine⟨by rw[ei];exact q1,fun j j1 j2=>?_,fun a ha=>?_,?_⟩
      ·rw[ei]at j1;obtain⟨c,c1,c2,c3⟩:=q2 j j1 j2;obtain⟨c',d1,d2,d3⟩:=q3 c c1;exact⟨c,c1,by rw[old c (by omega)];exact c2,c3⟩
      ·obtain⟨c',d1,d2,d3⟩:=q3 a ha;exact⟨c',d1,d2,by rw[ei,old c' (by omega)];exact d3⟩
      ·refine List.Pairwise.imp_of_mem ?_ q4;intro a b ha hbm hab;obtain⟨c',d1,d2,d3⟩:=q3 b hbm;have:b.toNat=c':=by omega
       rw[this]at hab ⊢;rw[old c' (by omega)];exact hab
     ·have hi2:i=p.length:=by
       have:=(gS9.1 hy).1;simp at this;omega
      subst hi2;have:y=x:=by simpa using hy.symm
      subst this;have en:(bg++[n]).getD p.length 0=n:=by rw[←hl];exact new
      refine⟨by rw[en];omega,fun j j1 j2=>?_,fun a ha=>?_,?_⟩
      ·rw[en]at j1;obtain⟨c,c1,c2,c3⟩:=b2 j j1 (by omega);obtain⟨c',d1,d2,d3⟩:=b3 c c1;exact⟨c,by simpa using c1,by rw[old c (by omega)];exact c2,c3⟩
      ·obtain⟨c',d1,d2,d3⟩:=b3 a (by simpa using ha);exact⟨c',d1,by omega,by rw[en,old c' (by omega)];exact d3⟩
      ·have:=List.pairwise_reverse.1 b4;refine List.Pairwise.imp_of_mem ?_ this;intro a b ha hbm hab;obtain⟨c',d1,d2,d3⟩:=b3 b (by simpa using hbm);have:b.toNat=c':=by omega
       rw[this]at hab ⊢;rw[old c' (by omega)];exact hab
  ·exact absurd h (by simp)
structure dM (l:List Nd) (bg:List Nat):Prop where
 node:∀ i x,l[i]? =some x→xI bg i x.args
 root:bg.getD (l.length - 1) 0=0
theorem bX{l:List Nd}(h:bC l=true):l.length≤20∧∃bg,dM l bg:=by
 simp only[bC,Bool.and_eq_true,decide_eq_true_eq]at h;refine⟨h.1,?_⟩;obtain⟨_,h⟩:=h;split at h
 ·exact absurd h (by simp)
 ·rename_i bg hbg;obtain⟨_,_,h3⟩:=uW l [] [] bg rfl (by simp) (by simp) hbg;rw[decide_eq_true_eq]at h;rcases h with h | h
  ·have:l=[]:=List.length_eq_zero_iff.1 h;subst this;exact⟨[],by simp,by simp⟩
  ·exact⟨bg,by simpa using h3,h⟩
theorem dM.nest{l:List Nd}{bg:List Nat}(h:dM l bg):∀ (i:Nat) (x:Nd),l[i]? =some x→∀p,bg.getD i 0≤p→p≤i→bg.getD i 0≤bg.getD p 0:=by
 intro i
 induction i using Nat.strongRecOn with
 | _ i ih=>
  intro x hx p h1 h2;rcases Nat.lt_or_eq_of_le h2 with q | q
  ·obtain⟨c,c1,c2,c3⟩:=(h.node i x hx).cover p h1 q;obtain⟨c',d1,d2,d3⟩:=(h.node i x hx).arg c c1;have e:c'=c:=by omega
   subst e;have hlt:=(gS9.1 hx).1;have hc:l[c']? =some (l[c']'(by omega)):=gE9 _;exact Nat.le_trans d3 (ih c' d2 _ hc p c2 c3)
  ·subst q;exact Nat.le_refl _
theorem dM.parent{l:List Nd}{bg:List Nat}(h:dM l bg):∀ (i:Nat) (x:Nd),l[i]? =some x→∀j,bg.getD i 0≤j→j<i→∃p y,p≤i∧j<p∧l[p]? =some y∧(j:Int)∈y.args:=by
 intro i
 induction i using Nat.strongRecOn with
 | _ i ih=>
  intro x hx j h1 h2;obtain⟨c,c1,c2,c3⟩:=(h.node i x hx).cover j h1 h2;obtain⟨c',d1,d2,d3⟩:=(h.node i x hx).arg c c1;have e:c'=c:=by omega
  subst e;rcases Nat.lt_or_eq_of_le c3 with q | q
  ·have hlt:=(gS9.1 hx).1;have hc:l[c']? =some (l[c']'(by omega)):=gE9 _;obtain⟨p,y,e1,e2,e3,e4⟩:=ih c' d2 _ hc j c2 q;exact⟨p,y,by omega,e2,e3,e4⟩
  ·subst q;exact⟨i,x,Nat.le_refl _,h2,hx,c1⟩
theorem aL7{bg:List Nat}{args:List Int}(h:args.Pairwise fun a b=>a<(bg.getD b.toNat 0:Int))(c d:Nat)(hc:(c:Int)∈args)(hd:(d:Int)∈args)(hne:c≠d):c<bg.getD d 0∨d<bg.getD c 0:=by
 induction h with
 | nil=>cases hc
 | cons h1 _ ih=>
  rcases List.mem_cons.1 hc with e | e<;>rcases List.mem_cons.1 hd with f | f
  ·omega
  ·left;have:=h1 _ f;rw[←e]at this;have t:((d:Nat):Int).toNat=d:=by simp
   rw[t]at this;omega
  ·right;have:=h1 _ e;rw[←f]at this;have t:((c:Nat):Int).toNat=c:=by simp
   rw[t]at this;omega
  ·exact ih e f
theorem dM.only{l:List Nd}{bg:List Nat}(h:dM l bg){p q:Nat}{x y:Nd}(hp:l[p]? =some x)(hq:l[q]? =some y){c:Nat}(hcx:(c:Int)∈x.args)(hcy:(c:Int)∈y.args):¬ p<q:=by
 intro hpq;obtain⟨c1,d1,d2,d3⟩:=(h.node p x hp).arg c hcx;obtain⟨c2,e1,e2,e3⟩:=(h.node q y hq).arg c hcy;have:c1=c:=by omega
 subst this;have:c2=c1:=by omega
 subst this;have hlt:=(gS9.1 hq).1;have hlc:l[c2]? =some (l[c2]'(by omega)):=gE9 _;have hle:=(h.node c2 _ hlc).le;obtain⟨d,f1,f2,f3⟩:=(h.node q y hq).cover p (by omega) hpq;obtain⟨d',g1,g2,g3⟩:=(h.node q y hq).arg d f1;have:d'=d:=by omega
 subst this;have hld:l[d']? =some (l[d']'(by omega)):=gE9 _;have n1:=h.nest d' _ hld p f2 f3;rcases aL7 (h.node q y hq).apart c2 d' hcy f1 (by omega)with a | a<;>omega
theorem dM.one{l:List Nd}{bg:List Nat}(h:dM l bg){p q:Nat}{x y:Nd}(hp:l[p]? =some x)(hq:l[q]? =some y){c:Nat}(hcx:(c:Int)∈x.args)(hcy:(c:Int)∈y.args):p=q:=by
 have a:=h.only hp hq hcx hcy;have b:=h.only hq hp hcy hcx;omega
structure Lab (l:List Nd) (f:Int→Int→Int) (L:Nat→Int) (i b:Nat):Prop where
 edge:∀ p x,b≤p→p≤i→l[p]? =some x→∀c:Nat,(c:Int)∈x.args→L c=f x.k (L p)
theorem Lab.rel{l:List Nd}{bg:List Nat}(h:dM l bg){f g:Int→Int→Int}{L M:Nat→Int}(R:Int→Int→Prop)(hL:Lab l f L (l.length - 1) 0)(hM:Lab l g M (l.length - 1) 0)
  (hr:R (L (l.length - 1)) (M (l.length - 1))) (hs:∀ (p:Nat) (x:Nd),l[p]? =some x→∀a b,R a b→R (f x.k a) (g x.k b)):∀ i,i<l.length→R (L i) (M i):=by
 have:∀ d i,i<l.length→l.length - 1 - i≤d→R (L i) (M i):=by
  intro d
  induction d with
  | zero=>
   intro i hi hd;have:i=l.length - 1:=by omega
   rw[this];exact hr
  | succ d ih=>
   intro i hi hd
   by_cases e:i=l.length - 1
   ·rw[e];exact hr
   ·have hroot:l[l.length - 1]? =some (l[l.length - 1]'(by omega)):=gE9 _;obtain⟨p,y,e1,e2,e3,e4⟩:=h.parent _ _ hroot i (by rw[h.root];omega) (by omega);rw[hL.edge p y (by omega) e1 e3 i e4,hM.edge p y (by omega) e1 e3 i e4];exact hs p y e3 _ _ (ih p (by omega) (by omega))
 exact fun i hi=>this _ i hi (Nat.le_refl _)
def lk(L:List Int)(i:Nat):Int:=L.getD i 0
theorem tW(L:List Int)(i j:Nat)(v:Int)(hi:i<L.length):lk (L.set i v) j=if j=i then v else lk L j:=by
 simp only[lk,List.getD_eq_getElem?_getD,List.getElem?_set]
 by_cases e:i=j
 ·subst e;simp[hi]
 ·have q:¬ j=i:=fun q=>e q.symm
  simp[e,q]
def eI(f:Int→Int→Int)(l:List Nd):Nat→Nat→Int→List Int→List Int
 | 0,_,_,ab=>ab
 | n+1,i,a,ab=>match l[i]? with
  | none=>ab
  | some x=>x.args.foldl (fun b (c:Int)=>eI f l n c.toNat (f x.k a) b) (ab.set i a)
theorem lP(f:Int→Int→Int)(l:List Nd):∀ (n i:Nat) (a:Int) (ab:List Int),(eI f l n i a ab).length=ab.length:=by
 intro n
 induction n with
 | zero=>intro i a ab;rfl
 | succ n ih=>
  intro i a ab;rw[eI];split
  ·rfl
  ·rename_i x _
   have:∀ (cs:List Int) (b:List Int),(cs.foldl (fun b (c:Int)=>eI f l n c.toNat (f x.k a) b) b).length=b.length:=by
    intro cs
    induction cs with
    | nil=>intro b;rfl
    | cons c cs ihc=>intro b;rw[List.foldl_cons,ihc,ih]
   rw[this,List.length_set]
theorem pE{f:Int→Int→Int}{l:List Nd}{bg:List Nat}(h:dM l bg):∀ (n i:Nat) (a:Int) (ab:List Int),i<n→i<l.length→ab.length=l.length→
  (∀j,¬(bg.getD i 0≤j∧j≤i)→lk (eI f l n i a ab) j=lk ab j)∧lk (eI f l n i a ab) i=a∧Lab l f (lk (eI f l n i a ab)) i (bg.getD i 0):=by
 intro n
 induction n with
 | zero=>intro i a ab hi;omega
 | succ n ih=>
  intro i a ab hn hi hab;have hx:l[i]? =some (l[i]'hi):=gE9 _;generalize l[i]'hi=x at hx;have N:=h.node i x hx;rw[eI,hx];simp only
  -- the arguments one after another
  have key:∀ (cs:List Int) (b:List Int),cs.Pairwise (fun a b=>a<(bg.getD b.toNat 0:Int))→(∀c∈cs,c∈x.args)→b.length=l.length→
    (∀j:Nat,(∀c∈cs,¬((bg.getD c.toNat 0:Int)≤j∧(j:Int)≤c))→lk (cs.foldl (fun b (c:Int)=>eI f l n c.toNat (f x.k a) b) b) j=lk b j)∧
    (∀c∈cs,lk (cs.foldl (fun b (c:Int)=>eI f l n c.toNat (f x.k a) b) b) c.toNat=f x.k a∧Lab l f (lk (cs.foldl (fun b (c:Int)=>eI f l n c.toNat (f x.k a) b) b)) c.toNat (bg.getD c.toNat 0)):=by
   intro cs
   induction cs with
   | nil=>intro b _ _ _;exact⟨fun j _=>rfl,fun c hc=>by cases hc⟩
   | cons c cs ihc=>
    intro b hp hm hb;obtain⟨hp1,hp2⟩:=List.pairwise_cons.1 hp;obtain⟨c',k1,k2,k3⟩:=N.arg c (hm c (by simp));have kc:c.toNat=c':=by omega
    obtain⟨s1,s2,s3⟩:=ih c' (f x.k a) b (by omega) (by omega) hb;obtain⟨t1,t2⟩:=ihc (eI f l n c' (f x.k a) b) hp2 (fun z hz=>hm z (by simp[hz])) (by rw[lP];exact hb);rw[List.foldl_cons,kc];refine⟨fun j hj=>?_,fun z hz=>?_⟩
    ·rw[t1 j (fun z hz=>hj z (by simp[hz]))];refine s1 j ?_;have:=hj c (by simp);rw[kc,k1]at this;omega
    ·rcases List.mem_cons.1 hz with e | e
     ·subst e
      -- the others do not touch this range
      have same:∀ j,bg.getD c' 0≤j→j≤c'→lk (cs.foldl (fun b (c:Int)=>eI f l n c.toNat (f x.k a) b) (eI f l n c' (f x.k a) b)) j=lk (eI f l n c' (f x.k a) b) j:=fun j j1 j2=>by
       refine t1 j (fun w hw=>?_);have:=hp1 w hw;omega
      have hlc:l[c']? =some (l[c']'(by omega)):=gE9 _;have hle:=(h.node c' _ hlc).le;rw[kc];refine⟨by rw[same c' hle (Nat.le_refl _)];exact s2,⟨fun p y p1 p2 py d hd=>?_⟩⟩;obtain⟨d',e1,e2,e3⟩:=(h.node p y py).arg d hd;have ed:d'=d:=by omega
      subst ed;have hld:l[d']? =some (l[d']'(by have:=(gS9.1 py).1;omega)):=gE9 _;have hled:=(h.node d' _ hld).le;have hn:=h.nest c' _ hlc p p1 p2;rw[same d' (by omega) (by omega),same p p1 p2];exact s3.edge p y p1 p2 py d' hd
     ·exact t2 z e
  obtain⟨t1,t2⟩:=key x.args (ab.set i a) N.apart (fun c hc=>hc) (by simp[hab])
  have outside:∀ j:Nat,i≤j→∀c∈x.args,¬((bg.getD c.toNat 0:Int)≤j∧(j:Int)≤c):=fun j hj c hc=>by
   obtain⟨c',k1,k2,k3⟩:=N.arg c hc;omega
  have ei:=t1 i (outside i (Nat.le_refl _));rw[tW _ _ _ _ (by omega),if_pos rfl]at ei;refine⟨fun j hj=>?_,ei,⟨fun p y p1 p2 py d hd=>?_⟩⟩
  ·have hle:=N.le;rw[t1 j,tW _ _ _ _ (by omega),if_neg (by omega)];intro c hc;obtain⟨c',k1,k2,k3⟩:=N.arg c hc;have:c.toNat=c':=by omega
   rw[this];omega
  ·rcases Nat.lt_or_eq_of_le p2 with q | q
   ·obtain⟨c,c1,c2,c3⟩:=N.cover p p1 q;have:=(t2 c c1).2;have ec:((c:Nat):Int).toNat=c:=by simp
    rw[ec]at this;exact this.edge p y c2 c3 py d hd
   ·subst q;have e:y=x:=Option.some.inj (py.symm.trans hx);subst e;have:=(t2 d hd).1;have ec:((d:Nat):Int).toNat=d:=by simp
    rw[ec]at this;rw[this,ei]
def fF(f:Int→Int→Int)(x:Nd)(i:Nat)(ab:List Int):List Int:=x.args.foldl (fun b (c:Int)=>b.set c.toNat (f x.k (lk b i))) ab
def gD(f:Int→Int→Int)(l:List Nd):Nat→List Int→List Int
 | 0,ab=>ab
 | i+1,ab=>gD f l i (match l[i]? with | none=>ab | some x=>fF f x i ab)
theorem pF{f:Int→Int→Int}{x:Nd}{i:Nat}{ab:List Int}(hi:i<ab.length)(ha:∀ a∈x.args,∃c:Nat,a=(c:Int)∧c<i):
  (fF f x i ab).length=ab.length∧(∀j:Nat,¬(j:Int)∈x.args→lk (fF f x i ab) j=lk ab j)∧∀c:Nat,(c:Int)∈x.args→lk (fF f x i ab) c=f x.k (lk ab i):=by
 have:∀ (cs:List Int) (b:List Int),(∀a∈cs,∃c:Nat,a=(c:Int)∧c<i)→i<b.length→
   (cs.foldl (fun b (c:Int)=>b.set c.toNat (f x.k (lk b i))) b).length=b.length∧(∀j:Nat,¬(j:Int)∈cs→lk (cs.foldl (fun b (c:Int)=>b.set c.toNat (f x.k (lk b i))) b) j=lk b j)∧
    (∀c:Nat,(c:Int)∈cs→lk (cs.foldl (fun b (c:Int)=>b.set c.toNat (f x.k (lk b i))) b) c=f x.k (lk b i)):=by
  intro cs
  induction cs with
  | nil=>intro b _ _;exact⟨rfl,fun j _=>rfl,fun c hc=>by cases hc⟩
  | cons a cs ih=>
   intro b hcs hb;obtain⟨c,c1,c2⟩:=hcs a (by simp);have ec:a.toNat=c:=by omega
   obtain⟨t1,t2,t3⟩:=ih (b.set c (f x.k (lk b i))) (fun z hz=>hcs z (by simp[hz])) (by simpa using hb);have ei:lk (b.set c (f x.k (lk b i))) i=lk b i:=by rw[tW _ _ _ _ (by omega),if_neg (by omega)]
   rw[List.foldl_cons,ec];refine⟨by rw[t1];simp,fun j hj=>?_,fun d hd=>?_⟩
   ·rw[t2 j (fun q=>hj (by simp[q])),tW _ _ _ _ (by omega),if_neg];intro q;exact hj (by rw[c1,q];simp)
   ·by_cases hm:(d:Int)∈cs
    ·rw[t3 d hm,ei]
    ·rcases List.mem_cons.1 hd with q | q
     ·rw[t2 d hm,tW _ _ _ _ (by omega),if_pos (by omega)]
     ·exact absurd q hm
 exact this x.args ab ha hi
theorem qM{f:Int→Int→Int}{l:List Nd}{bg:List Nat}(h:dM l bg):∀ (n:Nat) (ab:List Int),n≤l.length→ab.length=l.length→Lab l f (lk ab) (l.length - 1) n→
  (gD f l n ab).length=l.length∧(∀j,n≤j+1→lk (gD f l n ab) j=lk ab j)∧Lab l f (lk (gD f l n ab)) (l.length - 1) 0:=by
 intro n
 induction n with
 | zero=>intro ab _ hab hL;exact⟨hab,fun j _=>rfl,hL⟩
 | succ n ih=>
  intro ab hn hab hL;have hx:l[n]? =some (l[n]'(by omega)):=gE9 _;generalize l[n]'(by omega)=x at hx;have N:=h.node n x hx;rw[gD,hx];simp only;obtain⟨s1,s2,s3⟩:=pF (f:=f) (x:=x) (i:=n) (ab:=ab) (by omega) (fun a ha=>by obtain⟨c,c1,c2,_⟩:=N.arg a ha;exact⟨c,c1,c2⟩)
  have up:∀ j,n≤j→lk (fF f x n ab) j=lk ab j:=fun j hj=>s2 j fun hm=>by
   obtain⟨c,c1,c2,_⟩:=N.arg _ hm;omega
  have hnew:Lab l f (lk (fF f x n ab)) (l.length - 1) n:=⟨fun p y p1 p2 py c hc=>?_⟩
  ·obtain⟨t1,t2,t3⟩:=ih (fF f x n ab) (by omega) (by rw[s1];exact hab) hnew;exact⟨t1,fun j hj=>by rw[t2 j (by omega),up j (by omega)],t3⟩
  ·by_cases e:p=n
   ·subst e;have:y=x:=Option.some.inj (py.symm.trans hx);subst this;rw[s3 c hc,up p (Nat.le_refl _)]
   ·have hnc:¬ (c:Int)∈x.args:=fun hm=>e (h.one py hx hc hm)
    rw[s2 c hnc,up p (by omega)];exact hL.edge p y (by omega) p2 py c hc
theorem aCB{l:List Nd}(h:bC l=true)(hne:l≠[]){f g:Int→Int→Int}(R:Int→Int→Prop)(a b:Int)(hr:R a b)(hs:∀ (p:Nat) (x:Nd),l[p]? =some x→∀a b,R a b→R (f x.k a) (g x.k b))(ab bb:List Int)
  (ha:ab.length=l.length) (hb:bb.length=l.length) (hl:lk bb (l.length - 1)=b):
  ∀i,i<l.length→R (lk (eI f l l.length (l.length - 1) a ab) i) (lk (gD g l l.length bb) i):=by
 obtain⟨_,bg,T⟩:=bX h;have hpos:0<l.length:=List.length_pos_iff.2 hne;obtain⟨_,p2,p3⟩:=pE (f:=f) T l.length (l.length - 1) a ab (by omega) (by omega) ha;rw[T.root]at p3
 obtain⟨_,q2,q3⟩:=qM (f:=g) T l.length bb (Nat.le_refl _) hb ⟨fun p y p1 p2 py c hc=>by
  have:=(gS9.1 py).1
  omega⟩
 refine Lab.rel T R p3 q3 ?_ hs;rw[p2,q2 _ (by omega),hl];exact hr
def eJ(k:Int):Int:=if k==6||k==4||k==5 then 1 else if k==11||k==12 then 2 else 0
def iD(k:Int):Int:=if k==2 then 1 else if k==6 then 2 else if k==4||k==5 then 3 else if k==11||k==12 then 4 else 0
def gH(k a:Int):Int:=if k==2 then 3 else if k==3 then 4 else a
def oP(k a:Int):Int:=if k==2 then 5 else if k==3 then 6 else a
def kZ(k a:Int):Bool:=if k==0 then(a==1||a==5||a==6)else if k==1 then(a==2||a==3||a==6)else if k==2 then(a==2||a==3||a==4)else if k==3 then a==2 else true
def Same(tk a b:Int):Prop:=(a=0∧b=1)∨(a=1∧((tk=6∧b=2)∨((tk=4∨tk=5)∧b=3)))∨(a=2∧b=4)∨(a=3∧b=5)∨(a=4∧b=6)
theorem aTN(k:Int)(h:iD k≠0):Same k (eJ k) (iD k):=by
 simp only[iD,eJ,Same]at*
 by_cases h2:k=2
 ·subst h2;simp
 ·by_cases h6:k=6
  ·subst h6;simp
  ·by_cases h4:k=4
   ·subst h4;simp
   ·by_cases h5:k=5
    ·subst h5;simp
    ·by_cases h11:k=11
     ·subst h11;simp
     ·by_cases h12:k=12
      ·subst h12;simp
      ·simp[h2,h6,h4,h5,h11,h12]at h
theorem aO9(tk k a b:Int)(h:Same tk a b):Same tk (gH k a) (oP k b):=by
 simp only[gH,oP]
 by_cases h2:k=2
 ·subst h2;simp[Same]
 ·by_cases h3:k=3
  ·subst h3;simp[Same]
  ·simpa[h2,h3]using h
theorem aE8(tk k a b:Int)(h:Same tk a b):dI tk k a=kZ k b:=by
 rcases h with⟨rfl,rfl⟩ | ⟨rfl,⟨rfl,rfl⟩ | ⟨rfl | rfl,rfl⟩⟩ | ⟨rfl,rfl⟩ | ⟨rfl,rfl⟩ | ⟨rfl,rfl⟩<;>simp[dI,kZ]
def hZ(k a:Int):Int×Int:=if a==3 then(0,iQ k)else if a==4 then(0,127)else(-1152921504606846976,1152921504606846976)
def kQ(x:Nd)(b:Int×Int):Bool:=decide (x.lo≤x.hi)&&decide (b.1≤x.lo)&&decide (x.hi≤b.2)
theorem aGA(x:Nd)(tk a b:Int)(h:Same tk a b):kQ x (hZ tk a)= !jP x b tk:=by
 have key:∀ lo hi:Int,(decide (x.lo≤x.hi)&&decide (lo≤x.lo)&&decide (x.hi≤hi))= !(decide (x.lo>x.hi)||decide (x.lo<lo)||decide (x.hi>hi)):=fun lo hi=>by
  rw[Bool.eq_iff_iff];simp
 rcases h with⟨rfl,rfl⟩ | ⟨rfl,⟨rfl,rfl⟩ | ⟨rfl | rfl,rfl⟩⟩ | ⟨rfl,rfl⟩ | ⟨rfl,rfl⟩ | ⟨rfl,rfl⟩
 all_goals exact key _ _
theorem aIT:alpha pC=[⟨0,127⟩]:=by kernel_rfl
def cC(t:Ty)(s:ByteArray)(a:Int):Bool:=
 if a==4 then !bR s (bs [])&& !(chars s).any (fun c=>decide (127<c))else if t.kind==4 then !(chars s).any (fun c=> !(c==48||c==49))
 else if t.kind==6 then !(chars s).any (fun c=> !inS (alpha t.name) c)else true
theorem any_congr{α:Type}{l:List α}{p q:α→Bool}(h:∀ x∈l,p x=q x):l.any p=l.any q:=by
 induction l with
 | nil=>rfl
 | cons a r ih=>rw[List.any_cons,List.any_cons,h a (by simp),ih fun x hx=>h x (by simp[hx])]
theorem aE9{s:ByteArray}{c:Int}(h:c∈chars s):0≤c:=by
 obtain⟨b,_,rfl⟩:=List.mem_map.1 h;omega
theorem aIU(t:Ty)(s:ByteArray)(a b:Int)(h:Same t.kind a b)(ha:a=1∨a=4):nE t s b=bZ [if cC t s a then 0 else 17,if s.size≤200 then 0 else 2]:=by
 have fin:∀ u:Bool,u= !cC t s a→(if u=true then(17:Int)else if 200<s.size then 2 else 0)=bZ [if cC t s a then 0 else 17,if s.size≤200 then 0 else 2]:=fun u hu=>by
  subst hu;have e:(200<s.size)↔¬s.size≤200:=by omega
  cases cC t s a<;>by_cases q:s.size≤200<;>simp[bT,cZ,q,e]
 refine fin _ ?_;rcases h with⟨rfl,rfl⟩ | ⟨rfl,⟨hk,rfl⟩ | ⟨hk,rfl⟩⟩ | ⟨rfl,rfl⟩ | ⟨rfl,rfl⟩ | ⟨rfl,rfl⟩
 ·omega
 ·have e:cC t s 1= !(chars s).any (fun c=> !inS (alpha t.name) c):=by simp[cC,hk]
  have e2:dT t 2=fun c=> !inS (alpha t.name) c:=by funext c;simp[dT]
  rw[e,e2];simp
 ·rcases hk with hk | hk
  ·have e:cC t s 1= !(chars s).any (fun c=> !(c==48||c==49)):=by simp[cC,hk]
   have e2:dT t 3=fun c=> !(c==48||c==49):=by funext c;simp[dT,hk,bne]
   rw[e,e2];simp
  ·have e:cC t s 1=true:=by simp[cC,hk]
   have e2:dT t 3=fun c=>false:=by funext c;simp[dT,hk]
   rw[e,e2];simp
 ·omega
 ·omega
 ·have e:cC t s 4=(!bR s (bs [])&& !(chars s).any (fun c=>decide (127<c))):=by simp[cC]
  have e2:(chars s).any (dT t 6)=(chars s).any (fun c=>decide (127<c)):=any_congr fun c hc=>by
   have:=aE9 hc;have e3:dT t 6 c= !inS (alpha pC) c:=by simp[dT]
   rw[e3,aIT,Bool.eq_iff_iff];simp[inS];omega
  rw[e,e2];cases bR s (bs [])<;>cases(chars s).any (fun c=>decide (127<c))<;>rfl
def kJ(t:Ty)(x:Nd)(root:Bool)(a:Int):Int:=
 let e:=bZ [if x.k != 7||root then 0 else 28,if dI t.kind x.k a then 0 else 17]
 if e != 0 then e else if x.k==0 then(if kQ x (hZ t.kind a)then 0 else 3)
 else if x.k==1 then bZ [if cC t x.s a then 0 else 17,if x.s.size≤200 then 0 else 2] else 0
def oL(t:Ty)(x:Nd)(root:Bool)(b:Int):Int:=
 if x.k==7&& !root then 28 else if !kZ x.k b then 17 else if x.k==0&&jP x b t.kind then 3
 else if x.k==1 then nE t x.s b else 0
theorem aIV(t:Ty)(x:Nd)(root:Bool)(a b:Int)(h:Same t.kind a b):kJ t x root a=oL t x root b:=by
 have hs:=aE8 t.kind x.k a b h;have hr:=aGA x t.kind a b h;simp only[kJ,oL,hs,hr];cases hst:kZ x.k b
 ·cases root<;>by_cases h7:x.k=7<;>simp[bT,h7]
 ·by_cases h0:x.k=0
  ·cases jP x b t.kind<;>simp[bT,cZ,h0]
  ·by_cases h1:x.k=1
   ·have ha:a=1∨a=4:=by
     rw[hst,h1]at hs;simpa[dI]using hs
    rw[aIU t x.s a b h ha];simp[bT,cZ,h1]
   ·cases root<;>by_cases h7:x.k=7<;>simp[bT,cZ,h0,h1,h7]
def cV:List Int→Int×Int
 | []=>(0,0)
 | e::r=>if e==0 then((cV r).1+1,(cV r).2)else(0,e)
def jK(t:Ty)(f:Nat→Int):List Int:=t.limits.mapIdx fun i x=>kJ t x (i+1==t.limits.length) (f i)
def oM(t:Ty)(f:Nat→Int):List Int:=t.limits.mapIdx fun i x=>oL t x (i+1==t.limits.length) (f i)
def cL(t:Ty):List Int:=eI gH t.limits t.limits.length (t.limits.length - 1) (eJ t.kind) (List.replicate t.limits.length 0)
def fX(t:Ty):List Int:=gD oP t.limits t.limits.length ((List.replicate t.limits.length 0).set (t.limits.length - 1) (iD t.kind))
def rI(t:Ty):Int×Int:=if t.limits.length==0 then(0,0)else if eJ t.kind==0&&t.kind != 2 then(0,4)else cV (jK t (lk (cL t)))
def yT(t:Ty):Int×Int:=if t.limits.length != 0&&iD t.kind==0 then(0,4)else cV (oM t (lk (fX t)))
theorem xJ(k:Int):(iD k==0)=(eJ k==0&&k != 2):=by
 simp only[iD,eJ]
 by_cases h2:k=2
 ·subst h2;decide
 ·by_cases h6:k=6
  ·subst h6;decide
  ·by_cases h4:k=4
   ·subst h4;decide
   ·by_cases h5:k=5
    ·subst h5;decide
    ·by_cases h11:k=11
     ·subst h11;decide
     ·by_cases h12:k=12
      ·subst h12;decide
      ·simp[h2,h6,h4,h5,h11,h12]
theorem aL8(t:Ty)(h:bC t.limits=true):rI t=yT t:=by
 simp only[rI,yT,xJ]
 by_cases hz:t.limits.length=0
 ·have e:t.limits=[]:=List.length_eq_zero_iff.1 hz;simp[oM,e,cV]
 ·cases hk:(eJ t.kind==0&&t.kind != 2)
  ·have ha:iD t.kind≠0:=by
    have:=xJ t.kind;rw[hk]at this;simpa using this
   simp only[beq_iff_eq,hz,if_false,Bool.and_false,Bool.false_eq_true];congr 1;refine List.mapIdx_eq_mapIdx_iff.2 fun i hi=>?_
   refine aIV t _ _ _ _ ?_;refine aCB h (fun e=>hz (by rw[e];rfl)) (Same t.kind) (eJ t.kind) (iD t.kind) (aTN _ ha) (fun p x _ a b hab=>aO9 _ _ _ _ hab) _ _ (by simp) (by simp) ?_ i hi;rw[tW _ _ _ _ (by simp;omega),if_pos rfl]
  ·simp[hz]
section
attribute [-simp] Go.Ab.aA Go.Ab.gval
attribute [local simp] bE aM aQ aG aV aO aX tyC fdC vlC ndC aL D.cR D.pt
attribute [local simp] b3v b3w c85 in
theorem P85(a b c:Int):PSp prog 85 [.one (.t (I a)),.one (.t (I b)),.one (.t (I c))] (.one (.t (.bool (decide (b≤a)&&decide (a≤c))))):=by
 refine k85.aI (by simp) rfl rfl ?_;obtain⟨u,eu⟩:∃ y,decide (b≤a)=y:=⟨_,rfl⟩;obtain⟨v,ev⟩:∃ y,decide (a≤c)=y:=⟨_,rfl⟩;rw[eu,ev];cases u<;>simp -implicitDefEqProofs [eu,ev,aC]
attribute [local simp] b3Z b30 c155 in
theorem aX8(x:Sp)(n:Int)(h:Hp)(id:Nat)(e:h id=some (.arr 0 false 1 [[.t (I n)]]))(n0:Nat):
  ISp prog 155 h n0 [.agg ((spr x).map .t),.one (.ptr ⟨id,0,1,0,0⟩)] (.one (.t (.bool (decide (x.1≤n)&&decide (n≤x.2))))) h:=by
 refine ISp.ok fun ho=>?_
 have h1:=fZ ho e;have p85:=P85 n x.1 x.2;generalize (decide (x.1≤n)&&decide (n≤x.2))=R at*;refine k155.gQ (by simp) ?_;obtain⟨o1,o2,o3,o4⟩:=aK e;have hne:¬ id=n0:=by omega
 simp -implicitDefEqProofs [spr,o1,o2,o3,hne];refine aD.tree p85 rfl ?_;simp -implicitDefEqProofs;exact dQ (.inr rfl) (by exact rfl) (fun j hj=>by simp[Hp.set];omega) ho
attribute [local simp] b3X b3Y c120 in
theorem aQM(l:List Sp)(n:Int)(hl:short l):PSp prog 120 [.one (.t (spans l)),.one (.t (I n))] (.one (.t (.bool (inS l n)))):=by
 refine k120.aI (by simp) rfl rfl ?_;simp -implicitDefEqProofs;refine aD.imp (aVF l hl (fun x=>decide (x.1≤n)&&decide (n≤x.2)) 155 [⟨0,0,1,0,0⟩] _ _ (by kernel_rfl) fun x hx new K hn hK=>aD.imp (aX8 x n _ 0 (by simp[Hp.set]) new) hK) ?_;simp -implicitDefEqProofs [aC];rfl
attribute [local simp] c150 in
theorem aX9(c:Int):PSp prog 150 [.one (.t (.int .u8 c))] (.one (.t (.bool (decide (127<c))))):=by
 refine k150.aI (by simp) rfl rfl ?_;simp -implicitDefEqProofs [aC]
attribute [local simp] c194 in
theorem aXA(l:List Sp)(c:Int)(hl:l.length≤1000000)(hc:0≤c∧c≤255)(h:Hp)(id:Nat)(e:h id=some (.arr 0 false 1 [[.t (spans l)]]))(n0:Nat):
  ISp prog 194 h n0 [.one (.t (.int .u8 c)),.one (.ptr ⟨id,0,1,0,0⟩)] (.one (.t (.bool (!inS l c)))) h:=by
 refine ISp.ok fun ho=>?_
 have h1:=fZ ho e;have aIW:=aQM l c (by simp only[short];omega);refine k194.gQ (by simp) ?_;obtain⟨o1,o2,o3,o4⟩:=aK e
 have hcv:D.dO .i64 (.one (.t (.int .u8 c)))= .one (.t (I c)):=by
  have:IntKind.i64.wrap c=c:=wrap_i64 (by omega) (by omega);simp[D.dO,this]
 simp -implicitDefEqProofs [o1,o2,o3,hcv];refine aD.tree aIW rfl ?_;simp -implicitDefEqProofs;exact dQ (.inr rfl) (by exact rfl) (fun j hj=>by simp) ho
attribute [local simp] c152 in
theorem aTO(s:ByteArray)(x:ByteArray)(hx:x.size≤9223372036854775807):PSp prog 152 [.one (.t (.str s)),.one (.t (.str x))] (.one (.t (.bool (!(chars x).any fun c=> !inS (alpha s) c)))):=by
 refine k152.aI (by simp) rfl rfl ?_;have hal:=aAN s;simp -implicitDefEqProofs;refine aD.tree (P17 s) rfl ?_;simp -implicitDefEqProofs;refine aD.imp (aQ1 x hx (fun c=> !inS (alpha s) c) 194 [⟨6,0,1,0,0⟩] _ _ (by kernel_rfl) fun c hc new K hn hK=>aD.imp (aXA (alpha s) c (by omega) (by have:=mY hc;omega) _ 6 (by simp[Hp.set]) new) hK) ?_;simp -implicitDefEqProofs [aC]
end
section
attribute [-simp] Go.Ab.aA Go.Ab.gval
attribute [local simp] bE aM aQ aG aV aO aX tyC fdC vlC ndC aL D.cR D.pt
theorem oA{k c n0:Nat}{x y:T}{st:St}{h':Hp}(hr:st.tmps k= .one (.ptr ⟨c,0,2,0,0⟩))(hc:st.heap c=some (.arr 0 false 2 [[.t x,.t y]]))(hh:∀ id,id<n0→st.heap id=h' id)(ho:aF h' n0):
  gF [.cell k 2 true] (.agg [.t x,.t y]) h' n0 .ret st:=by
 obtain⟨o1,o2,o3,o4⟩:=aK hc
 have e:lT st [.cell k 2 true]= .agg [.t x,.t y]:=by
  simp[lT,RV.val,hr,D.loadAt,D.of,o2]
 refine⟨.inr rfl,⟨?_,by simp⟩,?_,?_,?_,hh,ho.above,ho.below⟩
 ·simp[RV.ok,hr,D.tE,o1,o2,o3]
 ·rw[e];simp[D.cE]
 ·rw[e];simp[D.frz]
 ·rw[e];simp[D.ids]
attribute [local simp] c109 in
theorem aXB(t:Ty)(ab:List Int)(id sid ver:Nat)(h:Hp)(hc:CK t ab id sid ver h)(i:Nat)(a:Int)(ha:ab[i]? =some a)(n0:Nat):
  ISp prog 109 h n0 [.one (.ptr ⟨id,0,9,0,0⟩),.one (.t (I i))] (.agg [.t (I (hZ t.kind a).1),.t (I (hZ t.kind a).2)]) h:=by
 refine ISp.ok fun ho=>?_
 have h1:=fZ ho hc.obj;have h2:=fZ ho hc.abs;refine k109.gQ (by simp) ?_;obtain⟨o1,o2,o3,o4⟩:=aK hc.obj;obtain⟨p1,p2,p3,p4⟩:=aK hc.abs;have hia:i<ab.length:=(gS9.1 ha).1;have pD:(i:Int)<(ab.length:Int):=by omega
 have p91:=P91 t;have hne:¬ id=n0:=by omega
 have wX:¬ sid=n0:=by omega
 rcases eqCases a 3 with q3 | q3
 ·have e:hZ t.kind a=(0,iQ t.kind):=by simp[hZ,q3]
  rw[e];generalize iQ t.kind=m at*;simp -implicitDefEqProofs [hne,wX,o1,o2,o3,p1,p2,p3,hia,pD,fW ha,q3,-List.getElem_map];refine aD.tree p91 rfl ?_;simp -implicitDefEqProofs;exact oA (c:=n0) (by exact rfl) (by simp[Hp.set]) (fun j hj=>by simp[Hp.set];omega) ho
 ·rcases eqCases a 4 with q4 | q4
  ·have e:hZ t.kind a=(0,127):=by simp[hZ,q4]
   rw[e];simp -implicitDefEqProofs [hne,wX,o1,o2,o3,p1,p2,p3,hia,pD,fW ha,q4,-List.getElem_map];exact oA (c:=n0) (by exact rfl) (by simp[Hp.set]) (fun j hj=>by simp[Hp.set];omega) ho
  ·have e:hZ t.kind a=(-1152921504606846976,1152921504606846976):=by simp[hZ,q3,q4]
   rw[e];simp -implicitDefEqProofs [hne,wX,o1,o2,o3,p1,p2,p3,hia,pD,fW ha,q3,q4,-List.getElem_map];exact oA (c:=n0) (by exact rfl) (by simp[Hp.set]) (fun j hj=>by simp[Hp.set];omega) ho
attribute [local simp] b5u b5v b5w b5x b5y c110 in
theorem aXC(t:Ty)(ab:List Int)(id sid ver:Nat)(h:Hp)(hc:CK t ab id sid ver h)(i:Nat)(x:Nd)(a:Int)(hx:t.limits[i]? =some x)(hxs:x.s.size≤9223372036854775807)(ha:ab[i]? =some a)(n0:Nat):
  ISp prog 110 h n0 [.one (.ptr ⟨id,0,9,0,0⟩),.one (.t (I i))] (.one (.t (.bool (cC t x.s a)))) h:=by
 obtain⟨R0,hR0⟩:∃ R,cC t x.s a=R:=⟨_,rfl⟩;rw[hR0];refine ISp.ok fun ho=>?_
 have h1:=fZ ho hc.obj;have h2:=fZ ho hc.abs;refine k110.gQ (by simp) ?_;obtain⟨o1,o2,o3,o4⟩:=aK hc.obj;obtain⟨p1,p2,p3,p4⟩:=aK hc.abs;have hi:i<t.limits.length:=(gS9.1 hx).1;have hiI:(i:Int)<(t.limits.length:Int):=by omega
 have hia:i<ab.length:=(gS9.1 ha).1;have pD:(i:Int)<(ab.length:Int):=by omega
 have fin:∀ (R:Bool) (st:St),R=R0→st.tmps 4= .one (.t (.bool R))→st.heap=h→gF [.tmp 4] (.one (.t (.bool R0))) h n0 .ret st:=fun R st hR hs hh=>by
  subst hR;exact dQ (.inr rfl) hs (fun j hj=>by rw[hh]) ho
 rcases eqCases a 4 with q4 | q4
 ·obtain⟨b,eb⟩:∃ b,(x.s.toList==(bs []).toList)=b:=⟨_,rfl⟩;have eb':bR x.s (bs [])=b:=eb;have hR1:(!b&& !(chars x.s).any fun c=>decide (127<c))=R0:=by rw[←hR0];simp[cC,q4,eb']
  cases b
  ·simp -implicitDefEqProofs [o1,o2,o3,p1,p2,p3,hi,hiI,hia,pD,fW ha,aE hx,Nd.row,q4,eb,-List.getElem_map];refine aD.imp (aQ1 x.s hxs (fun c=>decide (127<c)) 150 [] _ _ (by kernel_rfl) fun c hc new K hn hK=>aD.tree (aX9 c) rfl hK) ?_;simp -implicitDefEqProofs;exact fin (!(chars x.s).any fun c=>decide (127<c)) _ (by rw[←hR1];rfl) (by exact rfl) (by exact rfl)
  ·simp -implicitDefEqProofs [o1,o2,o3,p1,p2,p3,hi,hiI,hia,pD,fW ha,aE hx,Nd.row,q4,eb,-List.getElem_map];exact fin false _ (by rw[←hR1];rfl) (by exact rfl) (by exact rfl)
 ·rcases eqCases t.kind 4 with k4 | k4
  ·have hR1:(!(chars x.s).any fun c=> !(c==48||c==49))=R0:=by rw[←hR0];simp[cC,q4,k4]
   have tr:=aKP x.s hxs;have te:=xB x.s;simp -implicitDefEqProofs [o1,o2,o3,p1,p2,p3,hi,hiI,hia,pD,fW ha,aE hx,Nd.row,q4,k4,-List.getElem_map];refine aD.tree tr rfl ?_;simp -implicitDefEqProofs;exact fin _ _ (by rw[←hR1,←te]) (by exact rfl) (by exact rfl)
  ·rcases eqCases t.kind 6 with k6 | k6
   ·have hR1:(!(chars x.s).any fun c=> !inS (alpha t.name) c)=R0:=by rw[←hR0];simp[cC,q4,k6]
    have aL9:=aTO t.name x.s hxs;rw[hR1]at aL9;simp -implicitDefEqProofs [o1,o2,o3,p1,p2,p3,hi,hiI,hia,pD,fW ha,aE hx,Nd.row,q4,k6,-List.getElem_map];refine aD.tree aL9 rfl ?_;simp -implicitDefEqProofs;exact fin _ _ rfl (by exact rfl) (by exact rfl)
   ·have hR1:true=R0:=by rw[←hR0];simp[cC,q4,k4,k6]
    simp -implicitDefEqProofs [o1,o2,o3,p1,p2,p3,hi,hiI,hia,pD,fW ha,aE hx,Nd.row,q4,k4,k6,-List.getElem_map];exact fin _ _ hR1 (by exact rfl) (by exact rfl)
end
section
attribute [-simp] Go.Ab.aA Go.Ab.gval
attribute [local simp] bE aM aQ aG aV aO aX tyC fdC vlC ndC aL D.cR D.pt
def jD(h:Hp)(sid ver:Nat)(ab:List Int):Hp:=h.set sid (.arr ver false 1 (ab.map fun a=>[.t (I a)]))
theorem CK.ne{t:Ty}{ab:List Int}{id sid ver:Nat}{h:Hp}(hc:CK t ab id sid ver h):id≠sid:=fun e=>by
 subst e;have:=hc.obj.symm.trans hc.abs;simp at this
theorem CK.put{t:Ty}{ab:List Int}{id sid ver:Nat}{h:Hp}(hc:CK t ab id sid ver h){ab':List Int}(hl:ab'.length=ab.length):CK t ab' id sid ver (jD h sid ver ab'):=by
 refine⟨?_,by simp[jD,Hp.set],by rw[hl];exact hc.len⟩;simp only[jD,Hp.set];rw[if_neg hc.ne,hc.obj,hl]
theorem aIX{h:Hp}{sid ver:Nat}{ab ab':List Int}:jD (jD h sid ver ab) sid ver ab'=jD h sid ver ab':=funext fun j=>by
 simp only[jD,Hp.set];split<;>rfl
theorem aLA{h:Hp}{n sid ver:Nat}{ab:List Int}(ho:aF h n)(hs:sid<n):aF (jD h sid ver ab) n:=by
 refine⟨fun j hj=>?_,fun j o hj=>?_⟩
 ·simp only[jD,Hp.set];rw[if_neg (by omega)];exact ho.above j hj
 ·simp only[jD,Hp.set]at hj;split at hj
  ·cases hj;simp[O.below,A.below]
  ·exact ho.below j o hj
attribute [local simp] b4U b4V b4W b4X b4Y b4Z b40 b41 b42 b43 c62 in
theorem P62(t:Ty)(bg:List Nat)(T:dM t.limits bg)(_hn:t.limits.length≤20)(hargs:∀ x∈t.limits,short x.args)(id sid ver:Nat):∀ (fuel i:Nat) (a:Int) (ab:List Int) (h:Hp) (n0:Nat),i<fuel→i<t.limits.length→CK t ab id sid ver h→
  ISp prog 62 h n0 [.one (.ptr ⟨id,0,9,0,0⟩),.one (.t (I i)),.one (.t (I a))] (.tup []) (jD h sid ver (eI gH t.limits fuel i a ab)):=by
 intro fuel
 induction fuel with
 | zero=>intro i a ab h n0 hi;omega
 | succ fuel ih=>
  intro i a ab h n0 hif hil hc;have hx:t.limits[i]? =some (t.limits[i]'hil):=gE9 _;generalize t.limits[i]'hil=x at hx;have N:=T.node i x hx;have hsa:=hargs x (gM9 hx);refine ISp.ok fun ho=>?_
  have h1:=fZ ho hc.obj;have h2:=fZ ho hc.abs;have hne:=hc.ne;have hne':¬ sid=id:=fun e=>hne e.symm
  obtain⟨o1,o2,o3,o4⟩:=aK hc.obj;obtain⟨p1,p2,p3,p4⟩:=aK hc.abs;have hiI:(i:Int)<(t.limits.length:Int):=by omega
  have hia:i<ab.length:=by rw[hc.len];exact hil
  have pD:(i:Int)<(ab.length:Int):=by omega
  have ep:eI gH t.limits (fuel+1) i a ab=x.args.foldl (fun b (c:Int)=>eI gH t.limits fuel c.toNat (gH x.k a) b) (ab.set i a):=by
   rw[eI,hx]
  rw[ep];refine k62.gQ (by simp) ?_;have ha0:ab[i]? =some (ab[i]'hia):=gE9 hia;simp -implicitDefEqProofs [o1,o2,o3,p1,p2,p3,p4,aE hx,fW ha0,hil,hiI,hia,pD,hne,Nd.row,-List.getElem_map];refine oX x.args (fun b (c:Int)=>eI gH t.limits fuel c.toNat (gH x.k a) b) (ab.set i a) [0,1,2,24,25] [] (fun k s st=>st.tmps 26= .one (.t (I k))∧st.heap=jD h sid ver s∧s.length=ab.length∧n0≤st.nx) hsa ?_ ?_ ?_
  ·exact⟨⟨by simp,by simp[jD,List.map_set],by simp,by simp;omega⟩,by simp,by simp⟩
  ·rintro k y s st hk hkI hw hg hy hs ⟨aEA,hh,hsl,hnx⟩ hkt hkh;simp at hkt;have hc':CK t s id sid ver st.heap:=by rw[hh];exact hc.put hsl
   obtain⟨o1,o2,o3,o4⟩:=aK hc'.obj;obtain⟨c,rfl,hci,_⟩:=N.arg y hy;have hcl:c<t.limits.length:=by omega
   have call:=fun n=>ih c (gH x.k a) s st.heap n (by omega) hcl hc'
   have ph:jD st.heap sid ver (eI gH t.limits fuel c (gH x.k a) s)=jD h sid ver (eI gH t.limits fuel c (gH x.k a) s):=by rw[hh,aIX]
   have tn:((c:Nat):Int).toNat=c:=by simp
   rcases eqCases x.k 2 with q2 | q2
   ·have ei:gH x.k a=3:=by simp[gH,q2]
    rw[ei]at call ph;simp -implicitDefEqProofs [aEA,hkt,hk,hkI,aE hg,aE hx,hil,hiI,o1,o2,o3,Nd.row,q2,-List.getElem_map];refine aD.imp (call _) ?_;simp -implicitDefEqProofs [aEA,hkt,hw,ph,lP,hsl];exact⟨by rw[show gH 2 a=3 by simp[gH]],by omega⟩
   ·rcases eqCases x.k 3 with q3 | q3
    ·have ei:gH x.k a=4:=by simp[gH,q3]
     rw[ei]at call ph;simp -implicitDefEqProofs [aEA,hkt,hk,hkI,aE hg,aE hx,hil,hiI,o1,o2,o3,Nd.row,q3,-List.getElem_map];refine aD.imp (call _) ?_;simp -implicitDefEqProofs [aEA,hkt,hw,ph,lP,hsl];exact⟨by rw[show gH 3 a=4 by simp[gH]],by omega⟩
    ·have ei:gH x.k a=a:=by simp[gH,q2,q3]
     rw[ei]at call ph;simp -implicitDefEqProofs [aEA,hkt,hk,hkI,aE hg,aE hx,hil,hiI,o1,o2,o3,Nd.row,q2,q3,-List.getElem_map];refine aD.imp (call _) ?_;simp -implicitDefEqProofs [aEA,hkt,hw,ei,ph,lP,hsl];omega
  ·rintro st ⟨aEA,hh,hsl,hnx⟩ hkt hkh;simp at hkt;simp -implicitDefEqProofs [aEA,hkt];exact eX (.inl rfl) (fun j hj=>by simp[hh]) (aLA ho h2)
end
section
attribute [-simp] Go.Ab.aA Go.Ab.gval
attribute [local simp] bE aM aQ aG aV aO aX tyC fdC vlC ndC aL D.cR D.pt
attribute [local simp] b3x b3y b3z b3A c81 in
theorem P81(b:Bool)(e:Int):PSp prog 81 [.one (.t (.bool b)),.one (.t (I e))] (.one (.t (I (if b then 0 else e)))):=by
 refine k81.aI (by simp) rfl rfl ?_;cases b<;>simp -implicitDefEqProofs [aC]
theorem CK.of{t:Ty}{ab:List Int}{id sid ver:Nat}{h h':Hp}(hc:CK t ab id sid ver h)(h1:h' id=h id)(h2:h' sid=h sid):CK t ab id sid ver h':=
 ⟨h1.trans hc.obj,h2.trans hc.abs,hc.len⟩
theorem aOA(t:Ty):∀ x∈tyC t,(D.one x).top=[]:=by
 intro x hx;simp only[tyC,List.mem_cons,List.not_mem_nil,or_false]at hx;rcases hx with rfl | rfl | rfl | rfl | rfl | rfl | rfl | rfl<;>rfl
theorem CK.look{t:Ty}{ab:List Int}{id sid ver:Nat}{h:Hp}(hc:CK t ab id sid ver h){f:FuncId}{y:T}{r:D}(hs:∀ h',CK t ab id sid ver h'→∀n',ISp prog f h' n' [.one (.ptr ⟨id,0,9,0,0⟩),.one (.t y)] r h'):
  zH prog f [.one (.ptr ⟨id,0,9,0,0⟩),.one (.t y)] h r:=by
 obtain⟨o1,o2,o3,o4⟩:=aK hc.obj;obtain⟨p1,p2,p3,p4⟩:=aK hc.abs
 have hr:∀ j,Ab.Reach h [.one (.ptr ⟨id,0,9,0,0⟩),.one (.t y)] j→j=id∨j=sid:=by
  intro j hj
  induction hj with
  | top hx hid=>
   rename_i x j;simp only[List.mem_cons,List.not_mem_nil,or_false]at hx;rcases hx with rfl | rfl
   ·left;simpa[D.top]using hid
   ·simp[D.top]at hid
  | cell hj hrow hx hid ih=>
   rename_i j j' rr x;rcases ih with rfl | rfl
   ·rw[o2]at hrow;simp only[List.mem_singleton]at hrow;subst hrow;rcases List.mem_append.1 hx with hx | hx
    ·rw[aOA t x hx]at hid;cases hid
    ·simp only[List.mem_singleton]at hx;subst hx;right;simpa[D.top]using hid
   ·rw[p2]at hrow;obtain⟨a,_,rfl⟩:=List.mem_map.1 hrow;simp only[List.mem_singleton]at hx;subst hx;simp[D.top]at hid
 have r1:Ab.Reach h [.one (.ptr ⟨id,0,9,0,0⟩),.one (.t y)] id:= .top (List.mem_cons_self ..) (by simp[D.top]);have r2:Ab.Reach h [.one (.ptr ⟨id,0,9,0,0⟩),.one (.t y)] sid:= .cell r1 (by rw[o2];exact List.mem_singleton.2 rfl) (List.mem_append.2 (.inr (List.mem_singleton.2 rfl))) (by simp[D.top]);refine⟨fun j hj=>?_,fun h' n' hh=>hs h' (hc.of (hh id r1) (hh sid r2)) n'⟩;rcases hr j hj with rfl | rfl
 ·rw[hc.obj];simp
 ·rw[hc.abs];simp
attribute [local simp] b44 b45 b46 b47 b48 b49 b5a b5b b5c c63 in
theorem P63(t:Ty)(ab:List Int)(id sid ver:Nat)(h:Hp)(hc:CK t ab id sid ver h)(i:Nat)(x:Nd)(a:Int)(hx:t.limits[i]? =some x)(hxs:x.s.size≤9223372036854775807)(hl:t.limits.length≤20)(ha:ab[i]? =some a)(n0:Nat):
  ISp prog 63 h n0 [.one (.ptr ⟨id,0,9,0,0⟩),.one (.t (I i))] (.one (.t (I (kJ t x (i+1==t.limits.length) a)))) h:=by
 obtain⟨rt,hrt⟩:∃ b,(i+1==t.limits.length)=b:=⟨_,rfl⟩;rw[hrt]
 have aOB:((i:Int)==(t.limits.length:Int) - 1)=rt:=by
  rw[←hrt,Bool.eq_iff_iff];simp;omega
 have hw:IntKind.i64.wrap ((t.limits.length:Int) - 1)=(t.limits.length:Int) - 1:=wrap_i64 (by omega) (by omega);obtain⟨R0,hR0⟩:∃ R,kJ t x rt a=R:=⟨_,rfl⟩;rw[hR0];refine ISp.ok fun ho=>?_
 have h1:=fZ ho hc.obj;have h2:=fZ ho hc.abs;refine k63.gQ (by simp) ?_;obtain⟨o1,o2,o3,o4⟩:=aK hc.obj;obtain⟨p1,p2,p3,p4⟩:=aK hc.abs;have hi:i<t.limits.length:=(gS9.1 hx).1;have hiI:(i:Int)<(t.limits.length:Int):=by omega
 obtain⟨b7,e7⟩:∃ b,(x.k != 7)=b:=⟨_,rfl⟩
 have fin:∀ (R:Int) (st:St),R=R0→st.tmps 4= .one (.t (I R))→(∀j,j<n0→st.heap j=h j)→gF [.tmp 4] (.one (.t (I R0))) h n0 .ret st:=fun R st hR hs hh=>by
  subst hR;exact dQ (.inr rfl) hs hh ho
 have hne:¬ id=n0+1+8:=by omega
 have wX:¬ sid=n0+1+8:=by omega
 obtain⟨sb,es⟩:∃ b,dI t.kind x.k a=b:=⟨_,rfl⟩;obtain⟨E,hE⟩:∃ E,bZ [if b7||rt then 0 else 28,if sb then 0 else 17]=E:=⟨_,rfl⟩;have p79:=P79 [if b7||rt then 0 else 28,if sb then 0 else 17] (by simp[short]);rw[hE]at p79;obtain⟨b0,hb0⟩:∃ b,(b7||rt)=b:=⟨_,rfl⟩
 have hR1:(if E != 0 then E else if x.k==0 then(if kQ x (hZ t.kind a)then 0 else 3)else if x.k==1 then bZ [if cC t x.s a then 0 else 17,if x.s.size≤200 then 0 else 2] else 0)=R0:=by
  rw[←hR0,←hE];simp only[kJ,e7,es]
 rw[hb0]at p79;simp -implicitDefEqProofs [hne,o1,o2,o3,hi,hiI,aE hx,Nd.row,e7,aOB,hw,hb0,-List.getElem_map];refine aD.tree (P81 b0 28) rfl ?_;simp -implicitDefEqProofs;refine aD.imp (aX7 t ab id sid ver _ (hc.of (by simp[Hp.set,hne]) (by simp[Hp.set,wX])) i x a hx ha _) ?_;rw[es];simp -implicitDefEqProofs;refine aD.tree (P81 sb 17) rfl ?_;simp -implicitDefEqProofs;refine aD.pure p79 (by simp) (by simp) ?_;rcases eqCases E 0 with z | z
 ·subst z;rcases eqCases x.k 0 with k0 | k0
  ·obtain⟨B,hB⟩:∃ B,hZ t.kind a=B:=⟨_,rfl⟩;obtain⟨blo,bhi⟩:=B;obtain⟨c1,ec1⟩:∃ y,decide (x.lo≤x.hi)=y:=⟨_,rfl⟩;obtain⟨c2,ec2⟩:∃ y,decide (blo≤x.lo)=y:=⟨_,rfl⟩;obtain⟨c3,ec3⟩:∃ y,decide (x.hi≤bhi)=y:=⟨_,rfl⟩
   have hR2:(if c1&&c2&&c3 then 0 else 3)=R0:=by
    rw[←hR1,hB];simp[k0,kQ,ec1,ec2,ec3]
   simp -implicitDefEqProofs [k0];refine aD.imp (aXB t ab id sid ver _ (hc.of (by simp[Hp.set,hne]) (by simp[Hp.set,wX])) i a ha _) ?_;rw[hB];clear hE hR1;cases c1<;>cases c2<;>cases c3
   all_goals simp -implicitDefEqProofs [ec1,ec2,ec3]
   all_goals refine aD.tree (P81 _ 3) rfl ?_
   all_goals simp -implicitDefEqProofs
   all_goals exact fin _ _ hR2 (by exact rfl) (fun j hj=>by simp only[Hp.set];repeat rw[if_neg (by omega)])
  ·rcases eqCases x.k 1 with k1 | k1
   ·obtain⟨tf,etf⟩:∃ b,cC t x.s a=b:=⟨_,rfl⟩;obtain⟨w,ew⟩:∃ y,decide ((x.s.size:Int)≤200)=y:=⟨_,rfl⟩
    have ew':(if x.s.size≤200 then(0:Int)else 2)=if w then 0 else 2:=by
     rw[←ew]
     by_cases q:x.s.size≤200
     ·simp[q];omega
     ·simp[q];omega
    obtain⟨F,hF⟩:∃ F,bZ [if tf then 0 else 17,if w then 0 else 2]=F:=⟨_,rfl⟩;have q79:=P79 [if tf then 0 else 17,if w then 0 else 2] (by simp[short]);rw[hF]at q79;have hR2:F=R0:=by rw[←hR1,etf,ew',hF];simp[k1]
    simp -implicitDefEqProofs [k1];refine aD.look (CK.look (hc.of (by simp[Hp.set,hne]) (by simp[Hp.set,wX])) fun h' hc' n'=>aXC t ab id sid ver h' hc' i x a hx hxs ha n') ?_;rw[etf];simp -implicitDefEqProofs;refine aD.bN (P81 tf 17) rfl ?_;simp -implicitDefEqProofs [ew];refine aD.bN (P81 w 2) rfl ?_;simp -implicitDefEqProofs;refine aD.draw q79 (by simp) (by simp) (.inl rfl) ?_;simp -implicitDefEqProofs;exact fin _ _ hR2 (by exact rfl) (fun j hj=>by simp[Hp.set];omega)
   ·simp -implicitDefEqProofs [k0,k1];exact fin 0 _ (by rw[←hR1];simp[k0,k1]) (by exact rfl) (fun j hj=>by simp[Hp.set];omega)
 ·simp -implicitDefEqProofs [z];exact fin E _ (by rw[←hR1];simp[z]) (by exact rfl) (fun j hj=>by simp[Hp.set];omega)
end
section
attribute [-simp] Go.Ab.aA Go.Ab.gval
attribute [local simp] bE aM aQ aG aV aO aX tyC fdC vlC ndC aL D.cR D.pt
theorem oB:∀ {l:List Int},l.findIdx? (fun e=>e != 0)=none→cV l=((l.length:Int),0)
 | [],_=>rfl
 | e::r,h=>by
  rw[List.findIdx?_eq_none_iff]at h;have he:e=0:=by simpa using h e (by simp)
  have ih:=oB (l:=r) (by rw[List.findIdx?_eq_none_iff];exact fun x hx=>h x (by simp[hx]));simp only[cV,he,beq_self_eq_true,if_true,ih,List.length_cons];simp
theorem oC:∀ {l:List Int} {i:Nat} {e:Int},l.findIdx? (fun e=>e != 0)=some i→l[i]? =some e→cV l=((i:Int),e)
 | [],i,e,h,_=>by simp at h
 | x::r,i,e,h,he=>by
  rw[List.findIdx?_cons]at h
  by_cases hx:x=0
  ·simp only[hx,bne_self_eq_false,Bool.false_eq_true,if_false,oM9]at h;obtain⟨j,hj,rfl⟩:=h;have ih:=oC (l:=r) hj (by simpa using he);simp only[cV,hx,beq_self_eq_true,if_true,ih];simp
  ·have hb:(x != 0)=true:=by simpa using hx
   simp only[hb,if_true,sI9]at h;subst h;have:x=e:=by simpa using he
   subst this;simp[cV,hx]
theorem aEB{t:Ty}{f:Nat→Int}{i:Nat}{y:Int}(h:(jK t f)[i]? =some y):∃ x,t.limits[i]? =some x∧y=kJ t x (i+1==t.limits.length) (f i):=by
 simp only[jK,List.getElem?_mapIdx,oM9]at h;obtain⟨x,hx,rfl⟩:=h;exact⟨x,hx,rfl⟩
theorem qB{t:Ty}{f:Nat→Int}:(jK t f).length=t.limits.length:=by simp[jK]
def eK(t:Ty):Int×Int:=if t.check != 0 then(0,t.check)else rI t
theorem dE(t:Ty)(h:t.check=0):bC t.limits=true:=by
 have h1:t.cG=0:=by
  rw[Ty.check]at h;split at h
  ·cases h
  ·exact h
 rw[Ty.nX]at h1
 have h2:t.dR=0:=by
  split at h1
  ·rename_i e;rw[h1]at e;simp at e
  ·split at h1
   ·rename_i e;rw[h1]at e;simp at e
   ·rename_i e;simpa using e
 have h3:=(xH t h2).2;rw[Ty.eH]at h3;exact((Bool.and_eq_true _ _).mp h3).2
attribute [local simp] a8q a8r a8s a8t a8u a8v a8w a8x a8y a8z a8A a8B a8C a8D a8E a8F a8G a8H a8I a8J c14 in
theorem aGB(t:Ty)(hn:t.narrow=true)(h0:bC t.limits=true)(hl0:¬ t.limits.length=0)(a:Int)(ha:eJ t.kind=a)(st:St)(h1:st.tmps 1= .one (.ptr ⟨0,0,8,0,0⟩))(hh0:st.heap 0=some (.arr 0 false 8 [tyC t]))
  (h5:st.tmps 5= .one (.ptr ⟨18,0,9,0,0⟩)) (h6:st.tmps 6= .one (.t (I a))) (hc:CK t (List.replicate t.limits.length 0) 18 16 0 st.heap) (hnx:18<st.nx):
  aZ prog 61 (aC [.tmp 2,.tmp 3] (.tup [.one (.t (I (cV (jK t (lk (cL t)))).1)),.one (.t (I (cV (jK t (lk (cL t)))).2))])) a8E [] st:=by
 obtain⟨R0,hR0⟩:∃ R,cV (jK t (lk (cL t)))=R:=⟨_,rfl⟩;rw[hR0];obtain⟨hlen,bg,T⟩:=bX h0;obtain⟨_,_,_,_,_,hns,_,_⟩:=(Ty.aU t).1 hn;have hw:IntKind.i64.wrap ((t.limits.length:Int) - 1)=((t.limits.length - 1:Nat):Int):=by rw[wrap_i64 (by omega) (by omega)];omega
 obtain⟨o1,o2,o3,o4⟩:=aK hh0;have pl:eI gH t.limits t.limits.length (t.limits.length - 1) a (List.replicate t.limits.length 0)=cL t:=by rw[cL,ha]
 have p62:=fun n=>P62 t bg T hlen (fun x hx=>by have:=(hns x hx).2;simp only[short];omega) 18 16 0 t.limits.length (t.limits.length - 1) a (List.replicate t.limits.length 0) st.heap n (by omega) (by omega) hc
 rw[pl]at p62;have hpl:(cL t).length=t.limits.length:=by rw[cL,lP];simp
 have hc2:CK t (cL t) 18 16 0 (jD st.heap 16 0 (cL t)):=hc.put (by rw[hpl];simp)
 have hz:(jD st.heap 16 0 (cL t)) 0=some (.arr 0 false 8 [tyC t]):=by
  simp only[jD,Hp.set];rw[if_neg (by omega)];exact hh0
 simp -implicitDefEqProofs [h1,h5,h6,o1,o2,o3,hw];refine aD.imp (p62 _) ?_;generalize jD st.heap 16 0 (cL t)=h2 at*;obtain⟨o1,o2,o3,o4⟩:=aK hz;simp -implicitDefEqProofs [h1,o1,o2,o3];refine nU (jK t (lk (cL t))) (fun e=>e != 0) [1,5,46] [0,16,18] (fun i st=>st.tmps 47= .one (.t (I i))) (by rw[short,qB];omega) ?_ ?_ ?_
 ·exact⟨by simp,by simp,by simp;omega⟩
 ·intro i y st' hi hiI hw hg hy hany hx hk hh;simp[h1,h5]at hk;rw[qB]at hi hiI;obtain⟨x,hxl,hyx⟩:=aEB hg;simp at hh;obtain⟨⟨q0,n0⟩,⟨q16,n16⟩,q18,n18⟩:=hh
  have hal:(cL t)[i]? =some (lk (cL t) i):=by
   have:i<(cL t).length:=by omega
   simp[lk,gE9 this]
  have p63:=fun n=>P63 t (cL t) 18 16 0 st'.heap (hc2.of q18 q16) i x (lk (cL t) i) hxl (by have:=(hns x (gM9 hxl)).1;omega) hlen hal n
  rw[←hyx]at p63;simp -implicitDefEqProofs [hx,hk,hiI];refine aD.imp (p63 _) ?_;rcases eqCases y 0 with z | z
  ·subst z;simp -implicitDefEqProofs [hx,hk,hw,q0,q16,q18];exact⟨⟨h1.symm,h5.symm⟩,by omega,by omega⟩
  ·have hf:=oC (hany z.2.2.2.2.1) hg;rw[hf]at hR0;subst hR0;simp -implicitDefEqProofs [z,aC]
 ·intro st' hany hx hk hh;simp[h1,h5]at hk;simp at hh;rw[qB]at hx;have hf:=oB hany;rw[hf,qB]at hR0;subst hR0;obtain⟨o1,o2,o3,o4⟩:=aK (hh.1.1.trans hz);simp -implicitDefEqProofs [hx,hk,o1,o2,o3,aC]
attribute [local simp] a8q a8r a8s a8t a8u a8v a8w a8x a8y a8z a8A a8B a8C a8D a8F a8G a8H a8I a8J c14 in
theorem P14(t:Ty)(hn:t.narrow=true):PSp prog 14 [.agg (tyC t)] (.tup [.one (.t (I (eK t).1)),.one (.t (I (eK t).2))]):=by
 have hfine:=Ty.kF t hn;obtain⟨R0,hR0⟩:∃ R,eK t=R:=⟨_,rfl⟩;rw[hR0];refine k14.aI (by simp) (by simp[D.closed,A.closed]) rfl ?_;simp -implicitDefEqProofs;have p59:=P59 t hn;refine aD.tree p59 rfl ?_;rcases eqCases t.check 0 with z | z
 ·rw[z];have hR1:rI t=R0:=by rw[←hR0];simp[eK,z]
  have htree:=dE t z;obtain⟨hlen,bg,T⟩:=bX htree
  by_cases hl0:t.limits.length=0
  ·have aPW:t.limits=[]:=List.length_eq_zero_iff.1 hl0;have:R0=(0,0):=by rw[←hR1];simp[rI,hl0]
   subst this;simp -implicitDefEqProofs [aPW,aC]
  ·have aLB:((t.limits.length:Int)==0)=false:=by simpa using hl0
   have b1:8*(t.limits.length:Int)≤281474976710656:=by omega
   have b2:(t.limits.length:Int)≤9223372036854775807:=by omega
   simp -implicitDefEqProofs [aLB,b1,b2];refine aD.tree (P60 t.kind) rfl ?_;have hc:∀ {h:Hp},h 18=some (.arr 0 false 9 [tyC t++[.ref 16 0 0 t.limits.length 1 true]])→h 16=some (.arr 0 false 1 (List.replicate t.limits.length [.t (I 0)]))→CK t (List.replicate t.limits.length 0) 18 16 0 h:=fun e1 e2=>⟨by simpa using e1,by simpa using e2,by simp⟩
   have hO:∀ a,eJ t.kind=a→(eJ t.kind==0&&t.kind != 2)=false→cV (jK t (lk (cL t)))=R0:=fun a _ h2=>by
    rw[←hR1];simp[rI,hl0,h2]
   obtain⟨s,es⟩:∃ s,(t.kind==6||t.kind==4||t.kind==5)=s:=⟨_,rfl⟩;rw[es];cases s
   ·simp -implicitDefEqProofs;refine aD.tree (P61 t.kind) rfl ?_;obtain⟨l,el⟩:∃ l,(t.kind==11||t.kind==12)=l:=⟨_,rfl⟩;rw[el];cases l
    ·rcases eqCases t.kind 2 with k2 | k2
     ·have hp:eJ t.kind=0:=by simp[eJ,k2]
      rw[←hO 0 hp (by simp[k2])];simp -implicitDefEqProofs [k2];exact aGB t hn htree hl0 0 hp _ (by simp) (by simp[Hp.set,k2]) (by simp) (by simp) (hc (by simp[Hp.set,k2]) (by simp[Hp.set])) (by simp)
     ·have hp:eJ t.kind=0:=by simp only[eJ,es,el];rfl
      have:R0=(0,4):=by rw[←hR1];simp[rI,hl0,hp,k2]
      subst this;simp -implicitDefEqProofs [k2,aC]
    ·have hp:eJ t.kind=2:=by simp only[eJ,es,el];rfl
     rw[←hO 2 hp (by rw[hp];rfl)];simp -implicitDefEqProofs;exact aGB t hn htree hl0 2 hp _ (by simp) (by simp[Hp.set]) (by simp) (by simp) (hc (by simp[Hp.set]) (by simp[Hp.set])) (by simp)
   ·have hp:eJ t.kind=1:=by simp only[eJ,es];rfl
    rw[←hO 1 hp (by rw[hp];rfl)];simp -implicitDefEqProofs;exact aGB t hn htree hl0 1 hp _ (by simp) (by simp[Hp.set]) (by simp) (by simp) (hc (by simp[Hp.set]) (by simp[Hp.set])) (by simp)
 ·have:R0=(0,t.check):=by rw[←hR0];simp[eK,z]
  subst this;simp -implicitDefEqProofs [z,aC]
end
section
attribute [-simp] Go.Ab.aA Go.Ab.gval
attribute [local simp] bE aM aQ aG aV aO aX tyC fdC vlC ndC aL D.cR D.pt
def AB(t:Ty)(ab:List Int)(sid:Nat)(st:St):Prop:=st.tmps 1= .one (.ptr ⟨0,0,8,0,0⟩)∧st.heap 0=some (.arr 0 false 8 [tyC t])∧st.tmps 3= .one (.ref sid 0 0 ab.length 1 true)∧st.heap sid=some (.arr 0 false 1 (ab.map fun a=>[.t (I a)]))∧sid<st.nx∧0<sid
theorem aP8{s:List Int}{i:Nat}(h:i<s.length):s[i]? =some (lk s i):=by
 simp[lk,gE9 h]
theorem AB.put{t:Ty}{s:List Int}{sid:Nat}{st:St}(h:AB t s sid st){tm:Nat→D}{nx c:Nat}{v:Int}(h1:tm 1=st.tmps 1)(h3:tm 3=st.tmps 3)(hn:st.nx≤nx):
  AB t (s.set c v) sid ⟨tm,st.heap.set sid (.arr 0 false 1 ((s.map fun a=>[.t (I a)]).set c [.t (I v)])),nx⟩:=by
 obtain⟨b1,b2,b3,b4,b5,b6⟩:=h;have u:¬ 0=sid:=by omega
 exact⟨h1.trans b1,by simp[Hp.set,u,b2],by rw[List.length_set];exact h3.trans b3,by simp[Hp.set,List.map_set],Nat.lt_of_lt_of_le b5 hn,b6⟩
attribute [local simp] a9Z a90 a92 a94 a95 a96 a97 a98 a99 b0a b0b b0c b0d b0e b0f b0g b0h c114 in
theorem aP9(t:Ty)(ab:List Int)(sid i:Nat)(x:Nd)(hx:t.limits[i]? =some x)(hl:ab.length=t.limits.length)(_hlen:t.limits.length≤20)(hargs:∀ a∈x.args,∃c:Nat,a=(c:Int)∧c<i)(hsa:short x.args)(st:St)(h:AB t ab sid st)(h4:st.tmps 4= .one (.t (I i)))(A:Exit→St→Prop)(ks:List KF)
  (rest:∀ st',AB t (fF oP x i ab) sid st'→st'.tmps 4= .one (.t (I i))→cX prog 61 A ks .normal st'):aZ prog 61 A b0c ks st:=by
 obtain⟨b1,b2,b3,b4,b5,b6⟩:=h;obtain⟨o1,o2,o3,o4⟩:=aK b2;have hi:i<t.limits.length:=(gS9.1 hx).1;have hiI:(i:Int)<(t.limits.length:Int):=by omega
 simp -implicitDefEqProofs [b1,h4,o1,o2,o3,hi,hiI,aE hx,Nd.row,-List.getElem_map];refine oX x.args (fun b (c:Int)=>b.set c.toNat (oP x.k (lk b i))) ab [] [] (fun k s st'=>(∃N,st'.tmps 5= .one (.ptr ⟨N,0,5,0,0⟩)∧st'.heap N=some (.arr 0 false 5 [ndC x])∧N<st'.nx∧N≠sid∧N≠0)∧AB t s sid st'∧st'.tmps 4= .one (.t (I i))∧st'.tmps 6= .one (.t (I k))∧s.length=ab.length) hsa ?_ ?_ ?_
 ·refine⟨⟨⟨_,by exact rfl,?_⟩,?_⟩,by simp,by simp⟩
  ·exact⟨by simp[Hp.set],by simp,by omega,by omega⟩
  ·have u1:¬ sid=st.nx+5:=by omega
   exact⟨⟨by simp[b1],by simp[Hp.set,b2],by simp[b3],by simp[Hp.set,b4,u1],by simp;omega,b6⟩,by simp[h4],by simp,rfl⟩
 ·rintro k y s st' hk hkI hw hg hy hs ⟨⟨N,n5,nh,nnx,nsid,n0⟩,⟨b1,b2,b3,b4,b5,b6⟩,h4,h6,hsl⟩ _ _;obtain⟨c,rfl,hci⟩:=hargs y hy;obtain⟨o1,o2,o3,o4⟩:=aK b2;obtain⟨p1,p2,p3,p4⟩:=aK nh;obtain⟨q1,q2,q3,q4⟩:=aK b4;have his:i<s.length:=by omega
  have aOC:(i:Int)<(s.length:Int):=by omega
  have hcs:c<s.length:=by omega
  have aQN:(c:Int)<(s.length:Int):=by omega
  have hsi:=aP8 his;have ha0:s[c]? =some (s[c]'hcs):=gE9 hcs;generalize lk s i=v at*;rcases eqCases x.k 2 with k2 | k2
  ·simp -implicitDefEqProofs [b3,h4,h6,n5,p1,p2,p3,q1,q2,q3,q4,hk,hkI,aE hg,his,aOC,hcs,aQN,fW hsi,fW ha0,k2,hw,-List.getElem_map];rw[show oP 2 v=5 by simp[oP]];exact⟨⟨by rw[nV nsid,nh];simp[k2],by omega,nsid,n0⟩,AB.put ⟨b1,b2,b3,b4,b5,b6⟩ (by simp) (by simp) (by omega),hsl⟩
  ·rcases eqCases x.k 3 with k3 | k3
   ·simp -implicitDefEqProofs [b3,h4,h6,n5,p1,p2,p3,q1,q2,q3,q4,hk,hkI,aE hg,his,aOC,hcs,aQN,fW hsi,fW ha0,k3,hw,-List.getElem_map];rw[show oP 3 v=6 by simp[oP]];exact⟨⟨by rw[nV nsid,nh];simp[k3],by omega,nsid,n0⟩,AB.put ⟨b1,b2,b3,b4,b5,b6⟩ (by simp) (by simp) (by omega),hsl⟩
   ·simp -implicitDefEqProofs [b3,h4,h6,n5,p1,p2,p3,q1,q2,q3,q4,hk,hkI,aE hg,his,aOC,hcs,aQN,fW hsi,fW ha0,k2,k3,hw,-List.getElem_map];rw[show oP x.k v=v by simp[oP,k2,k3]];exact⟨⟨by rw[nV nsid,nh];simp,by omega,nsid,n0⟩,AB.put ⟨b1,b2,b3,b4,b5,b6⟩ (by simp) (by simp) (by omega),hsl⟩
 ·rintro st' ⟨⟨N,n5,nh,nnx,nsid,n0⟩,hab,h4,h6,hsl⟩ _ _;obtain⟨p1,p2,p3,p4⟩:=aK nh;simp -implicitDefEqProofs [h6,n5,p1,p2,p3];refine rest _ ?_ ?_
  ·obtain⟨b1,b2,b3,b4,b5,b6⟩:=hab;exact⟨by simp[b1],by simp[b2],by simp[b3,fF],by simp[b4,fF],by simp;omega,b6⟩
  ·simp[h4]
attribute [local simp] a9Z a90 a92 a94 a95 a96 a97 a98 a99 b0a b0b b0d b0e b0f b0g b0h c114 in
theorem aXD(t:Ty)(hn:t.narrow=true)(h0:bC t.limits=true):PSp prog 114 [.agg (tyC t)] (.one (.t (aX (fX t)))):=by
 obtain⟨hlen,bg,T⟩:=bX h0;obtain⟨_,_,_,_,_,hns,_,_⟩:=(Ty.aU t).1 hn;have p49:PSp prog 49 [.one (.t (I t.kind))] (.one (.t (I (iD t.kind)))):=P49 t.kind;have hw:IntKind.i64.wrap ((t.limits.length:Int) - 1)=(t.limits.length:Int) - 1:=wrap_i64 (by omega) (by omega);have b1:8*(t.limits.length:Int)≤281474976710656:=by omega
 have b2:(t.limits.length:Int)≤9223372036854775807:=by omega
 refine k114.aI (by simp) (by simp[D.closed,A.closed]) (by simp[D.closed,A.closed]) ?_;simp -implicitDefEqProofs [b1,b2,hw];refine W.cU (fun k st=>∃ ab,AB t ab 5 st∧st.tmps 4= .one (.t (I ((k:Int) - 1)))∧k≤t.limits.length∧ab.length=t.limits.length∧gD oP t.limits k (if k=t.limits.length then ab.set (t.limits.length - 1) (iD t.kind)else ab)=fX t) t.limits.length ⟨List.replicate t.limits.length 0,⟨by simp,by simp[Hp.set],by simp,by simp[Hp.set],by simp,by simp⟩,by simp,by simp,by simp,by simp[fX]⟩ ?_;rintro k st ⟨ab,hab,h4,hk,hl,hgo⟩;rcases k with - | i
 ·have e4:((0:Nat):Int) - 1= -1:=by omega
  rw[e4]at h4;obtain⟨c1,c2,c3,c4,c5,c6⟩:=hab
  have eab:ab=fX t:=by
   rw[←hgo,gD];split
   ·rename_i e;have:ab=[]:=List.length_eq_zero_iff.1 (by omega);rw[this];rfl
   ·rfl
  subst eab;simp -implicitDefEqProofs [h4,c3,aC];exact nZ (rs:=(fX t).map fun a=>[I a]) (by rw[c4];simp[Function.comp_def]) (by simp)
 ·have e4:((i+1:Nat):Int) - 1=i:=by omega
  rw[e4]at h4;have hwi:IntKind.i64.wrap ((i:Int) - 1)=(i:Int) - 1:=wrap_i64 (by omega) (by omega);have hx:t.limits[i]? =some (t.limits[i]'(by omega)):=gE9 _;generalize t.limits[i]'(by omega)=x at hx
  have hargs:∀ a∈x.args,∃c:Nat,a=(c:Int)∧c<i:=fun a ha=>by
   obtain⟨c,q1,q2,_⟩:=(T.node i x hx).arg a ha;exact⟨c,q1,q2⟩
  have hsa:short x.args:=by have:=(hns x (gM9 hx)).2;simp only[short];omega
  have fin:∀ ab1:List Int,ab1.length=t.limits.length→gD oP t.limits (i+1) ab1=fX t→∀st',AB t (fF oP x i ab1) 5 st'→∀(tm:Nat→D) (nx':Nat),tm 1=st'.tmps 1→tm 3=st'.tmps 3→st'.nx≤nx'→
    ∃k':Nat,k'<i+1∧∃ab,AB t ab 5 ⟨tm,st'.heap,nx'⟩∧(i:Int)=(k':Int)∧k'≤t.limits.length∧ab.length=t.limits.length∧gD oP t.limits k' (if k'=t.limits.length then ab.set (t.limits.length - 1) (iD t.kind)else ab)=fX t:=by
   intro ab1 hl1 hg1 st' hab' tm nx' g1 g3 hn';obtain⟨c1,c2,c3,c4,c5,c6⟩:=hab';refine⟨i,by omega,fF oP x i ab1,⟨g1.trans c1,c2,g3.trans c3,c4,Nat.lt_of_lt_of_le c5 hn',c6⟩,rfl,by omega,?_,?_⟩
   ·rw[(pF (f:=oP) (x:=x) (i:=i) (ab:=ab1) (by omega) hargs).1,hl1]
   ·rw[if_neg (by omega)];rw[gD,hx]at hg1;exact hg1
  by_cases hlast:i+1=t.limits.length
  ·rw[if_pos hlast]at hgo;have hb:((i:Int)==(t.limits.length:Int) - 1)=true:=by simp;omega
   obtain⟨c1,c2,c3,c4,c5,c6⟩:=hab;obtain⟨o1,o2,o3,o4⟩:=aK c2;obtain⟨q1,q2,q3,q4⟩:=aK c4;have his:i<ab.length:=by omega
   have aOC:(i:Int)<(ab.length:Int):=by omega
   have ha0:ab[i]? =some (ab[i]'his):=gE9 his;simp -implicitDefEqProofs [h4,c1,c3,hl,hw,hb,o1,o2,o3];refine aD.tree p49 rfl ?_;simp -implicitDefEqProofs [hl,q1,q2,q3,q4,ha0,-List.getElem_map];refine⟨by omega,?_⟩;refine aP9 t (ab.set i (iD t.kind)) 5 i x hx (by simp[hl]) hlen hargs hsa _ ?_ ?_ _ _ fun st' hab' h4'=>?_
   ·have c3':st.tmps 3= .one (.ref 5 0 0 ab.length 1 true):=c3;refine AB.put ⟨c1,c2,c3',c4,c5,c6⟩ ?_ ?_ ?_
    ·simp
    ·simp
    ·omega
   ·simp[h4]
   ·simp -implicitDefEqProofs [h4',hwi];refine fin (ab.set i (iD t.kind)) (by simp[hl]) ?_ st' hab' _ _ ?_ ?_ ?_
    ·have e:i=t.limits.length - 1:=by omega
     rw[←e]at hgo;exact hgo
    ·simp
    ·simp
    ·omega
  ·rw[if_neg hlast]at hgo;have hb:((i:Int)==(t.limits.length:Int) - 1)=false:=by simp;omega
   obtain⟨c1,c2,c3,c4,c5,c6⟩:=hab;simp -implicitDefEqProofs [h4,c3,hl,hw,hb];refine aP9 t ab 5 i x hx hl hlen hargs hsa _ ?_ ?_ _ _ fun st' hab' h4'=>?_
   ·exact⟨by simp[c1],by simp[c2],by simp[c3],by simp[c4],by first | (simp;done) | (simp;omega),c6⟩
   ·simp[h4]
   ·simp -implicitDefEqProofs [h4',hwi];refine fin ab hl hgo st' hab' _ _ ?_ ?_ ?_
    ·simp
    ·simp
    ·omega
end
section
attribute [-simp] Go.Ab.aA Go.Ab.gval
attribute [local simp] bE aM aQ aG aV aO aX tyC fdC vlC ndC aL D.cR D.pt
theorem aLC{t:Ty}{f:Nat→Int}{i:Nat}{y:Int}(h:(oM t f)[i]? =some y):∃ x,t.limits[i]? =some x∧y=oL t x (i+1==t.limits.length) (f i):=by
 simp only[oM,List.getElem?_mapIdx,oM9]at h;obtain⟨x,hx,rfl⟩:=h;exact⟨x,hx,rfl⟩
theorem qC{t:Ty}{f:Nat→Int}:(oM t f).length=t.limits.length:=by simp[oM]
theorem aEC{t:Ty}(h0:bC t.limits=true):(fX t).length=t.limits.length:=by
 obtain⟨hlen,bg,T⟩:=bX h0
 exact(qM (f:=oP) T t.limits.length _ (Nat.le_refl _) (by simp) ⟨fun p y p1 p2 py c hc=>by
  have:=(gS9.1 py).1
  omega⟩).1
attribute [local simp] a9F a9G a9H a9I a9J a9K a9L a9M a9N a9O a9P a9Q a9R a9S a9T a9U a9V a9W c68 in
theorem aLD(t:Ty)(hn:t.narrow=true)(h0:bC t.limits=true)(st:St)(h1:st.tmps 1= .one (.ptr ⟨0,0,8,0,0⟩))(hh0:st.heap 0=some (.arr 0 false 8 [tyC t]))(_hnx:0<st.nx):
  aZ prog 82 (aC [.tmp 2,.tmp 3] (.tup [.one (.t (I (cV (oM t (lk (fX t)))).1)),.one (.t (I (cV (oM t (lk (fX t)))).2))])) a9V [] st:=by
 obtain⟨R0,hR0⟩:∃ R,cV (oM t (lk (fX t)))=R:=⟨_,rfl⟩;rw[hR0];obtain⟨hlen,bg,T⟩:=bX h0;obtain⟨_,_,_,_,_,hns,_,_⟩:=(Ty.aU t).1 hn;have aXE:=aXD t hn h0;have hal:=aEC h0;obtain⟨o1,o2,o3,o4⟩:=aK hh0;generalize fX t=ab at*;simp -implicitDefEqProofs [h1,o1,o2,o3];refine aD.tree aXE rfl ?_;simp -implicitDefEqProofs;refine nU (oM t (lk ab)) (fun e=>e != 0) [1,4] [0] (fun i st=>st.tmps 5= .one (.t (I i))) (by rw[short,qC];omega) ?_ ?_ ?_
 ·exact⟨by simp,by simp,by first | (simp;done) | (simp;omega)⟩
 ·intro i y st' hi hiI hw hg hy hany hx hk hh;simp[h1]at hk;simp at hh;rw[qC]at hi hiI;obtain⟨x,hxl,hyx⟩:=aLC hg;obtain⟨o1,o2,o3,o4⟩:=aK (hh.1.trans hh0);have hb:ab[i]? =some (lk ab i):=aP8 (by omega);generalize lk ab i=b at*;obtain⟨rt,hrt⟩:∃ r,(i+1==t.limits.length)=r:=⟨_,rfl⟩;rw[hrt]at hyx;have hwl:IntKind.i64.wrap ((t.limits.length:Int) - 1)=(t.limits.length:Int) - 1:=wrap_i64 (by omega) (by omega)
  have aOB:decide ((i:Int)<(t.limits.length:Int) - 1)= !rt:=by
   rw[←hrt,Bool.eq_iff_iff];simp;omega
  have aCC:PSp prog 115 [.one (.t (I x.k)),.one (.t (I b))] (.one (.t (.bool (kZ x.k b)))):=aV4 x.k b;have aQO:=aX3 x b t.kind;have aTP:=aX4 t x.s b (by have:=(hns x (gM9 hxl)).1;omega);have hne:∀ k,¬0=st'.nx+k:=fun k=>by omega
  have stop:∀ e:Int,(e != 0)=true→y=e→R0=((i:Int),e):=fun e h1 h2=>by
   subst h2;rw[←hR0];exact oC (hany h1) hg
  have onz:(st'.heap 0=st.heap 0):=hh.1;have nz0:0<st'.nx:=hh.2;clear hany;rcases eqCases x.k 7 with k7 | k7
  ·cases rt
   ·have e:=stop 28 rfl (by rw[hyx];simp[oL,k7]);subst e;simp -implicitDefEqProofs [hx,hk,hi,hiI,aE hxl,Nd.row,o1,o2,o3,hal,hwl,aOB,k7,-List.getElem_map];simp -implicitDefEqProofs [aC]
   ·have ey:y=0:=by rw[hyx];simp[oL,k7,kZ]
    have es:kZ x.k b=true:=by simp[kZ,k7]
    rw[es,k7]at aCC;simp -implicitDefEqProofs [hx,hk,hi,hiI,aE hxl,aE hb,Nd.row,o1,o2,o3,hal,hwl,aOB,k7,-List.getElem_map];refine aD.bN aCC rfl ?_;simp -implicitDefEqProofs [hx,hk,hw,ey];exact⟨h1.symm,by rw[nV (by omega)];exact onz⟩
  ·obtain⟨sb,es⟩:∃ s,kZ x.k b=s:=⟨_,rfl⟩;rw[es]at aCC;cases sb
   ·have e:=stop 17 rfl (by rw[hyx];simp[oL,k7,es]);subst e;simp -implicitDefEqProofs [hx,hk,hi,hiI,aE hxl,aE hb,Nd.row,o1,o2,o3,hal,k7,-List.getElem_map];refine aD.bN aCC rfl ?_;simp -implicitDefEqProofs [hx,aC]
   ·rcases eqCases x.k 0 with k0 | k0
    ·obtain⟨nr,en⟩:∃ s,jP x b t.kind=s:=⟨_,rfl⟩;rw[en]at aQO;rw[k0]at aCC;simp only[ndC,k0]at aQO;simp -implicitDefEqProofs [hx,hk,hi,hiI,aE hxl,aE hb,Nd.row,o1,o2,o3,hal,k0,-List.getElem_map];refine aD.bN aCC rfl ?_;simp -implicitDefEqProofs [hx,hk,hi,hiI,aE hb,o1,o2,o3,hal,-List.getElem_map];refine aD.bN aQO rfl ?_;cases nr
     ·have ey:y=0:=by rw[hyx];simp only[oL,es];simp[k0,en]
      simp -implicitDefEqProofs [hx,hk,hw,ey];exact⟨h1.symm,by rw[nV (by omega)];exact onz⟩
     ·have e:=stop 3 rfl (by rw[hyx];simp only[oL,es];simp[k0,en]);subst e;simp -implicitDefEqProofs [hx,aC]
    ·rcases eqCases x.k 1 with k1 | k1
     ·obtain⟨E,eE⟩:∃ E,nE t x.s b=E:=⟨_,rfl⟩;rw[eE]at aTP;rw[k1]at aCC;simp -implicitDefEqProofs [hx,hk,hi,hiI,aE hxl,aE hb,Nd.row,o1,o2,o3,hal,k1,-List.getElem_map];refine aD.bN aCC rfl ?_;simp -implicitDefEqProofs [hx,hk,hi,hiI,aE hb,o1,o2,o3,hal,-List.getElem_map];refine aD.bN aTP rfl ?_;rcases eqCases E 0 with z | z
      ·have ey:y=0:=by rw[hyx];simp only[oL,es];simp[k1,eE,z]
       simp -implicitDefEqProofs [hx,hk,hw,ey,z];exact⟨h1.symm,by rw[nV (by omega)];exact onz⟩
      ·have e:=stop E (by simp[z]) (by rw[hyx];simp only[oL,es];simp[k1,eE]);subst e;simp -implicitDefEqProofs [hx,z,aC]
     ·have ey:y=0:=by rw[hyx];simp only[oL,es];simp[k0,k1,k7]
      simp -implicitDefEqProofs [hx,hk,hi,hiI,aE hxl,aE hb,Nd.row,o1,o2,o3,hal,k7,-List.getElem_map];refine aD.bN aCC rfl ?_;simp -implicitDefEqProofs [hx,hk,hi,hiI,aE hb,o1,o2,o3,hal,hw,ey,k0,k1,-List.getElem_map];exact⟨h1.symm,by rw[nV (by omega)];exact onz⟩
 ·intro st' hany hx hk hh;simp[h1]at hk;rw[qC]at hx;have hf:=oB hany;rw[hf,qC]at hR0;subst hR0;simp -implicitDefEqProofs [hx,hk,hal,aC]
attribute [local simp] a9F a9G a9H a9I a9J a9K a9L a9M a9N a9O a9P a9Q a9R a9S a9T a9U a9W c68 in
theorem P68(t:Ty)(hn:t.narrow=true)(h0:bC t.limits=true):PSp prog 68 [.agg (tyC t)] (.tup [.one (.t (I (yT t).1)),.one (.t (I (yT t).2))]):=by
 obtain⟨hlen,bg,T⟩:=bX h0;have p49:PSp prog 49 [.one (.t (I t.kind))] (.one (.t (I (iD t.kind)))):=P49 t.kind;obtain⟨R0,hR0⟩:∃ R,yT t=R:=⟨_,rfl⟩;rw[hR0];refine k68.aI (by simp) (by simp[D.closed,A.closed]) rfl ?_
 by_cases hl0:t.limits.length=0
 ·have aLB:¬ 0<t.limits.length:=by omega
  have:cV (oM t (lk (fX t)))=R0:=by rw[←hR0];simp[yT,hl0]
  subst this;simp -implicitDefEqProofs [aLB];refine aLD t hn h0 _ ?_ ?_ ?_
  ·simp
  ·simp[Hp.set]
  ·simp
 ·have aLB:0<t.limits.length:=by omega
  simp -implicitDefEqProofs [aLB];refine aD.tree p49 rfl ?_;rcases eqCases (iD t.kind) 0 with z | z
  ·have:R0=(0,4):=by rw[←hR0];simp[yT,hl0,z]
   subst this;simp -implicitDefEqProofs [z,aC]
  ·have:cV (oM t (lk (fX t)))=R0:=by rw[←hR0];simp[yT,z]
   subst this;simp -implicitDefEqProofs [z];refine aLD t hn h0 _ ?_ ?_ ?_
   ·simp
   ·simp[Hp.set]
   ·simp
def yU(t:Ty):Int×Int:=if t.kI != 0 then(0,t.kI)else yT t
attribute [local simp] c16 in
theorem P16(t:Ty)(hn:t.narrow=true):PSp prog 16 [.agg (tyC t)] (.tup [.one (.t (I (yU t).1)),.one (.t (I (yU t).2))]):=by
 refine k16.aI (by simp) (by simp[D.closed,A.closed]) rfl ?_;simp -implicitDefEqProofs;refine aD.tree (P67 t hn) rfl ?_;rcases eqCases t.kI 0 with z | z
 ·have h0:=dE t (by rw[←uV];exact z);have e:yU t=yT t:=by simp[yU,z]
  rw[e];simp -implicitDefEqProofs [z];refine aD.tree (P68 t hn h0) rfl ?_;simp -implicitDefEqProofs [aC]
 ·have e:yU t=(0,t.kI):=by simp[yU,z]
  rw[e];simp -implicitDefEqProofs [z,aC]
theorem aLE(t:Ty):eK t=yU t:=by
 simp only[eK,yU,uV];rcases eqCases t.check 0 with z | z
 ·simp only[z,bne_self_eq_false,Bool.false_eq_true,if_false];exact aL8 t (dE t z)
 ·simp[z]
end
section
attribute [local simp] bE aM aQ aG aV aO aX tyC fdC vlC ndC aL D.cR D.pt
theorem P20(a b:List Sp)(hl:a.length≤1000000):PSp prog 20 [.one (.t (spans a)),.one (.t (spans b))] (.one (.t (.bool (decide (a=b))))):=by
 refine k20.aI (by simp) rfl rfl ?_
 by_cases hlen:a.length=b.length
 ·simp[c20,a7w,a7x,b3Q,spans,hlen];refine W.cU (fun k st=>∃ i:Nat,k=a.length - i∧i≤a.length∧st.tmps 0= .one (.t (spans a))∧st.tmps 1= .one (.t (spans b))∧st.tmps 5= .one (.t (I i))∧a.take i=b.take i) a.length ⟨0,by simp,by simp,by simp[spans],by simp[spans],by simp,rfl⟩ ?_;rintro k st ⟨i,hk,hi,h0,h1,h5,ht⟩;rcases Nat.lt_or_ge i a.length with hlt | hge
  ·have hlt':i<b.length:=by omega
   have hw:IntKind.i64.wrap ((i:Int)+1)=(i:Int)+1:=wrap_i64 (by omega) (by omega);simp[a7z,a7y,b3R,h0,h1,h5,spans,hlt,hlt',spr];refine⟨fun hne=>?_,fun e1 e2=>?_⟩
   ·have hab:a≠b:=fun e=>by subst e;simp at hne
    simp[b3S,aC,hab]
   ·simp[b3T,h0,h1,h5,spans,hw];refine⟨a.length - (i+1),by omega,i+1,rfl,hlt,rfl,?_⟩;rw[List.take_add_one,List.take_add_one,ht,gE9 hlt,gE9 hlt',Prod.ext e1 e2]
  ·have:i=a.length:=by omega
   subst this;have e:a=b:=by rw[List.take_length,hlen,List.take_length]at ht;exact ht
   simp[a7z,a7y,b3U,h0,h5,spans,aC,e]
 ·have hne:a≠b:=fun e=>hlen (by rw[e])
  have aTQ:¬ (a.length:Int)=b.length:=by omega
  simp[c20,a7w,a7x,b3P,spans,aTQ,aC,hne]
end
end Go.Proofs.YtdpbobkcbakpfaaGreatDoor
namespace Go.Ab
set_option maxHeartbeats 4000000
section
open Go
variable {P:Program} {w w':World} {F F':Fix} {ν ν':Nu} {h:Hp} {nx:Nat} {tm:Nat→D} {a:Act} {n:Nat} {st:St}
def aPA(rs:List RV)(r:D)(h':Hp)(n0:Nat)(e:Exit)(st:St):Prop:=
 (e= .normal∨e= .ret)∧aA3 st rs∧lT st rs=r∧(∃sz rr,r= .one (.tt sz rr))∧
  (∀id,id<n0→st.heap id=h' id)∧(∀id,n0≤id→h' id=none)∧∀id o,h' id=some o→o.below n0=true
theorem Sim.cut{h h':Hp}{n0:Nat}(hs:Sim w F ν h nx)(h8:∀ id,id<n0→h id=h' id)(h9:∀ id,n0≤id→h' id=none)(h12:∀ id o,h' id=some o→o.below n0=true):
  Sim w F (mV ν n0) h' (n0+1):=by
 refine⟨hs.fixed,fun id o ho=>?_,fun id bv hn=>?_,fun i j b v1 v2 hi hj=>?_,hs.glob⟩
 ·have hlt:id<n0:=by
   rcases Nat.lt_or_ge id n0 with h | h
   ·exact h
   ·rw[h9 id h]at ho;cases ho
  have hob:=hs.obj id o (by rw[h8 id hlt];exact ho);have hbel:=h12 id o ho;cases o with
  | arr ver shut sz rs'=>
   obtain⟨b,e',m,k1,k2,k3,k4,k5,k6,k7⟩:=hob;refine⟨b,e',m,by simp[mV,hlt,k1],k2,k3,k4,k5,fun i j rr x hi hj=>?_,k7⟩;obtain⟨q1,u,q2,q3⟩:=k6 i j rr x hi hj;simp only[O.below,List.all_eq_true]at hbel;exact⟨q1,u,q2,q3.cut (hbel rr (gM9 hi) x (gM9 hj)) fun _ _ h=>h⟩
 ·obtain⟨q1,q2⟩:=kA hn;obtain⟨q3,q4,o,q5⟩:=hs.dom _ _ q2;exact⟨by omega,q4,o,by rw[←h8 id q1];exact q5⟩
 ·exact hs.inj _ _ _ _ _ (kA hi).2 (kA hj).2
theorem ISp.aTR{f:FuncId}{fn:Func}{c:Code}{ac:aB}{grow:Nat→Nat→Bool}{rs:List RV}(hf:P.funcs[f]? =some fn)(hb:fn.body=some c)(hc:aR P fn.ntmps grow c=some ac)
  (hres:dF P fn.results.toList=some rs) {xs:List D} {r:D} {h h':Hp} {n0:Nat} (hn:xs.length≤fn.ntmps) (hW:W P fn.ntmps ac (aPA rs r h' n0) ⟨gP xs,h,n0⟩):ISp P f h n0 xs r h':=by
 intro w F ν vs hs hv;refine callsIn_wide.1 (callsIn_of_wp_marks (n:=9) hf hb trivial (wpIn_mono (hW none 9 grow c (.inl ⟨rfl,Nat.le_refl _⟩) hc _ w F ν (sB hs hv hn)) (fun e a' w1 hq=>?_)));obtain⟨st',F',ν',⟨h1,h2,h3,⟨sz,rr,h4⟩,h8,h9,h12⟩,hcm⟩:=hq;refine kY h1 (aBR rfl hcm fun w' h5 h6=>?_);obtain⟨v,g1,g2⟩:=jV h5 hres h2;refine⟨v,g1,r,v,h',F',mV ν' n0,rfl,⟨rfl,rfl⟩,h5.sim.cut h8 h9 h12,?_,?_⟩
 ·rw[h3,h4]at g2;rw[h4];exact g2
 ·exact{
   os:=h6.os,tape:=h6.tape,output:=h6.output,size:=h6.size,keep:=h6.keep,cell:=h6.cell,sub:=h6.sub,new:=h6.new,shape:=h6.shape
   nu:=fun id b ver hh=>by
    obtain⟨b',ver',q1,q2⟩:=h6.nu id b ver hh;have:=(hs.dom _ _ hh).1;exact⟨b',ver',by simp[mV,this,q1],q2⟩
   nu':=fun id b ver hh=>h6.nu' id b ver (kA hh).2 }
theorem Compiled.ttK{P:Program}{f:FuncId}{n:Nat}{rs:List RV}{ac:aB}(hc:Compiled P f n rs ac){xs:List D}{r:D}{h h':Hp}{n0:Nat}(hn:xs.length≤n)(hW:aZ P n (aPA rs r h' n0) ac [] ⟨gP xs,h,n0⟩):ISp P f h n0 xs r h':=by
 obtain⟨fn,c,grow,h1,h2,h3,h4,rfl⟩:=hc.out;exact ISp.aTR h1 h2 h3 h4 hn (W.iB _ _ _ hW)
end
section
open Go Go.ChangeShapes Go.WideShapes Go.RowKit
inductive Shape (P:Program):TypeId→List T→Prop
 | bool {t:TypeId} (b:Bool) (h:P.underlying t=some .bool):Shape P t [.bool b]
 | int {t:TypeId} {k:IntKind} (n:Int) (h:P.underlying t=some (.int k)) (hw:(Lit.int k n).wf=true):Shape P t [.int k n]
 | str {t:TypeId} (s:ByteArray) (h:P.underlying t=some .string) (hw:s.size≤maxLen):Shape P t [.str s]
 | slice {t e:TypeId} (rs:List (List T)) (h:P.underlying t=some (.slice e)) (hl:rs.length≤maxLen) (hr:∀ r∈rs,Shape P e r):Shape P t [.rows (P.cellsOf e) rs]
 | strct {t:TypeId} {fs:Array Field} (pss:List (List T)) (h:P.underlying t=some (.struct fs)) (hl:pss.length=fs.size)
   (hp:∀ (i:Nat) f ps,fs[i]? =some f→pss[i]? =some ps→Shape P f.type ps):Shape P t pss.flatten
def pG(P:Program)(l:List TypeId):List Field→Nat→Option Nat
 | [],off=>some off
 | f::r,off=>if f.offset=off∧l.contains f.type=true then pG P l r (off+P.cellsOf f.type)else none
def lC(P:Program)(l:List TypeId):Bool:=
 l.all fun t=>match P.underlying t with
  | some .bool=>decide (P.cellsOf t=1)
  | some (.int _)=>decide (P.cellsOf t=1)
  | some .string=>decide (P.cellsOf t=1)
  | some (.slice e)=>l.contains e&&decide (P.cellsOf t=1)&&decide (0<P.cellsOf e)
  | some (.struct fs)=>match pG P l fs.toList 0 with
   | some n=>decide (n=P.cellsOf t)
   | none=>false
  | _=>false
def rJ(w:World):Fix:=fun b _=>b<w.heap.size
section
variable {H:Type} {enc:TypeId×Value→H} {P:Program} {w:World} {base:Nat} {sp:Nat→Bool} {held:Bool} {l:List TypeId}
def Reads(w:World)(ts:List T)(cs:List Value):Prop:=ts.length=cs.length∧∀(j:Nat) a v,ts[j]? =some a→cs[j]? =some v→VT w (rJ w) a v
theorem cells?_get{a:Addr}{n:Nat}{cs:List Value}(h:w.cells? base a n=some cs):cs.length=n∧∀i,i<n→w.cell? (a.add i)=cs[i]? :=by
 unfold World.cells? at h;split at h
 ·exact⟨by simpa using mapM_some_length h,fun i hi=>mapM_some_get h i i (by simp[hi])⟩
 ·cases h
theorem cell?_lt{a:Addr}{v:Value}(h:w.cell? a=some v):a.block<w.heap.size∧a.spot=none:=by
 unfold World.cell? at h;split at h
 ·rename_i c t f hb;split at h
  ·cases h
  ·rename_i hs;refine⟨(Array.getElem?_eq_some_iff.1 hb).1,?_⟩;cases hx:a.spot with
   | none=>rfl
   | some _=>rw[hx]at hs;simp at hs
 ·cases h
theorem collect{α:Type}(Q:Nat→α→Prop):∀ n,(∀i,i<n→∃x,Q i x)→∃rs:List α,rs.length=n∧∀(i:Nat) r,rs[i]? =some r→Q i r
 | 0,_=>⟨[],rfl,fun i r hr=>by simp at hr⟩
 | n+1,h=>by
  obtain⟨rs,r1,r2⟩:=collect Q n fun i hi=>h i (by omega)
  obtain⟨x,hx⟩:=h n (Nat.lt_succ_self _);refine⟨rs++[x],by simp[r1],fun i r hr=>?_⟩;rcases Nat.lt_or_ge i rs.length with g | g
  ·rw[List.getElem?_append_left g]at hr;exact r2 i r hr
  ·rw[List.getElem?_append_right g]at hr
   have:i=n:=by
    rcases Nat.eq_zero_or_pos (i - rs.length)with q | q
    ·omega
    ·rw[List.getElem?_eq_none (by simp;omega)]at hr;cases hr
   subst this;rw[r1,Nat.sub_self]at hr;simp at hr;subst hr;exact hx
theorem uX(hl:lC P l=true){n:Nat}(ih:∀ (t:TypeId) (cs:List Value) x,l.contains t=true→DataW.trod enc P w base sp held n t cs=some x→∃ts,ts.length=P.cellsOf t∧Shape P t ts∧Reads w ts cs)(cs:List Value):
  ∀(fs:List Field) (off tot:Nat),pG P l fs off=some tot→tot≤cs.length→(∀(i:Nat) f,fs[i]? =some f→∃x,DataW.trod enc P w base sp held n f.type ((cs.drop f.offset).take (P.cellsOf f.type))=some x)→
   ∃pss:List (List T),pss.length=fs.length∧pss.flatten.length=tot - off∧off≤tot∧(∀(i:Nat) f ps,fs[i]? =some f→pss[i]? =some ps→Shape P f.type ps)∧∀(j:Nat) a v,pss.flatten[j]? =some a→cs[off+j]? =some v→VT w (rJ w) a v
 | [],off,tot,h,_,_=>by
  simp only[pG,sI9]at h;subst h;exact⟨[],rfl,by simp,Nat.le_refl _,fun i f ps hf=>by simp at hf,fun j a v ha=>by simp at ha⟩
 | f::r,off,tot,h,hc,hx=>by
  simp only[pG]at h;split at h
  ·rename_i hf;obtain⟨pss,q1,q2,q3,q4,q5⟩:=uX hl ih cs r _ tot h hc fun i f' hf'=>hx (i+1) f' (by simpa using hf')
   obtain⟨x,hx0⟩:=hx 0 f rfl;obtain⟨ts,t1,t2,t3,t4⟩:=ih _ _ _ hf.2 hx0;refine⟨ts::pss,by simp[q1],by simp[q2,t1];omega,by omega,fun i f' ps hf' hp=>?_,fun j a v ha hv=>?_⟩
   ·rcases i with - | i
    ·simp at hf' hp;subst hf';subst hp;exact t2
    ·exact q4 i f' ps (by simpa using hf') (by simpa using hp)
   ·simp only[List.flatten_cons]at ha;rcases Nat.lt_or_ge j ts.length with g | g
    ·rw[List.getElem?_append_left g]at ha;refine t4 j a v ha ?_;rw[hf.1,List.getElem?_take,if_pos (by omega),List.getElem?_drop];exact hv
    ·rw[List.getElem?_append_right g]at ha;refine q5 (j - ts.length) a v ha ?_;rw[show off+P.cellsOf f.type+(j - ts.length)=off+j by omega];exact hv
  ·cases h
theorem conv(hl:lC P l=true):∀ (n:Nat) (t:TypeId) (cs:List Value) x,l.contains t=true→DataW.trod enc P w base sp held n t cs=some x→∃ts,ts.length=P.cellsOf t∧Shape P t ts∧Reads w ts cs:=by
 intro n
 induction n with
 | zero=>intro t cs x _ h;simp[DataW.trod]at h
 | succ n ih=>
  intro t cs x ht h;have hk:=List.all_eq_true.1 hl t (by simpa using ht)
  have one:∀ (a:T) (v:Value),VT w (rJ w) a v→Reads w [a] [v]:=fun a v hv=>⟨rfl,fun j a' v' ha hv'=>by
   rcases j with - | j
   ·simp at ha hv';subst ha;subst hv';exact hv
   ·simp at ha⟩
  split at hk
  ·rename_i hu;obtain⟨b,rfl,_⟩:=DataW.trod_bool hu h;exact⟨[.bool b],by simpa using(of_decide_eq_true hk).symm,.bool b hu,one _ _ (.bool b)⟩
  ·rename_i k hu;obtain⟨m,rfl,_,hw⟩:=DataW.trod_int hu h;exact⟨[.int k m],by simpa using(of_decide_eq_true hk).symm,.int m hu hw,one _ _ (.int k m)⟩
  ·rename_i hu;obtain⟨s,rfl,_,hw⟩:=DataW.trod_string hu h;exact⟨[.str s],by simpa using(of_decide_eq_true hk).symm,.str s hu hw,one _ _ (.str s)⟩
  ·rename_i e hu;simp only[Bool.and_eq_true,decide_eq_true_eq]at hk;obtain⟨⟨he,h1⟩,h0⟩:=hk;rcases DataW.trod_slice hu h with⟨rfl,_⟩ | ⟨a,len,cap,elems,rest,n',hn,rfl,_,_,hlc,hcm,hel,hev,_,_⟩
   ·exact⟨[.rows (P.cellsOf e) []],by simp[h1],.slice [] hu (by simp) (by simp),one _ _ (.nils _ _ _)⟩
   ·obtain rfl:n'=n:=by omega
    have hrow:∀ i,i<len→∃ts cs',ts.length=P.cellsOf e∧Shape P e ts∧Reads w ts cs'∧w.cells? base (a.add (i*P.cellsOf e)) (P.cellsOf e)=some cs':=fun i hi=>by
     have:=hev i hi;rw[gE9 (by omega),oB9]at this;obtain⟨cs',c1,c2⟩:=this;obtain⟨ts,t1,t2,t3⟩:=ih _ _ _ he c2;exact⟨ts,cs',t1,t2,t3,c1⟩
    obtain⟨rs,r1,r2⟩:∃ rs:List (List T),rs.length=len∧∀(i:Nat) r,rs[i]? =some r→r.length=P.cellsOf e∧Shape P e r∧∃cs',Reads w r cs'∧w.cells? base (a.add (i*P.cellsOf e)) (P.cellsOf e)=some cs':=by
     obtain⟨rs,r1,r2⟩:=collect (fun i ts=>ts.length=P.cellsOf e∧Shape P e ts∧∃cs',Reads w ts cs'∧w.cells? base (a.add (i*P.cellsOf e)) (P.cellsOf e)=some cs') len fun i hi=>by
      obtain⟨ts,cs',t1,t2,t3,t4⟩:=hrow i hi;exact⟨ts,t1,t2,cs',t3,t4⟩
     exact⟨rs,r1,fun i r hr=>r2 i r hr⟩
    refine⟨[.rows (P.cellsOf e) rs],by simp[h1],.slice rs hu (by omega) (fun r hr=>?_),one _ _ ?_⟩
    ·obtain⟨i,hi,rfl⟩:=List.getElem_of_mem hr;exact(r2 i _ (gE9 hi)).2.1
    ·rcases Nat.eq_zero_or_pos len with hz | hp
     ·subst hz;have:rs=[]:=List.length_eq_zero_iff.1 r1;subst this;exact .nils _ _ _
     ·have cellAt:∀ i j,i<rs.length→j<P.cellsOf e→∃v,w.cell? ((a.add (i*P.cellsOf e)).add j)=some v∧∀(r:List T) x,rs[i]? =some r→r[j]? =some x→VT w (rJ w) x v:=fun i j hi hj=>by
       obtain⟨k1,_,cs',k3,k4⟩:=r2 i _ (gE9 hi);obtain⟨c1,c2⟩:=cells?_get k4;have hjl:j<cs'.length:=by omega
       refine⟨cs'[j],by rw[c2 j hj];exact gE9 hjl,fun r x hr hx=>?_⟩;rw[gE9 hi]at hr;simp only[sI9]at hr;subst hr;exact k3.2 j x _ hx (gE9 hjl)
      obtain⟨v0,hv0,_⟩:=cellAt 0 0 (by omega) h0
      have hspot:a.spot=none:=by
       have:=(cell?_lt hv0).2;simpa[Addr.add]using this
      obtain⟨b,off,sp'⟩:=a;simp only at hspot;subst hspot
      have hadd:∀ i j,((⟨b,off,none⟩:Addr).add (i*P.cellsOf e)).add j=⟨b,off+i*P.cellsOf e+j,none⟩:=fun i j=>by
       unfold Addr.add;split<;>split<;>simp_all
      rw[←r1];refine .rows (P.cellsOf e) rs b off cap (fun i j=>(w.cell? ⟨b,off+i*P.cellsOf e+j,none⟩).getD undef) (by omega) (fun r hr=>?_) (fun i j hi hj=>?_) (fun i j r x hi hj=>?_)
      ·obtain⟨i,hi,rfl⟩:=List.getElem_of_mem hr;exact(r2 i _ (gE9 hi)).1
      ·obtain⟨v,hv,_⟩:=cellAt i j hi hj;rw[hadd]at hv;exact⟨by rw[hv];rfl,(cell?_lt hv).1⟩
      ·have hi':i<rs.length:=(gS9.1 hi).1
       have hj':j<P.cellsOf e:=by
        have:=(r2 i r hi).1;have:=(gS9.1 hj).1;omega
       obtain⟨v,hv,hvv⟩:=cellAt i j hi' hj';rw[hadd]at hv;rw[hv];exact hvv r x hi hj
  ·rename_i fs hu;obtain⟨xs,n',hn,_,hcl,hxl,hxs⟩:=DataW.trod_struct hu h;obtain rfl:n'=n:=by omega
   split at hk
   ·rename_i tot htot;have ht0:tot=P.cellsOf t:=of_decide_eq_true hk
    obtain⟨pss,q1,q2,_,q4,q5⟩:=uX hl ih cs fs.toList 0 tot htot (by omega) fun i f hf=>by
     have hf':fs[i]? =some f:=by simpa using hf
     have hi:i<xs.length:=by rw[hxl];exact(Array.getElem?_eq_some_iff.1 hf').1
     exact⟨xs[i],by rw[hxs i f hf'];exact gE9 hi⟩
    refine⟨pss.flatten,by omega,.strct pss hu (by simpa using q1) (fun i f ps hf hp=>q4 i f ps (by simpa using hf) hp),by omega,fun j a v ha hv=>q5 j a v ha (by rw[Nat.zero_add];exact hv)⟩
   ·cases hk
  ·cases hk
end
end
section
open Go Go.ChangeShapes Go.WideShapes Go.RowKit
variable {H:Type} {enc:TypeId×Value→H} {P:Program} {l:List TypeId}
def aOD(P:Program)(t:TypeId)(ts:List T):D:=
 match P.underlying t with
 | some (.struct _)=> .agg (ts.map .t)
 | _=> .one (.t (ts.headD .nilp))
def oN(P:Program):List TypeId→List (List T)→List D
 | t::ts,x::xs=>aOD P t x::oN P ts xs
 | _,_=>[]
def sO(P:Program):List TypeId→List (List T)→Prop
 | [],[]=>True
 | t::ts,x::xs=>Shape P t x∧sO P ts xs
 | _,_=>False
theorem aTT{w:World}{F:Fix}{ν:Nu}{ts:List T}{cs:List Value}(h:ts.length=cs.length)(hv:∀ (j:Nat) a v,ts[j]? =some a→cs[j]? =some v→VT w F a v):VL (VA w F ν) (ts.map .t) cs:=by
 refine⟨by simp[h],fun k x u hx hu=>?_⟩;rw[List.getElem?_map,oM9]at hx;obtain⟨a,ha,rfl⟩:=hx;exact hv k a u ha hu
theorem uY{w:World}{base:Nat}{sp:Nat→Bool}{held:Bool}:∀ {ts:List TypeId} {vs:List Value} {ds:List (DataW H)} {ps:List MemPlace},DataW.TrodAll enc P w base sp held ts vs ds ps→ds.length=ts.length
 | [],_,_,_,h=>by
  obtain⟨_,rfl,_⟩:=trodAll_nil h;rfl
 | _::_,_,_,_,h=>by
  obtain⟨_,_,_,_,_,_,rfl,rfl,_,_,h2⟩:=trodAll_cons h;simp[uY h2]
theorem aLF{w:World}{sp:Nat→Bool}{held:Bool}(hl:lC P l=true){t:TypeId}{v:Value}{d:DataW H}{p:List MemPlace}{b0:Nat}(ht:l.contains t=true)(h:DataW.Trod enc P w 0 sp held t v d p)(hval:Value.okWide P w .any b0 t v):
  ∃ts,Shape P t ts∧VD w (rJ w) qZ (aOD P t ts) v:=by
 obtain⟨n,hn⟩:=h;obtain⟨ts,h1,h2,h3⟩:=conv hl n t _ _ ht hn;refine⟨ts,h2,?_⟩;have hk:=List.all_eq_true.1 hl t (by simpa using ht);unfold aOD;split
 ·rename_i fs hu;simp only[Value.okWide,hu]at hval;obtain⟨cs,rfl,_,_⟩:=hval;exact⟨cs,rfl,aTT h3.1 h3.2⟩
 ·rename_i hns
  have hone:v.cells= #[v]:=by
   split at hk
   all_goals first
    | (rename_i hu;cases v<;>simp_all [Value.okWide,Cell.okWide,Cell.ok,Value.cells])
    | skip
   all_goals first
    | (rename_i _ hu;cases v<;>simp_all [Value.okWide,Cell.okWide,Cell.ok,Value.cells])
    | skip
  rw[hone]at h3;have hl1:=h3.1;simp only[List.length_cons,List.length_nil]at hl1;obtain⟨a,rfl⟩:=List.length_eq_one_iff.1 hl1;exact h3.2 0 a v rfl rfl
theorem aAP{w:World}{sp:Nat→Bool}{held:Bool}(hl:lC P l=true){b0:Nat}:∀ {ts:List TypeId} {vs:List Value} {ds:List (DataW H)} {p:List MemPlace},DataW.TrodAll enc P w 0 sp held ts vs ds p→(∀t∈ts,l.contains t=true)→
  (∀(j:Nat) t v,ts[j]? =some t→vs[j]? =some v→Value.okWide P w .any b0 t v)→
  ∃tss,sO P ts tss∧(oN P ts tss).length=vs.length∧∀(k:Nat) x u,(oN P ts tss)[k]? =some x→vs[k]? =some u→VD w (rJ w) qZ x u
 | [],vs,ds,p,h,_,_=>by
  obtain⟨rfl,_,_⟩:=trodAll_nil h;exact⟨[],trivial,rfl,fun k x u hx=>by simp[oN]at hx⟩
 | t::ts,vs,ds,p,h,hc,hv=>by
  obtain⟨v,vs1,d,ds1,a,b,rfl,rfl,rfl,h1,h2⟩:=trodAll_cons h;obtain⟨x,x1,x2⟩:=aLF hl (hc t (List.mem_cons_self ..)) h1 (hv 0 t v rfl rfl);obtain⟨tss,q1,q2,q3⟩:=aAP hl h2 (fun t ht=>hc t (List.mem_cons_of_mem _ ht)) fun j t' v' ht' hv'=>hv (j+1) t' v' (by simpa using ht') (by simpa using hv')
  refine⟨x::tss,⟨x1,q1⟩,by simp[oN,q2],fun k y u hy hu=>?_⟩;rcases k with - | k
  ·simp[oN]at hy hu;subst hy;subst hu;exact x2
  ·exact q3 k y u (by simpa[oN]using hy) (by simpa using hu)
theorem qO(hl:laidOutB P=true){W W':World}(hb:Below W.heap.size W W'):∀ {ts:List TypeId} {vs:List Value} {ds:List (DataW H)} {p:List MemPlace},DataW.TrodAll enc P W 0 (fun _=>true) true ts vs ds p→
  (∀t∈ts,P.readableRec t=true∧t<P.types.size)→(∀x∈p,x.block<W.heap.size)→DataW.TrodAll enc P W' 0 (fun b=>decide (b<W.heap.size)) true ts vs ds p
 | [],vs,ds,p,h,_,_=>by
  obtain⟨rfl,rfl,rfl⟩:=trodAll_nil h;exact trodAll_mk0
 | t::ts,vs,ds,p,h,hc,hp=>by
  obtain⟨v,vs1,d,ds1,a,b,rfl,rfl,rfl,h1,h2⟩:=trodAll_cons h
  exact trodAll_cons_mk (Below.trod hl (hc t (List.mem_cons_self ..)).1 (hc t (List.mem_cons_self ..)).2 h1 hb fun x hx=>hp x (List.mem_append_left _ hx))
   (qO hl hb h2 (fun t ht=>hc t (List.mem_cons_of_mem _ ht)) fun x hx=>hp x (List.mem_append_right _ hx))
theorem Frame.below{w w':World}{F F':Fix}{ν':Nu}(h:Frame w F qZ w' F' ν'):Below w.heap.size w w':=
 ⟨h.os,h.tape,h.output,h.size,fun k hk=>h.keep k hk fun _ _ e=>by cases e⟩
theorem aCD{f:FuncId}{fn:Func}{s:ChangeSpec}{tb:TypeId}(hl:lC P l=true)(hps:fn.params.toList.all (fun t=>l.contains t)=true)(hlaid:laidOutB P=true)
  (hrd:fn.params.toList.all (fun t=>P.readableRec t&&decide (t<P.types.size))=true) (hP:∀ tss,sO P fn.params.toList tss→PSp P f (oN P fn.params.toList tss) (.one (.t (.bool true))))
  (hres:fn.resultTypes= #[tb]) (hb:P.underlying tb=some .bool) (hs:s.vars=[]) (hfn:∀ (H:Type) (ds:List (DataW H)),ds.length=fn.params.toList.length→s.fn H ds={ results:=[.lit (.bool true)],args:=ds })
  (W:World) (base:Nat) (args:Array Value) (ds gs:List (DataW H)) (before:List MemPlace)
  (hval:∀ (j:Nat) t v,fn.params[j]? =some t→args[j]? =some v→Value.okWide P W .any base t v)
  (hW:DataW.Whole enc P fn.params.toList s.vars false W args.toList ds gs before) (hglob:∃ m,W.cell? ⟨aCP,0,none⟩=some (.int .i64 m)):
  Calls P f args W fun e W'=>∃ v,e= .returned v∧s.post enc P fn false true false false W args v W':=by
 have hW':=hW;have hlt:∀ x∈before,x.block<W.heap.size:=hW.lt;obtain⟨p,q,hA,hV,rfl,hfz,hnd⟩:=hW;rw[hs]at hV;obtain⟨rfl,rfl⟩:=trodVars_none hV;obtain⟨tss,q1,q2,q3⟩:=aAP (b0:=base) hl hA (fun t ht=>List.all_eq_true.1 hps t ht) fun j t v ht hv=>hval j t v (by simpa using ht) (by simpa using hv)
 refine(hP tss q1 jM 0 W (rJ W) qZ args (Sim.bare (fun _ _ h=>h) ⟨by obtain⟨m,hm⟩:=hglob;exact(cell?_lt hm).1,hglob⟩ 0) ⟨by simpa using q2,fun k x u hx hu=>q3 k x u hx (by simpa using hu)⟩).mono ?_;rintro e W' ⟨r,v,h',F',ν',rfl,⟨rfl,_⟩,_,hv,hfr⟩;have hbel:=Frame.below hfr
 have ev:v= .bool true:=by
  have hv':VT W' F' (.bool true) v:=hv;cases hv';rfl
 subst ev;have hlen:=uY hA;have hfn':=hfn H (ds++[]) (by simpa using hlen);refine⟨_,rfl,ds,[],p++[],[],p,[],hW',?_,?_,?_,hbel.frame _,fun h=>by cases h⟩
 ·rw[hfn',hres];exact trodAll_mk1 (shut_bool hb true)
 ·rw[hfn',List.append_nil];exact qO hlaid hbel hA (fun t ht=>by simpa using List.all_eq_true.1 hrd t ht) fun x hx=>hlt x (by simpa using hx)
 ·rw[hfn',hs];exact rfl
theorem Shape.aHI{t:TypeId}{k:IntKind}{ts:List T}(h:Shape P t ts)(hu:P.underlying t=some (.int k)):∃ n,ts=[.int k n]∧(Lit.int k n).wf=true:=by
 cases h with
 | int n h hw=>rw[hu]at h;cases h;exact⟨n,rfl,hw⟩
 | _ _ h=>rw[hu]at h;cases h
theorem Shape.aLG{t:TypeId}{ts:List T}(h:Shape P t ts)(hu:P.underlying t=some .bool):∃ b,ts=[.bool b]:=by
 cases h with
 | bool b h=>exact⟨b,rfl⟩
 | _ _ h=>rw[hu]at h;cases h
theorem Shape.aOE{t:TypeId}{ts:List T}(h:Shape P t ts)(hu:P.underlying t=some .string):∃ s,ts=[.str s]∧s.size≤maxLen:=by
 cases h with
 | str s h hw=>exact⟨s,rfl,hw⟩
 | _ _ h=>rw[hu]at h;cases h
theorem Shape.qD{t e:TypeId}{ts:List T}(h:Shape P t ts)(hu:P.underlying t=some (.slice e)):∃ rs,ts=[.rows (P.cellsOf e) rs]∧rs.length≤maxLen∧∀r∈rs,Shape P e r:=by
 cases h with
 | slice rs h hl hr=>rw[hu]at h;cases h;exact⟨rs,rfl,hl,hr⟩
 | _ _ h=>rw[hu]at h;cases h
theorem Shape.aAQ{t:TypeId}{fs:Array Field}{ts:List T}(h:Shape P t ts)(hu:P.underlying t=some (.struct fs)):
  ∃pss:List (List T),ts=pss.flatten∧pss.length=fs.size∧∀(i:Nat) f ps,fs[i]? =some f→pss[i]? =some ps→Shape P f.type ps:=by
 cases h with
 | strct pss h hl hp=>rw[hu]at h;cases h;exact⟨pss,rfl,hl,hp⟩
 | _ _ h=>rw[hu]at h;cases h
theorem xK{α:Type}(g:α→List T):∀ {rs:List (List T)},(∀r∈rs,∃x,r=g x)→∃l:List α,rs=l.map g
 | [],_=>⟨[],rfl⟩
 | r::rs,h=>by
  obtain⟨x,rfl⟩:=h r (List.mem_cons_self ..);obtain⟨l,rfl⟩:=xK g fun r hr=>h r (List.mem_cons_of_mem _ hr)
  exact⟨x::l,rfl⟩
end
end Go.Ab
namespace Go.Proofs.YtdpbobkcbakpfaaGreatDoor
open Go.Proofs.Tryz
set_option maxRecDepth 100000
set_option maxHeartbeats 4000000
section
open Go Go.Ab
theorem aOF:prog.cellsOf 28=8:=by kernel_rfl
theorem aLH:prog.cellsOf 107=13:=by kernel_rfl
theorem aOG:prog.cellsOf 47=6:=by kernel_rfl
theorem aLI:prog.cellsOf 191=3:=by kernel_rfl
theorem aLJ:prog.cellsOf 122=5:=by kernel_rfl
theorem aQP:prog.cellsOf 9=1:=by kernel_rfl
theorem aQQ:prog.cellsOf 3=1:=by kernel_rfl
theorem nF{α:Type}(g:α→List T)(Q:α→Prop):∀ {rs:List (List T)},(∀r∈rs,∃x,r=g x∧Q x)→∃l:List α,rs=l.map g∧∀x∈l,Q x
 | [],_=>⟨[],rfl,fun x hx=>by cases hx⟩
 | r::rs,h=>by
  obtain⟨x,rfl,hx⟩:=h r (List.mem_cons_self ..);obtain⟨l,rfl,hl⟩:=nF g Q fun r hr=>h r (List.mem_cons_of_mem _ hr)
  exact⟨x::l,rfl,fun y hy=>by
   rcases List.mem_cons.1 hy with e | e
   ·rw[e];exact hx
   ·exact hl y e⟩
theorem lQ{α:Type}{l:List α}{g:α→List T}(h:(l.map g).length≤maxLen):short l:=by
 rw[List.length_map]at h;exact h
theorem dX{ts:List T}(h:Shape prog 3 ts):∃ n,ts=[I n]:=by
 obtain⟨n,rfl,_⟩:=h.aHI Tryz.underlying3;exact⟨n,rfl⟩
theorem nG{ts:List T}(h:Shape prog 9 ts):∃ s:ByteArray,ts=[.str s]∧s.size≤9223372036854775807:=h.aOE Tryz.underlying9
theorem aGC{ts:List T}(h:Shape prog 77 ts):∃ l:List Int,ts=[aX l]∧short l:=by
 obtain⟨rs,rfl,hl,hr⟩:=h.qD Tryz.underlying77;obtain⟨l,rfl⟩:=xK (fun a:Int=>[I a]) fun r hr'=>dX (hr r hr')
 exact⟨l,by rw[aQQ];rfl,lQ hl⟩
theorem aED{ts:List T}(h:Shape prog 44 ts):∃ l:List ByteArray,ts=[aO l]∧short l∧∀x∈l,x.size≤9223372036854775807:=by
 obtain⟨rs,rfl,hl,hr⟩:=h.qD Tryz.underlying44;obtain⟨l,rfl,hq⟩:=nF (fun s:ByteArray=>[T.str s]) (fun s=>s.size≤9223372036854775807) fun r hr'=>nG (hr r hr')
 exact⟨l,by rw[aQP];rfl,lQ hl,hq⟩
theorem aGD{ts:List T}(h:Shape prog 22 ts):∃ l:List Tg,ts=[.rows 3 (l.map Tg.row)]∧short l:=by
 obtain⟨rs,rfl,hl,hr⟩:=h.qD Tryz.underlying22
 obtain⟨l,rfl⟩:=xK Tg.row fun r hr'=>by
  obtain⟨pss,rfl,hl,hp⟩:=(hr r hr').aAQ Tryz.underlying191
  match pss,hl,hp with
  | [p0,p1,p2],_,hp=>
   obtain⟨a,rfl⟩:=dX (hp 0 _ p0 rfl rfl);obtain⟨b,rfl⟩:=dX (hp 1 _ p1 rfl rfl);obtain⟨c,rfl⟩:=dX (hp 2 _ p2 rfl rfl);exact⟨⟨a,b,c⟩,rfl⟩
 exact⟨l,by rw[aLI],lQ hl⟩
theorem aEE{ts:List T}(h:Shape prog 26 ts):∃ l:List Nd,ts=[aG l]∧short l∧∀x∈l,x.fine:=by
 obtain⟨rs,rfl,hl,hr⟩:=h.qD Tryz.underlying26
 obtain⟨l,rfl,hq⟩:=nF Nd.row Nd.fine fun r hr'=>by
  obtain⟨pss,rfl,hl,hp⟩:=(hr r hr').aAQ Tryz.underlying122
  match pss,hl,hp with
  | [p0,p1,p2,p3,p4],_,hp=>
   obtain⟨a,rfl⟩:=dX (hp 0 _ p0 rfl rfl);obtain⟨b,rfl⟩:=dX (hp 1 _ p1 rfl rfl);obtain⟨c,rfl⟩:=dX (hp 2 _ p2 rfl rfl);obtain⟨s,rfl,hs⟩:=nG (hp 3 _ p3 rfl rfl);obtain⟨l,rfl,hl⟩:=aGC (hp 4 _ p4 rfl rfl);exact⟨⟨a,b,c,s,l⟩,rfl,hs,hl⟩
 exact⟨l,by rw[aLJ];rfl,lQ hl,hq⟩
structure ShM (t:TypeId) (ts:List T):Prop where
 ty:t=28→∃x:Ty,ts=x.row∧x.fine
 fd:t=107→∃x:Fd,ts=x.row∧x.fine
 vl:t=47→∃x:Vl,ts=x.row∧x.fine
 tys:t=24→∃l:List Ty,ts=[aQ l]∧short l∧∀x∈l,x.fine
 fds:t=23→∃l:List Fd,ts=[aM l]∧short l∧∀x∈l,x.fine
 vls:t=45→∃l:List Vl,ts=[aV l]∧short l∧∀x∈l,x.fine
theorem aIY{t:TypeId}{ts:List T}(h:Shape prog t ts):ShM t ts:=by
 induction h with
 | bool b h=>constructor<;>(intro e;subst e;first | (rw[Tryz.underlying28]at h;cases h) | (rw[Tryz.underlying107]at h;cases h) | (rw[Tryz.underlying47]at h;cases h) | (rw[Tryz.underlying24]at h;cases h) | (rw[Tryz.underlying23]at h;cases h) | (rw[Tryz.underlying45]at h;cases h))
 | int n h hw=>constructor<;>(intro e;subst e;first | (rw[Tryz.underlying28]at h;cases h) | (rw[Tryz.underlying107]at h;cases h) | (rw[Tryz.underlying47]at h;cases h) | (rw[Tryz.underlying24]at h;cases h) | (rw[Tryz.underlying23]at h;cases h) | (rw[Tryz.underlying45]at h;cases h))
 | str s h hw=>constructor<;>(intro e;subst e;first | (rw[Tryz.underlying28]at h;cases h) | (rw[Tryz.underlying107]at h;cases h) | (rw[Tryz.underlying47]at h;cases h) | (rw[Tryz.underlying24]at h;cases h) | (rw[Tryz.underlying23]at h;cases h) | (rw[Tryz.underlying45]at h;cases h))
 | slice rs h hl hr ih=>
  constructor
  ·intro e;subst e;rw[Tryz.underlying28]at h;cases h
  ·intro e;subst e;rw[Tryz.underlying107]at h;cases h
  ·intro e;subst e;rw[Tryz.underlying47]at h;cases h
  ·intro e;subst e;rw[Tryz.underlying24]at h;cases h;obtain⟨l,rfl,hq⟩:=nF Ty.row Ty.fine fun r hr'=>(ih r hr').ty rfl
   exact⟨l,by rw[aOF];rfl,lQ hl,hq⟩
  ·intro e;subst e;rw[Tryz.underlying23]at h;cases h;obtain⟨l,rfl,hq⟩:=nF Fd.row Fd.fine fun r hr'=>(ih r hr').fd rfl
   exact⟨l,by rw[aLH];rfl,lQ hl,hq⟩
  ·intro e;subst e;rw[Tryz.underlying45]at h;cases h;obtain⟨l,rfl,hq⟩:=nF Vl.row Vl.fine fun r hr'=>(ih r hr').vl rfl
   exact⟨l,by rw[aOG];rfl,lQ hl,hq⟩
 | strct pss h hl hp ih=>
  constructor
  ·intro e;subst e;rw[Tryz.underlying28]at h;cases h
   match pss,hl,hp,ih with
   | [p0,p1,p2,p3,p4,p5,p6,p7],_,hp,ih=>
    obtain⟨a0,rfl⟩:=dX (hp 0 _ p0 rfl rfl);obtain⟨a1,rfl,h1⟩:=nG (hp 1 _ p1 rfl rfl);obtain⟨a2,rfl,h2⟩:=aGD (hp 2 _ p2 rfl rfl);obtain⟨a3,rfl,h3,g3⟩:=(ih 3 _ p3 rfl rfl).fds rfl;obtain⟨a4,rfl⟩:=(hp 4 _ p4 rfl rfl).aLG Tryz.underlying4;obtain⟨a5,rfl⟩:=dX (hp 5 _ p5 rfl rfl);obtain⟨a6,rfl,h6,g6⟩:=(ih 6 _ p6 rfl rfl).tys rfl;obtain⟨a7,rfl,h7,g7⟩:=aEE (hp 7 _ p7 rfl rfl);exact⟨.mk a0 a1 a2 a3 a4 a5 a6 a7,by rw[Ty.row,iS,jN];rfl,h1,h2,h3,(aAE _).2 g3,h6,(aAF _).2 g6,h7,g7⟩
  ·intro e;subst e;rw[Tryz.underlying107]at h;cases h
   match pss,hl,hp,ih with
   | [p0,p1,p2,p3,p4,p5],_,hp,ih=>
    obtain⟨a0,rfl,h0⟩:=nG (hp 0 _ p0 rfl rfl);obtain⟨a1,rfl⟩:=dX (hp 1 _ p1 rfl rfl);obtain⟨a2,rfl,h2⟩:=(ih 2 _ p2 rfl rfl).ty rfl;obtain⟨a3,rfl⟩:=dX (hp 3 _ p3 rfl rfl);obtain⟨a4,rfl,h4,g4⟩:=(ih 4 _ p4 rfl rfl).vls rfl;obtain⟨a5,rfl⟩:=dX (hp 5 _ p5 rfl rfl);exact⟨.mk a0 a1 a2 a3 a4 a5,by rw[Fd.row,dV];simp[List.flatten,aV],h0,h2,h4,(tR _).2 g4⟩
  ·intro e;subst e;rw[Tryz.underlying47]at h;cases h
   match pss,hl,hp,ih with
   | [p0,p1,p2,p3,p4,p5],_,hp,ih=>
    obtain⟨a0,rfl⟩:=dX (hp 0 _ p0 rfl rfl);obtain⟨a1,rfl⟩:=dX (hp 1 _ p1 rfl rfl);obtain⟨a2,rfl⟩:=dX (hp 2 _ p2 rfl rfl);obtain⟨a3,rfl,h3⟩:=nG (hp 3 _ p3 rfl rfl);obtain⟨a4,rfl,h4,g4⟩:=aED (hp 4 _ p4 rfl rfl);obtain⟨a5,rfl,h5,g5⟩:=(ih 5 _ p5 rfl rfl).vls rfl;exact⟨.mk a0 a1 a2 a3 a4 a5,by rw[Vl.row,dV];rfl,h3,h4,g4,h5,(tR _).2 g5⟩
  ·intro e;subst e;rw[Tryz.underlying24]at h;cases h
  ·intro e;subst e;rw[Tryz.underlying23]at h;cases h
  ·intro e;subst e;rw[Tryz.underlying45]at h;cases h
theorem aEF{ts:List T}(h:Shape prog 28 ts):∃ x:Ty,ts=x.row∧x.fine:=(aIY h).ty rfl
theorem aOH(t:Ty):t.row.map A.t=tyC t:=by
 cases t;rw[Ty.row,iS,jN];rfl
end
section
open Go Go.Ab Go.ChangeShapes Go.WideShapes Go.ChangeAt Go.RowKit
theorem band{a b:Bool}(ha:a=true)(hb:b=true):(a&&b)=true:=by rw[ha,hb];rfl
noncomputable abbrev PG:Program:=Tryz.pinned.checked.prog
theorem own:ownKnob prog.godebug=none:=by kernel_rfl
theorem laidOut:laidOutB prog=true:=by kernel_rfl
theorem aLK:laidOutB PG=true:=laidOut
theorem aGE:mapsRowed PG=true:=by kernel_rfl
theorem aQR:(PG.stops==[])=true:=by kernel_rfl
theorem aGF:(PG.stopKnobs==[])=true:=by kernel_rfl
theorem aQS:PG.stopsHeard=true:=by kernel_rfl
theorem aIZ:PG.mayEnter=true:=by kernel_rfl
theorem aQT:(Rows.limitsChecksRow.lifted==PG.liftsFinal)=true:=by kernel_rfl
theorem aTU:(PG.make==some Rows.limitsChecksRow.make)=true:=by kernel_rfl
theorem aJ0{w:World}(h:w.ShapedOpen prog):∃ m,w.cell? ⟨aCP,0,none⟩=some (.int .i64 m):=
 Go.Proofs.cell_of_shapedOpen_int (zero:= #[.int .i64 0]) (t:=3) h (of_decide_eq_true (by kernel_rfl)) (by kernel_rfl) rfl (by kernel_rfl) (by kernel_rfl) Tryz.underlying3
def aHJ:List TypeId:=[28,9,3,22,191,23,107,4,24,26,122,77,45,47,44]
theorem trees:lC prog aHJ=true:=by kernel_rfl
def type0:Value:= .agg #[.int .i64 0,.string ⟨#[]⟩,.slice none 0 0,.slice none 0 0,.bool false,.int .i64 0,.slice none 0 0,.slice none 0 0]
end
end Go.Proofs.YtdpbobkcbakpfaaGreatDoor
