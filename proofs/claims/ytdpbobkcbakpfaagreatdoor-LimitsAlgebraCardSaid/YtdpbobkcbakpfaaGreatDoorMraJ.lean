/- Texts of this proof. -/
import Derived.Test.YtdpbobkcbakpfaaGreatDoorProg
import Derived.Test.YtdpbobkcbakpfaaGreatDoorMraI
namespace Go.Proofs.YtdpbobkcbakpfaaGreatDoor
open Go Go.Ab
open Go.Proofs.Tryz
set_option maxRecDepth 100000
set_option maxHeartbeats 4000000
def In2(c:List Sp):Prop:=Gap c∧∀y∈c,0≤y.1∧y.2≤255
theorem In2.len{c:List Sp}(h:In2 c):c.length≤128:=by
 have:=aCK c 0 255 h.1 h.2 (by omega);omega
theorem In2.good{c:List Sp}(h:In2 c):∀ y∈c,bad y=false:=fun y hy=>(jW y).2 ⟨h.1.valid y hy,by have:=h.2 y hy;omega,by have:=h.2 y hy;omega⟩
theorem In2.mem{c:List Sp}(h:In2 c){m:Int}(hm:inS c m=true):0≤m∧m≤255:=by
 obtain⟨y,hy,h1,h2⟩:=fM.1 hm;have:=h.2 y hy;omega
theorem In2.of{c:List Sp}(g:Gap c)(h:∀ m,inS c m=true→0≤m∧m≤255):In2 c:=⟨g,fun y hy=>by
 have hv:=g.valid y hy
 exact⟨(h y.1 (fM.2 ⟨y,hy,by omega,hv⟩)).1,(h y.2 (fM.2 ⟨y,hy,hv,by omega⟩)).2⟩⟩
def aEW(out:List Sp)(c:Int):List Sp:=gS 0 out [(c,c)] [] (cQ (out++[(c,c)]))
theorem aEX:∀ (S:List Int) (out:List Sp),Gap out→Gap (S.foldl aEW out)∧∀m,inS (S.foldl aEW out) m=(inS out m||S.any fun c=>c==m)
 | [],out,h=>⟨h,fun m=>by simp⟩
 | c::r,out,h=>by
  obtain⟨q1,q2⟩:=uA 0 out [(c,c)];obtain⟨i1,i2⟩:=aEX r (aEW out c) q1;refine⟨i1,fun m=>?_⟩
  have e:inS [((c,c):Sp)] m=(c==m):=by
   rw[Bool.eq_iff_iff];simp[inS];omega
  rw[List.foldl_cons,i2,aEW,q2,e,List.any_cons];simp[eD,Bool.or_assoc]
theorem aOU{l:List Nd}{bg:List Nat}(T:dM l bg)(hok:∀ x∈l,x.ok=true)(P:Nat→Prop)
  (hn:∀ p x,l[p]? =some x→P p→x.k≠2∧x.k≠3∧(x.k=0→x.lo≤x.hi)) (he:∀ p x,l[p]? =some x→P p→∀c:Nat,(c:Int)∈x.args→P c):
  ∀n i,i<n→i<l.length→P i→Gap (nuR l n i)∧∀m,inS (nuR l n i) m=cN l n i m:=by
 intro n
 induction n with
 | zero=>intro i hi;omega
 | succ n ih=>
  intro i hin hil hP;have hx:l[i]? =some (l[i]'hil):=gE9 _;generalize l[i]'hil=x at hx;have N:=T.node i x hx;obtain⟨k2,k3,k0⟩:=hn i x hx hP;obtain⟨r1,r2,r3,r4⟩:=fQ (hok x (gM9 hx))
  have sub:∀ k,k<x.args.length→∀m,inS (nuR l n (aJ x k)) m=cN l n (aJ x k) m:=fun k hk=>by
   obtain⟨m1,m2,m3⟩:=cH N hk;exact(ih _ (by omega) (by omega) (he i x hx hP _ m1)).2
  by_cases q0:x.k=0
  ·have e1:nuR l (n+1) i=[(x.lo,x.hi)]:=by simp[nuR,hx,q0]
   rw[e1];refine⟨⟨k0 q0,by simp,trivial⟩,fun m=>?_⟩;simp[cN,hx,q0,inS]
  ·by_cases q1:x.k=1
   ·have e1:nuR l (n+1) i=(chars x.s).foldl aEW []:=by simp only[nuR,hx,q1];rfl
    obtain⟨g1,g2⟩:=aEX (chars x.s) [] trivial;rw[e1];refine⟨g1,fun m=>?_⟩;have e2:cN l (n+1) i m=(chars x.s).any (fun c=>c==m):=by simp[cN,hx,q1]
    rw[e2,g2];simp[inS]
   ·obtain⟨pos,aIA⟩:=r4 q0 q1;have a2:=sub 0 pos
    by_cases one:x.args.length=1
    ·have n5:x.k≠5:=fun e=>by have:=r3 (.inr (.inl e));omega
     have n6:x.k≠6:=fun e=>by have:=r3 (.inr (.inr e));omega
     have e1:nuR l (n+1) i=nuR l n (aJ x 0):=by simp[nuR,hx,q0,q1,one]
     obtain⟨m1,m2,m3⟩:=cH N pos;rw[e1];refine⟨(ih _ (by omega) (by omega) (he i x hx hP _ m1)).1,fun m=>?_⟩;have e2:cN l (n+1) i m=cN l n (aJ x 0) m:=by simp[cN,hx,q0,q1,n5,n6,one]
     rw[e2,a2]
    ·have b2:=sub 1 (by omega);have two':1<x.args.length:=by omega
     have e1:nuR l (n+1) i=gS (opN x.k) (nuR l n (aJ x 0)) (nuR l n (aJ x 1)) [] (cQ (nuR l n (aJ x 0)++nuR l n (aJ x 1))):=by simp[nuR,hx,q0,q1,one]
     obtain⟨g1,g2⟩:=uA (opN x.k) (nuR l n (aJ x 0)) (nuR l n (aJ x 1));rw[e1];refine⟨g1,fun m=>?_⟩;rw[g2,a2,b2]
     by_cases q5:x.k=5
     ·have e2:cN l (n+1) i m=(cN l n (aJ x 0) m&&cN l n (aJ x 1) m):=by simp[cN,hx,q5]
      rw[e2];simp[eD,opN,q5]
     ·by_cases q6:x.k=6
      ·have e2:cN l (n+1) i m=(cN l n (aJ x 0) m&& !cN l n (aJ x 1) m):=by simp[cN,hx,q6]
       rw[e2];simp[eD,opN,q6]
      ·have e2:cN l (n+1) i m=(cN l n (aJ x 0) m||cN l n (aJ x 1) m):=by simp[cN,hx,q0,q1,q5,q6,two']
       rw[e2];simp[eD,opN,q5,q6]
theorem cK{l:List Nd}{bg:List Nat}(T:dM l bg)(hok:∀ x∈l,x.ok=true)(P:Nat→Prop)(B:Int)(hB:B≤255)
  (hn:∀ p x,l[p]? =some x→P p→x.k≠2∧x.k≠3∧(x.k=0→0≤x.lo∧x.lo≤x.hi∧x.hi≤B)∧(x.k=1→∀c∈chars x.s,c≤B)) (he:∀ p x,l[p]? =some x→P p→∀c:Nat,(c:Int)∈x.args→P c):
  ∀n i,i<n→i<l.length→P i→spL l n i=nuR l n i∧In2 (nuR l n i)∧∀m,inS (nuR l n i) m=true→0≤m∧m≤B:=by
 have hn':∀ p x,l[p]? =some x→P p→x.k≠2∧x.k≠3∧(x.k=0→x.lo≤x.hi):=fun p x hx hp=>by
  obtain⟨a,b,c,_⟩:=hn p x hx hp;exact⟨a,b,fun q=>(c q).2.1⟩
 intro n i h1 h2 h3;obtain⟨a1,a2⟩:=vS T hok P hn' he n i h1 h2 h3;obtain⟨b1,b2⟩:=aOU T hok P hn' he n i h1 h2 h3
 have key:∀ m,inS (nuR l n i) m=true→0≤m∧m≤B:=fun m hm=>by
  rw[b2]at hm;exact aHP T hok P B (fun p x hx hp=>⟨fun q=>⟨((hn p x hx hp).2.2.1 q).1,((hn p x hx hp).2.2.1 q).2.2⟩,(hn p x hx hp).2.2.2⟩) he n i m h2 h3 hm
 exact⟨rM a1 b1 fun m=>by rw[a2,b2],In2.of b1 fun m hm=>by have:=key m hm;omega,key⟩
section
attribute [-simp] Go.Ab.aA Go.Ab.gval
attribute [local simp] bE aM aQ aG aV aO aX tyC fdC vlC ndC aL D.cR D.pt
structure aUA (l:List Nd) (bg:List Nat) (V:Nat→Prop):Prop where
 tree:dM l bg
 few:l.length≤20
 ok:∀ x∈l,x.ok=true
 set:∀ n i,i<n→i<l.length→V i→Gap (spL l n i)∧(∀y∈spL l n i,bad y=false)∧(spL l n i).length≤150
 txt:∀ p x,l[p]? =some x→V p→x.k=1→x.s.size≤200
 edge:∀ p x,l[p]? =some x→V p→∀c:Nat,(c:Int)∈x.args→V c
def aUB(d:D)(h:Hp)(nx:Nat)(acc:List Sp):Prop:=
 (acc=[]∧d= .one (.tt 2 []))∨(acc≠[]∧∃id ver,id<nx∧d= .one (.ref id ver 0 acc.length 2 false)∧alive h id ver∧h.rows id=acc.map cell∧h.sz id=2∧h.shut id=false)
attribute [local simp] a8K c90 in
theorem Q90{l:List Nd}{bg:List Nat}{V:Nat→Prop}(H:aUA l bg V):∀ n i,i<n→i<l.length→V i→PSp prog 90 [.one (.t (aG l)),.one (.t (I i))] (.one (.t (spans (spL l n i)))):=by
 intro n
 induction n with
 | zero=>intro i hi;omega
 | succ n ih=>
  intro i hin hil hW;have hx:l[i]? =some (l[i]'hil):=gE9 _;generalize l[i]'hil=x at hx;have N:=H.tree.node i x hx;have hiI:(i:Int)<(l.length:Int):=by omega
  have hr:=H.ok x (gM9 hx);simp only[Nd.ok,Bool.and_eq_true]at hr;have hr:=hr.1.1
  have sub:∀ k,k<x.args.length→aJ x k<n∧aJ x k<l.length∧V (aJ x k):=fun k hk=>by
   obtain⟨m1,m2,m3⟩:=cH N hk;exact⟨by omega,by omega,H.edge i x hx hW _ m1⟩
  obtain⟨R0,hR0⟩:∃ R,spL l (n+1) i=R:=⟨_,rfl⟩;rw[hR0];refine k90.aI (by simp) rfl rfl ?_;rcases eqCases x.k 0 with k0 | k0
  ·have e1:R0=[(x.lo,x.hi)]:=by rw[←hR0];simp[spL,hx,k0]
   subst e1;simp -implicitDefEqProofs [hil,hiI,aE hx,Nd.row,k0,aC,spans,spr,-List.getElem_map]
  ·rcases eqCases x.k 1 with q1 | q1
   ·have e1:R0=bK ((chars x.s).map fun c=>(c,c)):=by rw[←hR0];simp[spL,hx,q1]
    have hs:=H.txt i x hx hW q1;obtain⟨S,hS⟩:∃ S,chars x.s=S:=⟨_,rfl⟩;have hSl:S.length≤200:=by rw[←hS,dW];exact hs
    have hSc:∀ c∈S,0≤c∧c≤255:=fun c hc=>by have:=mY (s:=x.s) (c:=c) (by rw[hS];exact hc);omega
    have hb:eO (D.one (A.t (T.str x.s))).str=S.map fun c=>[T.int .u8 c]:=by rw[←hS];simp[eO,chars,D.str]
    rw[hS]at e1
    have pN:=vR (S.map fun c=>((c,c):Sp)) (by simp;omega) fun y hy=>by
     obtain⟨c,hc,rfl⟩:=List.mem_map.1 hy;have:=hSc c hc;exact(jW _).2 ⟨Int.le_refl _,by simp only;omega,by simp only;omega⟩
    rw[←e1]at pN;clear hR0 e1;simp -implicitDefEqProofs [hil,hiI,aE hx,Nd.row,q1,hb,-List.getElem_map];refine W.cU (fun k st=>∃ i:Nat,k=S.length - i∧i≤S.length∧st.tmps 29= .one (.t (.rows 1 (S.map fun c=>[T.int .u8 c])))∧st.tmps 30= .one (.t (I S.length))∧st.tmps 31= .one (.t (I i))∧aUB (st.tmps 6) st.heap st.nx ((S.map fun c=>((c,c):Sp)).take i)) S.length ⟨0,by simp,by simp,by simp,by simp,by simp,by simp[aUB]⟩ ?_;rintro k st ⟨j,hk,hj,h29,h30,h31,h6⟩;rcases Nat.lt_or_ge j S.length with hlt | hge
    ·have fO:(j:Int)<(S.length:Int):=by omega
     obtain⟨c,hc⟩:∃ c,S[j]? =some c:=⟨_,gE9 hlt⟩;have cb:=hSc c (gM9 hc);have hw:IntKind.i64.wrap ((j:Int)+1)=((j+1:Nat):Int):=aH _ (by omega) (by omega);have hwc:IntKind.i64.wrap c=c:=wrap_i64 (by omega) (by omega);have hg:∀ hh,(S.map fun c=>[T.int .u8 c])[j]'hh=[T.int .u8 c]:=fun hh=>aE hc hh
     have et:(S.map fun c=>((c,c):Sp)).take (j+1)=(S.map fun c=>((c,c):Sp)).take j++[(c,c)]:=by rw[List.take_add_one,List.getElem?_map,hc];rfl
     have en:((S.map fun c=>((c,c):Sp)).take j).length≤200:=by simp;omega
     generalize (S.map fun c=>((c,c):Sp)).take j=acc at*;rcases h6 with⟨rfl,h6⟩ | ⟨hne',id,ver,hid,h6,r1,r2,r3,r4⟩
     ·simp -implicitDefEqProofs [h29,h30,h31,h6,hlt,fO,hg,hw,hwc,D.dO,D.isInt];refine⟨S.length - (j+1),by omega,j+1,rfl,by omega,by simp,?_⟩;rw[et];refine .inr ⟨by simp,_,0,by omega,rfl,by simp,?_,by simp,by simp⟩;rw[dP,if_pos rfl];simp[cell]
     ·have xX:(st.heap.rows id).length=acc.length:=by rw[r2];simp
      simp -implicitDefEqProofs [h29,h30,h31,h6,hlt,fO,hg,hw,hwc,r1,r3,r4,xX,D.dO,D.isInt];refine⟨by omega,S.length - (j+1),by omega,j+1,rfl,by omega,by simp,?_⟩;rw[et];refine .inr ⟨by simp,id,ver+1,by omega,by simp,by simp,?_,by simp,by simp⟩;rw[dP,if_pos rfl,r2];simp[cell]
    ·have hj':j=S.length:=by omega
     subst hj';have fO:¬ (S.length:Int)<(S.length:Int):=by omega
     rw[List.take_of_length_le (by simp)]at h6;generalize S.map (fun c=>((c,c):Sp))=acc at*;simp -implicitDefEqProofs [h30,h31];rcases h6 with⟨rfl,h6⟩ | ⟨_,id,ver,_,h6,r1,r2,r3,r4⟩
     ·rw[h6];refine aD.pure pN (by simp) (by simp[spans]) ?_;simp -implicitDefEqProofs [aC,spans]
     ·have e1:(acc.map spr).length=acc.length:=by simp
      rw[h6,←e1];have r2':st.heap.rows id=(acc.map spr).map (·.map .t):=by rw[r2,List.map_map];rfl
      refine aD.pure pN (by simpa using iU r1 r3 r2') (by simp only[List.map_cons,List.map_nil,D.frz,lD r2',spans]) ?_;simp -implicitDefEqProofs [aC,spans]
   ·have hk1:=q1.2.1;have q1:=q1.1
    have pos:0<x.args.length:=by
     unfold Nd.right at hr;simp only[k0,hk1,or_self,if_false]at hr;split at hr
     ·have:=of_decide_eq_true hr;omega
     ·split at hr
      ·have:=of_decide_eq_true hr;omega
      ·split at hr
       ·have:=of_decide_eq_true hr;omega
       ·cases hr
    have a0:=pP N pos;obtain⟨s1,s2,s3⟩:=sub 0 pos;have c0:=ih (aJ x 0) s1 s2 s3;have l0:(0:Int)<(x.args.length:Int):=by omega
    rcases eqCases x.k 2 with k2 | k2
    ·have e1:R0=spL l n (aJ x 0):=by rw[←hR0];simp[spL,hx,k2]
     subst e1;simp -implicitDefEqProofs [hil,hiI,aE hx,Nd.row,k2,pos,aE a0,-List.getElem_map];refine aD.tree c0 rfl ?_;simp -implicitDefEqProofs [aC]
    ·by_cases one:x.args.length=1
     ·have e1:R0=spL l n (aJ x 0):=by rw[←hR0];simp[spL,hx,k0,hk1,k2,one]
      subst e1;have l2:(x.args.length:Int)<2:=by omega
      have l3:¬ (2:Int)≤(x.args.length:Int):=by omega
      simp -implicitDefEqProofs [hil,hiI,aE hx,Nd.row,k0,q1,k2,pos,aE a0,-List.getElem_map];refine aD.tree c0 rfl ?_;simp -implicitDefEqProofs [l2,l3,aC]
     ·have one':1<x.args.length:=by omega
      have a1:=pP N one';obtain⟨t1,t2,t3⟩:=sub 1 one';have c1:=ih (aJ x 1) t1 t2 t3;have l2:¬ (x.args.length:Int)<2:=by omega
      have l3:(2:Int)≤(x.args.length:Int):=by omega
      have l1:(1:Int)<(x.args.length:Int):=by omega
      obtain⟨gA,okA,nA⟩:=H.set n _ s1 s2 s3;obtain⟨gB,okB,nB⟩:=H.set n _ t1 t2 t3;have va:=gA.valid;have vb:=gB.valid
      have eR:R0=if x.k==5 then bK (cO (spL l n (aJ x 0)) (spL l n (aJ x 1)))else if x.k==6 then bK (aY (spL l n (aJ x 0)) (spL l n (aJ x 1)))else bK (spL l n (aJ x 0)++spL l n (aJ x 1)):=by
       rw[←hR0];have q:¬ x.args.length<2:=by omega
       simp[spL,hx,k0,hk1,k2,q]
      clear hR0;generalize spL l n (aJ x 0)=A at*;generalize spL l n (aJ x 1)=B at*;simp -implicitDefEqProofs [hil,hiI,aE hx,Nd.row,k0,q1,k2,pos,aE a0,-List.getElem_map];refine aD.tree c0 rfl ?_;simp -implicitDefEqProofs [l2,l3,one',l1,aE a1,-List.getElem_map];refine aD.tree c1 rfl ?_;rcases eqCases x.k 5 with k5 | k5
      ·have:R0=bK (cO A B):=by rw[eR];simp[k5]
       subst this;simp -implicitDefEqProofs [k5];refine aD.tree (aM3 A B (by have:=lE A B gA gB;omega) (by omega) (by omega) okA okB) rfl ?_;simp -implicitDefEqProofs [aC]
      ·rcases eqCases x.k 6 with k6 | k6
       ·have:R0=bK (aY A B):=by rw[eR];simp[k6]
        subst this;simp -implicitDefEqProofs [k6];refine aD.tree (yB A B (by have:=(dZ (b:=B) (a:=A) gA.asc vb).2.1;omega) (by omega) (by omega) gA.asc okA okB) rfl ?_;simp -implicitDefEqProofs [aC]
       ·have:R0=bK (A++B):=by rw[eR];simp[k5,k6]
        subst this;simp -implicitDefEqProofs [k5,k6];refine aD.tree (aGS A B (by omega) okA okB) rfl ?_;simp -implicitDefEqProofs [aC]
end
section
attribute [-simp] Go.Ab.aA Go.Ab.gval
attribute [local simp] bE aM aQ aG aV aO aX tyC fdC vlC ndC aL D.cR D.pt
def oG(t:Ty)(l:List Sp):Sp×Bool×Int:=if l.length==0 then((0,0),false,23)else(((l.headD (0,0)).1,(l.getD (l.length - 1) (0,0)).2),(iX t.limits).2,0)
attribute [local simp] c89 in
theorem P89(t:Ty){bg:List Nat}(T:dM t.limits bg)(hok:∀ x∈t.limits,x.ok=true)(hl:t.limits.length≤20)(l:List Sp)(hs:l.length≤1000):
  PSp prog 89 [.agg (tyC t),.one (.t (spans l))] (.tup [.agg (cell (oG t l).1),.one (.t (.bool (oG t l).2.1)),.one (.t (I (oG t l).2.2))]):=by
 have p74:=P74 T hok hl;obtain⟨r1,hr1⟩:∃ x,(iX t.limits).1=x:=⟨_,rfl⟩;obtain⟨r2,hr2⟩:∃ x,(iX t.limits).2=x:=⟨_,rfl⟩;rw[hr1,hr2]at p74;refine k89.aI (by simp) (by simp[D.closed,A.closed]) rfl ?_
 by_cases z:l.length=0
 ·have zl:l=[]:=List.length_eq_zero_iff.1 z;subst zl;simp -implicitDefEqProofs [oG,spans,cell,aC]
 ·obtain⟨m,hm⟩:∃ m:Nat,l.length=m+1:=⟨l.length - 1,by omega⟩;obtain⟨x,hx⟩:∃ x,l[0]? =some x:=⟨_,gE9 (by omega)⟩;obtain⟨y,hy⟩:∃ y,l[m]? =some y:=⟨_,gE9 (by omega)⟩
  have e:oG t l=((x.1,y.2),r2,0):=by
   have e1:l.headD (0,0)=x:=by
    cases l with
    | nil=>cases hx
    | cons a r=>simpa using hx
   have e2:l.getD (l.length - 1) (0,0)=y:=by
    rw[hm,Nat.add_sub_cancel,List.getD_eq_getElem?_getD,hy];rfl
   have e3:(l.length==0)=false:=by simpa using z
   rw[oG,e1,e2,hr2,e3];rfl
  rw[e];have zI:((l.length:Int)==0)=false:=by simpa using z
  have h0:0<l.length:=by omega
  have h0I:(0:Int)<(l.length:Int):=by omega
  have hw:IntKind.i64.wrap ((l.length:Int) - 1)=(m:Int):=by rw[wrap_i64 (by omega) (by omega)];omega
  have hmI:(m:Int)<(l.length:Int):=by omega
  have hmN:m<l.length:=by omega
  simp -implicitDefEqProofs [zI,spans];refine aD.tree p74 rfl ?_;simp -implicitDefEqProofs [hw,h0,hmI,hmN,aE hx,aE hy,spr,cell,aC,-List.getElem_map]
def qH(t:Ty):Int:=bZ [(eK t).2,if t.kind==2 then 0 else 4]
def uE(t:Ty):Sp×Bool×Int:=if qH t != 0 then((0,0),false,qH t)else oG t (if t.limits.length==0 then bL t else spL t.limits t.limits.length (fN t.limits))
attribute [local simp] c43 in
theorem P43(t:Ty)(hn:t.narrow=true)(h82:(eK t).2=0→t.kind=2→t.limits.length=0→PSp prog 82 [.agg (tyC t)] (.one (.t (spans (bL t)))))
  (h90:(eK t).2=0→t.kind=2→t.limits.length≠0→(spL t.limits t.limits.length (fN t.limits)).length≤1000∧PSp prog 90 [.one (.t (aG t.limits)),.one (.t (I ((fN t.limits:Nat):Int)))] (.one (.t (spans (spL t.limits t.limits.length (fN t.limits)))))):
  PSp prog 43 [.agg (tyC t)] (.tup [.agg (cell (uE t).1),.one (.t (.bool (uE t).2.1)),.one (.t (I (uE t).2.2))]):=by
 have p80:=P80 t hn
 have right:(eK t).2=0→∃bg,dM t.limits bg∧(∀x∈t.limits,x.ok=true)∧t.limits.length≤20:=fun h=>by
  have ht:=dE t (gT h).1;obtain⟨hlen,bg,T⟩:=bX ht;exact⟨bg,T,nK ht,hlen⟩
 obtain⟨R,hR⟩:∃ R,uE t=R:=⟨_,rfl⟩;obtain⟨k,hk⟩:∃ k,(t.kind==2)=k:=⟨_,rfl⟩;have eE:qH t=bZ [(eK t).2,if k then 0 else 4]:=by rw[qH,hk]
 rw[hR];rw[uE,eE]at hR;generalize (eK t).2=e at*;have p79:=P79 [e,if k then 0 else 4] (by simp[short])
 have hz:bZ [e,if k then 0 else 4]=0→e=0∧k=true:=fun h=>by
  simp only[bT,cZ]at h
  by_cases q:e=0
  ·cases k
   ·simp[q]at h
   ·exact⟨q,rfl⟩
  ·simp[q]at h
 generalize bZ [e,if k then 0 else 4]=E at*;refine k43.aI (by simp) (by simp[D.closed,A.closed]) rfl ?_;simp -implicitDefEqProofs;refine aD.bN p80 rfl ?_;simp -implicitDefEqProofs [hk];refine aD.bN (P81 k 4) rfl ?_;simp -implicitDefEqProofs;refine aD.draw p79 (by simp) (by simp) (.inl rfl) ?_;rcases eqCases E 0 with z | z
 ·obtain⟨z1,z2⟩:=hz z;obtain⟨bg,T,hok,hl⟩:=right z1;subst z2;have k2:t.kind=2:=by simpa using hk
  have p74:=P74 T hok hl
  by_cases q:t.limits.length=0
  ·have c:=h82 z1 k2 q;have ql:t.limits=[]:=List.length_eq_zero_iff.1 q;have e1:(iX t.limits).1= -1:=by simp[iX,ql]
   have hR:R=oG t (bL t):=by rw[←hR,z,ql];rfl
   have p89:=P89 t T hok hl (bL t) (by simp[bL,ql,k2,mG]);rw[←hR]at p89;generalize bL t=S at*;rw[e1]at p74;simp -implicitDefEqProofs [z];refine aD.tree p74 rfl ?_;simp -implicitDefEqProofs;refine aD.bN c rfl ?_;simp -implicitDefEqProofs;refine aD.bN p89 rfl ?_;simp -implicitDefEqProofs [cell,aC]
  ·obtain⟨c1,c2⟩:=h90 z1 k2 q;have qN:(t.limits.length==0)=false:=by simpa using q
   have e1:(iX t.limits).1=((fN t.limits:Nat):Int):=by simp[iX,qN]
   have hR:R=oG t (spL t.limits t.limits.length (fN t.limits)):=by rw[←hR,z,qN];rfl
   have p89:=P89 t T hok hl _ c1;rw[←hR]at p89;generalize spL t.limits t.limits.length (fN t.limits)=S at*;have nn:¬ ((fN t.limits:Nat):Int)<0:=by omega
   have nn2:(0:Int)≤((fN t.limits:Nat):Int):=by omega
   rw[e1]at p74;generalize fN t.limits=r at*;simp -implicitDefEqProofs [z];refine aD.tree p74 rfl ?_;simp -implicitDefEqProofs [nn];refine aD.bN c2 rfl ?_;simp -implicitDefEqProofs;refine aD.bN p89 rfl ?_;simp -implicitDefEqProofs [cell,aC]
 ·have hR:R=((0,0),false,E):=by rw[←hR,if_pos z.2.2.2.2.1]
  subst hR;simp -implicitDefEqProofs [z,cell,aC]
end
section
attribute [local simp] bE aM aQ aG aV aO aX tyC fdC vlC ndC aL D.cR D.pt oY D.oH
end
def d09:aB:=zd 17 (zs 2 1 [zW 4 false] .ret) .skip
def d1a:aB:=zd 37 (zs 4 1 [zW 4 true] .ret) .skip
def d1b:aB:=zd 47 (zs 7 1 [zW 4 false] .ret) .skip
def d1c:aB:=zd 49 (zs 9 1 [zW 4 true] .ret) .skip
def d1d:aB:=zd 52 (zs 11 11 [zA 54 8 2,zq 55 15 [54],zq 56 43 [55],zv 53 56,zE 57 0 53,zE 58 1 53,zE 59 2 53,zo 7 (.alloc [za,za]),zS 2 7 57,zv 8 58,zv 9 59] (zs 12 12 [zv 60 9,zK 61 .eql 60 0,zv 62 61,.br 62 true [zg 63 (zF 1 3) 62 true,zg 64 (zy 63) 62 true,zg 65 (zF 0 7) 62 true,zg 66 (zy 65) 62 true,zg 67 (zF 1 7) 62 true,zg 68 (zy 67) 62 true,.mk (some 69) (zw 37 [64,66,68]) (some (62,true))],zP 70 62 69,zv 4 70] .ret)) .skip
def d1e:aB:=zd 89 (zs 15 1 [zW 4 false] .ret) .skip
def d1f:aB:=zd 92 (zs 17 1 [zW 4 true] .ret) .skip
def d1g:aB:=zd 103 .skip (.exit 0)
def d1h:aB:=zd 117 (zs 23 1 [zW 4 false] .ret) .skip
def d1i:aB:= .seq (.block 1 (zs 22 12 [zv 106 14,zK 107 .neq 106 0,zv 108 107,.br 108 false [zg 109 (zm 13) 108 false,zg 110 (zF 3 3) 108 false,zg 111 (zy 110) 108 false,zg 112 (zm 15) 108 false,zg 113 (.ixs (.tmp 111) (.tmp 112)) 108 false,zg 114 (.dO .i64 (.tmp 113)) 108 false,.mk (some 115) (zw 41 [109,114]) (some (108,false)),zg 116 (zV 115) 108 false],zQ 117 108 116] d1h)) (zr 21 3 [zv 104 15,zK 105 .add 104 1,zv 15 105])
def d1j:aB:= .seq (zs 20 5 [zv 99 15,zf 100 3 3,zl 101 100,zp 102 101,zB 103 .lss 99 102] d1g) d1i
def d1k:aB:= .block 0 (.loop d1j)
def d1l:aB:= .seq (zs 19 1 [zM 15 0] d1k) (zs 24 1 [zW 4 true] .ret)
def d1m:aB:=zs 18 8 [zA 94 8 2,zq 95 15 [94],zq 96 45 [95],zv 93 96,zE 97 0 93,zE 98 1 93,zv 13 97,zv 14 98] d1l
def d1n:aB:= .seq (zs 16 3 [zf 90 0 2,zl 91 90,zK 92 .neq 91 6] d1f) d1m
def d1o:aB:= .seq (.seq (.region 14 true 12 [zv 78 12,zK 79 .neq 78 0,zv 80 79,.br 80 false [zg 81 (zt 6 3) 80 false,.mk (some 82) (zw 50 [81]) (some (80,false)),zg 83 (zF 0 10) 80 false,zg 84 (zy 83) 80 false,zg 85 (zF 1 10) 80 false,zg 86 (zy 85) 80 false,.mk (some 87) (zw 37 [82,84,86]) (some (80,false)),zg 88 (zV 87) 80 false],zQ 89 80 88]) d1e) d1n
def d1p:aB:=zs 13 11 [zA 72 8 2,zq 73 15 [72],zq 74 44 [73],zv 71 74,zE 75 0 71,zE 76 1 71,zE 77 2 71,zo 10 (.alloc [za,za]),zS 2 10 75,zv 11 76,zv 12 77] d1o
def d1q:aB:= .seq (zs 10 3 [zf 50 0 2,zl 51 50,zK 52 .eql 51 2] d1d) d1p
def d1r:aB:= .seq (zs 8 2 [zv 48 5,zN 49 48] d1c) d1q
def d1s:aB:= .seq (zs 6 2 [zv 46 6,zK 47 .neq 46 0] d1b) d1r
def d1t:aB:= .seq (.region 5 true 10 [zA 39 8 2,zq 40 15 [39],zA 41 6 3,zq 42 23 [41],zq 43 24 [40,42],zv 38 43,zE 44 0 38,zE 45 1 38,zv 5 44,zv 6 45]) d1s
def d1u:aB:= .seq (zs 3 20 [zA 18 8 2,zq 19 13 [18],zN 20 19,zv 21 20,.br 21 false [zg 22 (zt 6 3) 21 false,.mk (some 23) (zw 21 [22]) (some (21,false)),zg 24 (zV 23) 21 false],zQ 25 21 24,zv 26 25,.br 26 false [zg 27 (zt 8 2) 26 false,zg 28 (zt 6 3) 26 false,.mk (some 29) (zw 25 [27,28]) (some (26,false)),zg 30 (zU .neq 29 0) 26 false],zQ 31 26 30,zv 32 31,.br 32 false [zg 33 (zF 0 2) 32 false,zg 34 (zy 33) 32 false,.mk (some 35) (zw 49 [34]) (some (32,false)),zg 36 (zU .eql 35 0) 32 false],zQ 37 32 36] d1a) d1t
def d1v:aB:= .seq (zs 1 2 [zc 16 12 [],zN 17 16] d09) d1u
def c9:aB:=zs 0 3 [zX 2 8 0,zX 3 6 1,zW 4 false] d1v
theorem k9:Compiled prog 9 118 [.tmp 4] c9:=kMk [] func9
section
attribute [local simp] bE aM aQ aG aV aO aX tyC fdC vlC ndC aL D.cR D.pt
end
section
attribute [local simp] bE aM aQ aG aV aO aX tyC fdC vlC ndC aL D.cR D.pt
end
section
attribute [local simp] bE aM aQ aG aV aO aX tyC fdC vlC ndC aL D.cR D.pt
end
section
attribute [local simp] bE aM aQ aG aV aO aX tyC fdC vlC ndC aL D.cR D.pt
end
section
attribute [local simp] bE aM aQ aG aV aO aX tyC fdC vlC ndC aL D.cR D.pt
end
section
attribute [local simp] bE aM aQ aG aV aO aX tyC fdC vlC ndC aL D.cR D.pt
end
def b9P:aB:=zd 24 (zs 2 1 [zW 6 false] .ret) .skip
def b9Q:aB:=zd 81 (zs 4 1 [zW 6 true] .ret) .skip
def b9R:aB:=zd 137 (zs 10 1 [zW 6 false] .ret) .skip
def b9S:aB:=zd 139 .skip (.exit 0)
def b9T:aB:=zd 197 (zs 20 1 [zW 6 false] .ret) .skip
def b9U:aB:=zd 228 (zs 22 1 [zW 6 false] .ret) .skip
def b3n:aB:=zs 21 31 [zv 198 17,zv 199 15,zK 200 .eql 199 0,zv 201 200,.grp 201 true [zg 202 (zm 11) 201 true,zg 203 (zm 202) 201 true],.grp 203 false [zg 204 (zm 13) 203 false],.grp 201 true [zg 205 (.pick (.tmp 203) (zb true) (.tmp 204)) 201 true],zP 206 201 205,zv 207 206,.grp 207 false [zg 208 (zm 15) 207 false,zg 209 (zU .eql 208 1) 207 false,zg 210 (zm 209) 207 false],.grp 210 true [zg 211 (zm 11) 210 true],.grp 207 false [zg 212 (.pick (.tmp 210) (.tmp 211) (zb false)) 207 false,zg 213 (zm 212) 207 false],.grp 213 true [zg 214 (zm 13) 213 true],.grp 207 false [zg 215 (.pick (.tmp 213) (.tmp 214) (zb false)) 207 false],zQ 216 207 215,zv 217 216,.grp 217 false [zg 218 (zm 15) 217 false,zg 219 (zU .eql 218 2) 217 false,zg 220 (zm 219) 217 false],.grp 220 true [zg 221 (zm 11) 220 true],.grp 217 false [zg 222 (.pick (.tmp 220) (.tmp 221) (zb false)) 217 false,zg 223 (zm 222) 217 false],.grp 223 true [zg 224 (zm 13) 223 true,zg 225 (zV 224) 223 true],.grp 217 false [zg 226 (.pick (.tmp 223) (.tmp 225) (zb false)) 217 false],zQ 227 217 226,zo 228 (.bin .neq true (.tmp 198) (.tmp 227))] b9U
def b9V:aB:= .seq (zs 19 23 [zv 175 18,zK 176 .neq 175 0,zv 177 176,.grp 177 false [zg 178 (zm 20) 177 false,zg 179 (zU .neq 178 0) 177 false],zQ 180 177 179,zv 181 180,.grp 181 false [zg 182 (zm 22) 181 false,zg 183 (zU .neq 182 0) 181 false],zQ 184 181 183,zv 185 184,.br 185 false [zg 186 (zm 19) 185 false,zg 187 (zm 21) 185 false,.mk (some 188) (zw 20 [186,187]) (some (185,false)),zg 189 (zV 188) 185 false],zQ 190 185 189,zv 191 190,.br 191 false [zg 192 (zm 17) 191 false,zg 193 (zm 19) 191 false,zg 194 (zm 2) 191 false,.mk (some 195) (zw 41 [193,194]) (some (191,false)),zg 196 (.bin .neq true (.tmp 192) (.tmp 195)) 191 false],zQ 197 191 196] b9T) b3n
def b9W:aB:=zs 18 8 [zA 170 8 16,zq 171 15 [170],zq 172 28 [171],zv 169 172,zE 173 0 169,zE 174 1 169,zv 21 173,zv 22 174] b9V
def b9X:aB:=zs 17 11 [zv 161 15,zv 162 7,zq 163 34 [162],zv 164 9,zq 165 34 [164],zq 166 36 [161,163,165],zv 160 166,zE 167 0 160,zE 168 1 160,zv 19 167,zv 20 168] b9W
def b9Y:aB:=zs 16 10 [zA 153 8 16,zq 154 15 [153],zv 155 2,zq 156 40 [155],zq 157 22 [154,156],zv 152 157,zE 158 0 152,zE 159 1 152,zv 17 158,zv 18 159] b9X
def b9Z:aB:=zs 15 10 [zv 143 15,zo 144 (.bin .add false (zi 4) (.tmp 143)),zf 145 7 3,zl 146 145,zf 147 7 4,zl 148 147,zo 149 (.bslice 1 2 [.tt 5 [],.tt 5 []] [(0,(1,.tmp 146)),(1,(1,.tmp 148))]),zq 150 42 [144,149],zf 151 7 16,zS 1 151 150] b9Y
def b90:aB:= .seq (.block 1 (zs 14 3 [zA 142 8 3,zo 16 (.alloc [za,.t (.str (bs [])),.tt 3 [],.tt 13 [],.t (.bool false),za,.tt 8 [],.tt 5 []]),zS 8 16 142] b9Z)) (zr 13 3 [zv 140 15,zK 141 .add 140 1,zv 15 141])
def b91:aB:= .seq (zs 12 2 [zv 138 15,zK 139 .lss 138 3] b9S) b90
def b92:aB:= .block 0 (.loop b91)
def b3o:aB:= .seq (zs 11 1 [zM 15 0] b92) (zs 23 1 [zW 6 true] .ret)
def b93:aB:= .seq (zs 9 28 [zv 110 8,zK 111 .neq 110 0,zv 112 111,.grp 112 false [zg 113 (zm 10) 112 false,zg 114 (zU .neq 113 0) 112 false],zQ 115 112 114,zv 116 115,.grp 116 false [zg 117 (zm 12) 116 false,zg 118 (zU .neq 117 0) 116 false],zQ 119 116 118,zv 120 119,.grp 120 false [zg 121 (zm 14) 120 false,zg 122 (zU .neq 121 0) 120 false],zQ 123 120 122,zv 124 123,.br 124 false [zg 125 (zm 11) 124 false,zg 126 (zm 7) 124 false,zg 127 (zm 2) 124 false,.mk (some 128) (zw 41 [126,127]) (some (124,false)),zg 129 (.bin .neq true (.tmp 125) (.tmp 128)) 124 false],zQ 130 124 129,zv 131 130,.br 131 false [zg 132 (zm 13) 131 false,zg 133 (zm 9) 131 false,zg 134 (zm 2) 131 false,.mk (some 135) (zw 41 [133,134]) (some (131,false)),zg 136 (.bin .neq true (.tmp 132) (.tmp 135)) 131 false],zQ 137 131 136] b9R) b3o
def b94:aB:=zs 8 10 [zA 103 8 4,zq 104 15 [103],zv 105 2,zq 106 40 [105],zq 107 22 [104,106],zv 102 107,zE 108 0 102,zE 109 1 102,zv 13 108,zv 14 109] b93
def b95:aB:=zs 7 10 [zA 95 8 3,zq 96 15 [95],zv 97 2,zq 98 40 [97],zq 99 22 [96,98],zv 94 99,zE 100 0 94,zE 101 1 94,zv 11 100,zv 12 101] b94
def b96:aB:=zs 6 8 [zA 89 8 4,zq 90 15 [89],zq 91 28 [90],zv 88 91,zE 92 0 88,zE 93 1 88,zv 9 92,zv 10 93] b95
def b97:aB:=zs 5 8 [zA 83 8 3,zq 84 15 [83],zq 85 28 [84],zv 82 85,zE 86 0 82,zE 87 1 82,zv 7 86,zv 8 87] b96
def b98:aB:= .seq (zs 3 57 [zA 25 8 3,zq 26 13 [25],zN 27 26,zv 28 27,.br 28 false [zg 29 (zt 8 4) 28 false,.mk (some 30) (zw 13 [29]) (some (28,false)),zg 31 (zV 30) 28 false],zQ 32 28 31,zv 33 32,.grp 33 false [zg 34 (zF 0 3) 33 false,zg 35 (zy 34) 33 false,zg 36 (zU .neq 35 2) 33 false],zQ 37 33 36,zv 38 37,.grp 38 false [zg 39 (zF 0 4) 38 false,zg 40 (zy 39) 38 false,zg 41 (zU .neq 40 2) 38 false],zQ 42 38 41,zv 43 42,.br 43 false [zg 44 (zF 7 3) 43 false,zg 45 (zy 44) 43 false,zg 46 (.len false (.tmp 45)) 43 false,.mk (some 47) (.call 37 [.tmp 46,zi 1,zi 9]) (some (43,false)),zg 48 (zV 47) 43 false],zQ 49 43 48,zv 50 49,.br 50 false [zg 51 (zF 7 4) 50 false,zg 52 (zy 51) 50 false,zg 53 (.len false (.tmp 52)) 50 false,.mk (some 54) (.call 37 [.tmp 53,zi 1,zi 9]) (some (50,false)),zg 55 (zV 54) 50 false],zQ 56 50 55,zv 57 56,.br 57 false [zg 58 (zm 2) 57 false,.mk (some 59) (.call 37 [.tmp 58,zi (-1152921504606846976),zi 1152921504606846976]) (some (57,false)),zg 60 (zV 59) 57 false],zQ 61 57 60,zv 62 61,.br 62 false [zg 63 (zt 8 3) 62 false,.mk (some 64) (zw 29 [63]) (some (62,false)),zg 65 (zU .neq 64 0) 62 false],zQ 66 62 65,zv 67 66,.br 67 false [zg 68 (zt 8 4) 67 false,.mk (some 69) (zw 29 [68]) (some (67,false)),zg 70 (zU .neq 69 0) 67 false],zQ 71 67 70,zv 72 71,.br 72 false [zg 73 (zF 7 3) 72 false,zg 74 (zy 73) 72 false,.mk (some 75) (zw 39 [74]) (some (72,false))],zQ 76 72 75,zv 77 76,.br 77 false [zg 78 (zF 7 4) 77 false,zg 79 (zy 78) 77 false,.mk (some 80) (zw 39 [79]) (some (77,false))],zQ 81 77 80] b9Q) b97
def b99:aB:= .seq (zs 1 2 [zc 23 12 [],zN 24 23] b9P) b98
def c7:aB:=zs 0 3 [zX 3 8 0,zX 4 8 1,zW 6 false] b99
theorem k7:Compiled prog 7 229 [.tmp 6] c7:=kMk [] func7
def d0a:aB:= .seq (zs 4 4 [zv 10 7,zv 11 1,zL 12 11,zB 13 .lss 10 12] (zd 13 .skip (.exit 0))) (.seq (.block 1 (zs 6 10 [zv 16 5,zv 17 1,zv 18 7,zI 19 1 17 18,zl 20 19,zv 21 5,zL 22 21,zq 23 88 [20,22],zo 24 (.app true 5 64 (.tmp 16) (.tmp 23)),zv 5 24] (zr 7 9 [zf 25 4 6,zl 26 25,zv 27 5,zL 28 27,zK 29 .sub 28 1,zo 30 (.bslice 1 1 [za] [(0,(1,.tmp 29))]),zo 31 (.app true 1 8 (.tmp 26) (.tmp 30)),zf 32 4 6,zS 1 32 31]))) (zr 5 3 [zv 14 7,zK 15 .add 14 1,zv 7 15]))
def c42:aB:=zs 0 1 [zo 4 (.mv (.con (.one (.tt 5 []))))] (zs 1 1 [zo 5 (.mv (.con (.one (.tt 5 []))))] (zs 2 4 [zv 8 0,zo 9 (.build [za,za,za,.t (.str (bs [])),.tt 1 []] [(0,(1,.tmp 8))]),zo 6 (.alloc [za,za,za,.t (.str (bs [])),.tt 1 []]),zS 5 6 9] (.seq (zs 3 1 [zM 7 0] (.block 0 (.loop d0a))) (zs 8 5 [zv 33 5,zA 34 5 6,zo 35 (.bsref 5 1 [za,za,za,.t (.str (bs [])),.tt 1 []] [(0,(5,.tmp 34))]),zo 36 (.app true 5 64 (.tmp 33) (.tmp 35)),zv 4 36] .ret))))
theorem k42:Compiled prog 42 37 [.tmp 4] c42:=kMk [(8,2)] func42
def d0b:aB:= .seq (zs 8 8 [zv 20 8,zv 21 0,zv 22 6,zI 23 5 21 22,zf 24 4 23,zl 25 24,zL 26 25,zB 27 .lss 20 26] (zd 27 .skip (.exit 2))) (.seq (.block 3 (.region 10 true 16 [zf 30 4 7,zl 31 30,zv 32 0,zv 33 6,zI 34 5 32 33,zf 35 4 34,zl 36 35,zv 37 8,zI 38 1 36 37,zl 39 38,zv 40 1,zB 41 .add 39 40,zo 42 (.bslice 1 1 [za] [(0,(1,.tmp 41))]),zo 43 (.app true 1 8 (.tmp 31) (.tmp 42)),zf 44 4 7,zS 1 44 43])) (zr 9 3 [zv 28 8,zK 29 .add 28 1,zv 8 29]))
def d0c:aB:= .seq (zs 3 4 [zv 9 6,zv 10 0,zL 11 10,zB 12 .lss 9 11] (zd 12 .skip (.exit 0))) (.seq (.block 1 (zs 5 6 [zv 15 0,zv 16 6,zI 17 5 15 16,zA 18 5 17,zo 7 (.alloc [za,za,za,.t (.str (bs [])),.tt 1 []]),zS 5 7 18] (zs 6 2 [zf 19 4 7,zn (.store 1 (.tmp 19) (.con (.one (.tt 1 []))))] (.seq (zs 7 1 [zM 8 0] (.block 2 (.loop d0b))) (zr 11 5 [zv 45 5,zA 46 5 7,zo 47 (.bsref 5 1 [za,za,za,.t (.str (bs [])),.tt 1 []] [(0,(5,.tmp 46))]),zo 48 (.app true 5 64 (.tmp 45) (.tmp 47)),zv 5 48]))))) (zr 4 3 [zv 13 6,zK 14 .add 13 1,zv 6 14]))
def c88:aB:=zs 0 1 [zo 4 (.mv (.con (.one (.tt 5 []))))] (zs 1 1 [zo 5 (.mv (.con (.one (.tt 5 []))))] (.seq (zs 2 1 [zM 6 0] (.block 0 (.loop d0c))) (zs 12 2 [zv 49 5,zv 4 49] .ret)))
theorem k88:Compiled prog 88 50 [.tmp 4] c88:=kMk [(11,2)] func88
def c39:aB:=zs 0 1 [zW 2 false] (zs 1 14 [zv 3 0,zL 4 3,zK 5 .gtr 4 0,zv 6 5,.br 6 true [zg 7 (zm 0) 6 true,zg 8 (zm 0) 6 true,zg 9 (.len false (.tmp 8)) 6 true,zg 10 (zU .sub 9 1) 6 true,zg 11 (.ia 5 (.tmp 7) (.tmp 10)) 6 true,zg 12 (zF 0 11) 6 true,zg 13 (zy 12) 6 true,zg 14 (zU .eql 13 7) 6 true],zP 15 6 14,zv 2 15] .ret)
theorem k39:Compiled prog 39 16 [.tmp 2] c39:=kMk [] func39
def d0d:List Seg:=[zo 6 (.mv (.con (.one (.tt 2 [])))),zM 7 0]
def d0e:List Seg:=[zv 14 0,zc 15 85 [.tmp 14,zi 0,zi 2],zN 16 15]
def d1w:List Seg:=[zo 6 (.mv (.con (.one (.tt 2 [])))),zM 7 4]
def d0f:List Seg:=[zv 18 1,zq 19 33 [18],zv 17 19,zE 20 0 17,zE 21 1 17,zv 8 20,zv 9 21]
def d0g:List Seg:=[zv 23 2,zq 24 33 [23],zv 22 24,zE 25 0 22,zE 26 1 22,zv 10 25,zv 11 26]
def d0h:List Seg:=[zv 27 9,zv 28 11,zo 29 (.bslice 1 2 [za,za] [(0,(1,.tmp 27)),(1,(1,.tmp 28))]),zq 30 79 [29],zv 12 30]
def d0i:List Seg:=[zv 31 12,zK 32 .neq 31 0]
def d1x:List Seg:=[zv 33 12,zo 6 (.mv (.con (.one (.tt 2 [])))),zv 7 33]
def d0j:List Seg:=[zv 34 0,zv 35 1,zv 36 2,zq 37 86 [34,35,36],zv 13 37]
def d0k:List Seg:=[zv 38 13,zL 39 38,zK 40 .gtr 39 40]
def d1y:List Seg:=[zo 6 (.mv (.con (.one (.tt 2 [])))),zM 7 2]
def d0l:List Seg:=[zv 41 13,zv 6 41,zM 7 0]
def c36:aB:=zs 0 2 d0d (.seq (zs 1 3 d0e (zd 16 (zs 2 2 d1w .ret) .skip)) (zs 3 7 d0f (zs 4 7 d0g (.seq (zs 5 5 d0h (zs 6 2 d0i (zd 32 (zs 7 3 d1x .ret) .skip))) (zs 8 5 d0j (.seq (zs 9 3 d0k (zd 40 (zs 10 2 d1y .ret) .skip)) (zs 11 3 d0l .ret)))))))
theorem k36:Compiled prog 36 42 [.tmp 6,.tmp 7] c36:=kMk [] func36
def b3p:List Seg:=[zM 2 0,zM 3 0]
def b3q:List Seg:=[zv 6 0,zL 7 6,zK 8 .gtr 7 40]
def d0m:List Seg:=[zM 2 0,zM 3 2]
def d0n:List Seg:=[zv 9 0,zL 10 9,zM 11 0]
def b3r:List Seg:=[zB 12 .lss 11 10]
def d0o:List Seg:=[zv 13 11,zI 14 2 9 11,zA 15 2 14,zo 5 (.alloc [za,za]),zv 4 13,zS 2 5 15]
def d0p:List Seg:=[zf 16 0 5,zl 17 16,zf 18 1 5,zl 19 18,zB 20 .gtr 17 19,zv 21 20,.grp 21 false [zg 22 (zF 0 5) 21 false,zg 23 (zy 22) 21 false,zg 24 (zU .lss 23 (-1152921504606846976)) 21 false],zQ 25 21 24,zv 26 25,.grp 26 false [zg 27 (zF 1 5) 26 false,zg 28 (zy 27) 26 false,zg 29 (zU .gtr 28 1152921504606846976) 26 false],zQ 30 26 29]
def d0q:List Seg:=[zv 31 4,zv 2 31,zM 3 3]
def b3s:List Seg:=[zv 32 4,zK 33 .gtr 32 0,zv 34 33,.br 34 true [zg 35 (zF 0 5) 34 true,zg 36 (zy 35) 34 true,zg 37 (zm 0) 34 true,zg 38 (zm 4) 34 true,zg 39 (zU .sub 38 1) 34 true,zg 40 (.ia 2 (.tmp 37) (.tmp 39)) 34 true,zg 41 (zF 1 40) 34 true,zg 42 (zy 41) 34 true,zg 43 (zU .add 42 1) 34 true,zg 44 (zO .leq 36 43) 34 true],zP 45 34 44]
def d0r:List Seg:=[zv 46 4,zv 2 46,zM 3 14]
def b3t:List Seg:=[zK 47 .add 11 1,zv 11 47]
def b3u:aB:=zs 4 1 b3r (.seq (zd 12 .skip (.exit 0)) (.seq (.block 1 (zs 5 6 d0o (.seq (zs 6 15 d0p (zd 30 (zs 7 3 d0q .ret) .skip)) (.seq (.region 8 true 14 b3s) (zd 45 (zs 9 3 d0r .ret) .skip))))) (zr 10 2 b3t)))
def d0s:List Seg:=[zv 48 0,zL 49 48,zv 2 49,zM 3 0]
def c33:aB:=zs 0 2 b3p (.seq (zs 1 3 b3q (zd 8 (zs 2 2 d0m .ret) .skip)) (.seq (zs 3 3 d0n (.block 0 (.loop b3u))) (zs 11 4 d0s .ret)))
theorem k33:Compiled prog 33 50 [.tmp 2,.tmp 3] c33:=kMk [] func33
def d0t:List Seg:=[zo 2 (.mv (.con (.one (.tt 2 []))))]
def d0u:List Seg:=[zo 3 (.bslice 2 0 [] []),zv 4 0,zo 5 (.app false 2 16 (.tmp 3) (.tmp 4)),zv 2 5]
def c34:aB:=zs 0 1 d0t (zs 1 4 d0u .ret)
theorem k34:Compiled prog 34 6 [.tmp 2] c34:=kMk [(1,2)] func34
section
attribute [-simp] Go.Ab.aA Go.Ab.gval
attribute [local simp] bE aM aQ aG aV aO aX tyC fdC vlC ndC aL D.cR D.pt
def shN(s:Nat)(x:Nd):Nd:={ x with args:=x.args.map (· +(s:Int)) }
def bW(k:Int)(a b:List Nd):List Nd:=a++b.map (shN a.length)++[⟨k,0,0,bs [],[((a.length - 1:Nat):Int),((a.length+b.length - 1:Nat):Int)]⟩]
def vJ(h:Hp)(lo nx:Nat)(c:A)(s:List Int):Prop:=
 (s=[]∧c= .tt 1 [])∨(s≠[]∧∃id ver,c= .ref id ver 0 s.length 1 false∧h id=some (.arr ver false 1 (s.map fun a=>[.t (I a)]))∧lo≤id∧id<nx)
def aJG(h:Hp)(nx:Nat)(row:List A)(x:Nd):Prop:=∃ c,row=[.t (I x.k),.t (I x.lo),.t (I x.hi),.t (.str x.s),c]∧(c= .t (aX x.args)∨vJ h 0 nx c x.args)
def sZ(d:D)(h:Hp)(nx:Nat)(acc:List Nd):Prop:=
 (acc=[]∧d= .one (.tt 5 []))∨(acc≠[]∧∃id ver rows,d= .one (.ref id ver 0 acc.length 5 false)∧h id=some (.arr ver false 5 rows)∧id<nx∧rows.length=acc.length∧∀(i:Nat) (row:List A) (x:Nd),rows[i]? =some row→acc[i]? =some x→aJG h nx row x)
theorem vJ.keep{h h':Hp}{lo nx nx':Nat}{c:A}{s:List Int}(a:vJ h lo nx c s)(hh:∀ id,id<nx→h' id=h id)(hn:nx≤nx'):vJ h' lo nx' c s:=by
 rcases a with a | ⟨a,id,ver,b,e,f,g⟩
 ·exact .inl a
 ·exact .inr ⟨a,id,ver,b,by rw[hh id g];exact e,f,by omega⟩
theorem sZ.keep{d:D}{h h':Hp}{nx nx':Nat}{acc:List Nd}(a:sZ d h nx acc)(hh:∀ id,id<nx→h' id=h id)(hn:nx≤nx'):sZ d h' nx' acc:=by
 rcases a with a | ⟨a,id,ver,rows,b,e,f,l,g⟩
 ·exact .inl a
 ·exact .inr ⟨a,id,ver,rows,b,by rw[hh id f];exact e,by omega,l,fun i row x h1 h2=>by
   obtain⟨c,c1,c2⟩:=g i row x h1 h2
   exact⟨c,c1,c2.imp (fun e=>e) (·.keep hh hn)⟩⟩
theorem vJ.good{h:Hp}{lo nx:Nat}{c:A}{s:List Int}(a:vJ h lo nx c s):c.good=true:=by
 rcases a with⟨_,rfl⟩ | ⟨_,id,ver,rfl,_⟩<;>rfl
theorem vJ.aM8{h h':Hp}{lo nx nx':Nat}{c:A}{s:List Int}(a:vJ h lo nx c s)(hh:∀ j,j<nx→(∀ver b rows,h j≠some (.arr ver b 5 rows))→h' j=h j)(hn:nx≤nx'):vJ h' 0 nx' c s:=by
 rcases a with a | ⟨a,id1,aMO,b1,e1,f,g⟩
 ·exact .inl a
 ·exact .inr ⟨a,id1,aMO,b1,by rw[hh id1 g (fun v b r q=>by rw[q]at e1;simp at e1)];exact e1,by omega,by omega⟩
theorem sZ.more{h h':Hp}{nx nx' id ver:Nat}{rows:List (List A)}{acc:List Nd}{row:List A}{x:Nd}(l:rows.length=acc.length)(g:∀ (i:Nat) (row:List A) (x:Nd),rows[i]? =some row→acc[i]? =some x→aJG h nx row x)
  (hr:aJG h' nx' row x) (hh:∀ j,j<nx→(∀ver b rows,h j≠some (.arr ver b 5 rows))→h' j=h j) (hn:nx≤nx') (e':h' id=some (.arr (ver+1) false 5 (rows++[row]))) (hid:id<nx'):sZ (.one (.ref id (ver+1) 0 (acc.length+1) 5 false)) h' nx' (acc++[x]):=by
 refine .inr ⟨by simp,id,ver+1,rows++[row],by simp,e',hid,by simp[l],fun i r y h1 h2=>?_⟩
 by_cases hi:i<rows.length
 ·rw[List.getElem?_append_left hi]at h1;rw[List.getElem?_append_left (by omega)]at h2;obtain⟨c,c1,c2⟩:=g i r y h1 h2;exact⟨c,c1,c2.imp (fun e=>e) (·.aM8 hh hn)⟩
 ·rw[List.getElem?_append_right (by omega)]at h1;rw[List.getElem?_append_right (by omega),←l]at h2
  have:i - rows.length=0:=by
   have:=(gS9.1 h1).1;simp at this;omega
  rw[this]at h1 h2;simp only[List.getElem?_cons_zero,sI9]at h1 h2;rw[←h1,←h2];exact hr
theorem sZ.first{h:Hp}{nx id:Nat}{row:List A}{x:Nd}(hr:aJG h nx row x)(e:h id=some (.arr 0 false 5 [row]))(hid:id<nx):sZ (.one (.ref id 0 0 1 5 false)) h nx [x]:=by
 refine .inr ⟨by simp,id,0,[row],by simp,e,hid,by simp,fun i r y h1 h2=>?_⟩
 have:i=0:=by
  have:=(gS9.1 h1).1;simp at this;omega
 subst this;simp only[List.getElem?_cons_zero,sI9]at h1 h2;rw[←h1,←h2];exact hr
theorem yC{α β:Type}(f:α→β):∀ (r:List α) (z:List β),(r.foldl (fun q a=>q++[f a]) z)=z++r.map f
 | [],z=>by simp
 | a::r,z=>by rw[List.foldl_cons,yC f r];simp
theorem vJ.frz{h:Hp}{lo nx:Nat}{c:A}{s:List Int}(a:vJ h lo nx c s)(k:Nat):c.cE h (k+2)∧c.frz h (k+2)=aX s:=by
 rcases a with⟨rfl,rfl⟩ | ⟨_,id,ver,rfl,e,_,_⟩
 ·simp[A.frz,A.cE,A.tree,A.tree?]
 ·obtain⟨o1,o2,o3,o4⟩:=aK e;simp[A.frz,A.cE,A.tree,A.tree?,o1,o2,o3,List.take_of_length_le]
theorem aJG.frz{h:Hp}{nx:Nat}{row:List A}{x:Nd}(a:aJG h nx row x):(∀c∈row,c.cE h 2)∧row.map (A.frz h 2)=x.row:=by
 obtain⟨c,rfl,hc⟩:=a
 obtain⟨f1,f2⟩:c.cE h 2∧c.frz h 2=aX x.args:=by
  rcases hc with rfl | hc
  ·simp[A.frz,A.cE,A.tree,A.tree?]
  ·exact hc.frz 0
 refine⟨fun y hy=>?_,by simp[Nd.row,A.frz,f2]⟩;simp only[List.mem_cons,List.not_mem_nil,or_false]at hy;rcases hy with rfl | rfl | rfl | rfl | rfl
 all_goals first | exact f1 | simp[A.cE]
theorem sZ.frz{d:D}{h:Hp}{nx:Nat}{acc:List Nd}(a:sZ d h nx acc):d.cE h∧d.frz h= .one (.t (aG acc)):=by
 rcases a with⟨rfl,rfl⟩ | ⟨_,id,ver,rows,rfl,e,_,hl,hr⟩
 ·simp[D.frz,D.cE,aT]
 ·obtain⟨o1,o2,o3,o4⟩:=aK e;have hrow:∀ i (hi:i<rows.length),(∀c∈rows[i],c.cE h 2)∧rows[i].map (A.frz h 2)=(acc[i]'(by omega)).row:=fun i hi=>(hr i _ _ (gE9 hi) (gE9 (by omega))).frz
  constructor
  ·simp only[D.cE,aT,A.cE,o1,o2,o3,List.drop_zero,true_and];refine⟨by omega,fun r hr c hc=>?_⟩;obtain⟨i,hi,rfl⟩:=List.getElem_of_mem (List.mem_of_mem_take hr);exact(hrow i hi).1 c hc
  ·simp only[D.frz,aT,A.frz,o2,List.drop_zero,aG];rw[List.take_of_length_le (by omega)];congr 3;refine List.ext_getElem (by simp[hl]) fun i h1 h2=>?_
   rw[List.getElem_map,List.getElem_map];exact(hrow i (by simpa using h1)).2
attribute [local simp] d0b d0c c88 in
theorem P88(l:List Nd)(s:Nat)(hl:l.length≤40)(hs:s≤1000)(ha:∀ x∈l,x.args.length≤40∧∀a∈x.args,0≤a∧a≤1000):PSp prog 88 [.one (.t (aG l)),.one (.t (I s))] (.one (.t (aG (l.map (shN s))))):=by
 refine k88.aI (by simp) rfl rfl ?_;simp -implicitDefEqProofs;refine oX l (fun acc x=>acc++[shN s x]) [] [0,1] [] (fun i acc st=>st.tmps 6= .one (.t (I i))∧sZ (st.tmps 5) st.heap st.nx acc) (by simp only[short];omega) ⟨⟨by simp,by simp[sZ]⟩,by simp,by simp⟩ ?_ ?_
 ·rintro i x acc st hi hiI hw hg hy hacc ⟨h6,h5⟩ hk hh;simp at hk;obtain⟨a1,a2⟩:=ha x hy;simp -implicitDefEqProofs [h6,hk,hi,hiI,aE hg,Nd.row,-List.getElem_map];have hal:=ha x hy;refine oX x.args (fun q a=>q++[a+(s:Int)]) [] [0,1,5,6,7] [] (fun j q st'=>st'.tmps 8= .one (.t (I j))∧(∀id,id<st.nx→st'.heap id=st.heap id)∧st.nx+4+4<st'.nx∧∃c,st'.heap (st.nx+4+4)=some (.arr 0 false 5 [[.t (I x.k),.t (I x.lo),.t (I x.hi),.t (.str x.s),c]])∧vJ st'.heap (st.nx+4+4+1) st'.nx c q) (by simp only[short];omega) ⟨⟨by simp,fun id hid=>?_,?_,.tt 1 [],?_,.inl ⟨rfl,rfl⟩⟩,by simp,by simp⟩ ?_ ?_
  ·simp[Hp.set];omega
  ·simp
  ·simp[Hp.set]
  ·rintro j y q st2 hj hjI hw2 hg2 hy2 hq ⟨h8,hlow,hnx,c,hc,hA⟩ hk2 hh2;simp at hk2;obtain⟨o1,o2,o3,o4⟩:=aK hc;have hyb:=a2 y hy2;have hws:IntKind.i64.wrap (y+(s:Int))=y+s:=wrap_i64 (by omega) (by omega)
   have hql:q.length=j:=by
    rw[hq]
    have:∀ (r:List Int) (z:List Int),(r.foldl (fun q a=>q++[a+(s:Int)]) z).length=z.length+r.length:=by
     intro r
     induction r with
     | nil=>intro z;rfl
     | cons b r ih=>intro z;rw[List.foldl_cons,ih];simp;omega
    rw[this];simp;omega
   rcases hA with⟨rfl,rfl⟩ | ⟨hne,id,ver,rfl,he,hlo,aTX⟩
   ·have n1:¬ st.nx=st2.nx+13:=by omega
    simp -implicitDefEqProofs [h6,h8,hk,hk2,hi,hiI,aE hg,Nd.row,hj,hjI,aE hg2,o1,o2,o3,o4,hws,hw2,n1,-List.getElem_map];refine⟨fun id hid=>?_,by omega,.ref (st2.nx+8+13) 0 0 1 1 false,by simp[Hp.set],.inr ⟨by simp,_,0,rfl,?_,by omega,by omega⟩⟩
    ·rw[←hlow id hid];simp only[Hp.set];rw[if_neg (by omega),if_neg (by omega)]
    ·simp only[Hp.set];rw[if_neg (by omega)];simp
   ·obtain⟨p1,p2,p3,p4⟩:=aK he;have n1:¬ st.nx+4+4=id:=by omega
    have n2:¬ id=st.nx+4+4:=by omega
    simp -implicitDefEqProofs [h6,h8,hk,hk2,hi,hiI,aE hg,Nd.row,hj,hjI,aE hg2,o1,o2,o3,o4,p1,p2,p3,p4,hws,hw2,n1,-List.getElem_map];refine⟨by omega,fun j2 hj2=>?_,by omega,.ref id (ver+1) 0 (q.length+1) 1 false,by simp[Hp.set],.inr ⟨by simp,id,ver+1,by simp,?_,by omega,by omega⟩⟩
    ·rw[←hlow j2 hj2];simp only[Hp.set];rw[if_neg (by omega),if_neg (by omega)]
    ·simp only[Hp.set];rw[if_neg (by omega)];simp
  ·rintro st2 ⟨h8,hlow,hnx,c,hc,hA⟩ hk2 hh2;simp at hk2;obtain⟨o1,o2,o3,o4⟩:=aK hc
   have eargs:x.args.foldl (fun q a=>q++[a+(s:Int)]) []=(shN s x).args:=by
    have:∀ (r z:List Int),r.foldl (fun q a=>q++[a+(s:Int)]) z=z++r.map (· +(s:Int)):=by
     intro r
     induction r with
     | nil=>intro z;simp
     | cons b r ih=>intro z;rw[List.foldl_cons,ih];simp
    rw[this];rfl
   rw[eargs]at hA;have hal2:acc.length=i:=by rw[hacc,yC];simp;omega
   have hgood:=hA.good;have ho:=(h5.keep (h':=st2.heap) (nx':=st2.nx) hlow (by omega));rcases ho with⟨rfl,g2⟩ | ⟨g1,id,ver,rows,g2,g3,g4,g5,g6⟩
   ·simp -implicitDefEqProofs [h6,h8,hk,hk2,hi,hiI,aE hg,Nd.row,o1,o2,o3,g2,hw,-List.getElem_map];refine⟨hgood,sZ.first ⟨c,rfl,.inr (hA.aM8 (fun j hj q=>?_) (by omega))⟩ (by simp[Hp.set,shN]) (by omega)⟩;simp only[Hp.set];rw[if_neg (by omega),if_neg (by omega)]
   ·obtain⟨p1,p2,p3,p4⟩:=aK g3;have n1:¬ id=st2.nx+8+2:=by omega
    simp -implicitDefEqProofs [h6,h8,hk,hk2,hi,hiI,aE hg,Nd.row,o1,o2,o3,p1,p2,p3,p4,n1,g2,hw,-List.getElem_map]
    have hset:∀ j,j<st2.nx→(∀ver b rows,st2.heap j≠some (.arr ver b 5 rows))→(st2.heap.set (st2.nx+8+2) (.arr 0 false 5 [[.t (I x.k),.t (I x.lo),.t (I x.hi),.t (.str x.s),c]])).set id (.arr (ver+1) false 5 (rows++[[.t (I x.k),.t (I x.lo),.t (I x.hi),.t (.str x.s),c]])) j=st2.heap j:=fun j hj q=>by
     have:j≠id:=fun e=>q _ _ _ (by rw[e];exact g3)
     simp only[Hp.set];rw[if_neg this,if_neg (by omega)]
    exact⟨hgood,⟨by omega,g5.symm⟩,sZ.more g5 g6 ⟨c,rfl,.inr (hA.aM8 hset (by omega))⟩ hset (by omega) (by simp[Hp.set,shN]) (by omega)⟩
 ·rintro st ⟨h6,h5⟩ hk hh;simp at hk;rw[yC,List.nil_append]at h5;have h5':=h5.frz;rcases h5 with⟨e,g2⟩ | ⟨e,id,ver,rows,g2,g3,_⟩
  ·simp -implicitDefEqProofs [h6,hk,g2,aC];exact List.map_eq_nil_iff.1 e
  ·obtain⟨f1,f2⟩:=h5';rw[g2]at f1 f2;simp[D.cE,D.frz]at f1 f2;simp -implicitDefEqProofs [h6,hk,g2,f1,f2,aC]
theorem aM9(l:List Nd):l.map (shN 0)=l:=by
 have:∀ x:Nd,shN 0 x=x:=fun x=>by cases x;simp[shN]
 exact(List.map_congr_left fun x _=>this x).trans (List.map_id l)
def kS(a b:List Nd):T:= .rows 1 [[aG a],[aG b]]
attribute [local simp] d0a c42 in
theorem P42(k:Int)(a b:List Nd)(la:1≤a.length)(lb:1≤b.length)(la2:a.length≤40)(lb2:b.length≤40)(ha:∀ x∈a,x.args.length≤40∧∀e∈x.args,0≤e∧e≤1000)(hb:∀ x∈b,x.args.length≤40∧∀e∈x.args,0≤e∧e≤1000):
  PSp prog 42 [.one (.t (I k)),.one (.t (kS a b))] (.one (.t (aG (bW k a b)))):=by
 have p1:=P88 a 0 la2 (by omega) ha;have p2:=P88 b a.length lb2 (by omega) hb;rw[aM9]at p1;have za:¬ a=[]:=fun e=>by rw[e]at la;simp at la
 have zb:¬ b=[]:=fun e=>by rw[e]at lb;simp at lb
 have w1:IntKind.i64.wrap (0+1:Int)=1:=wrap_i64 (by omega) (by omega);have w2:IntKind.i64.wrap (1:Int)=1:=wrap_i64 (by omega) (by omega);have w3:IntKind.i64.wrap (1+1:Int)=2:=wrap_i64 (by omega) (by omega);have w4:IntKind.i64.wrap (2:Int)=2:=wrap_i64 (by omega) (by omega);have w5:IntKind.i64.wrap ((a.length:Int) - 1)=((a.length - 1:Nat):Int):=by rw[wrap_i64 (by omega) (by omega)];omega
 have w6:IntKind.i64.wrap ((a.length:Int)+(b.length:Int) - 1)=((a.length+b.length - 1:Nat):Int):=by rw[wrap_i64 (by omega) (by omega)];omega
 refine k42.aI (by simp) rfl rfl ?_;simp -implicitDefEqProofs [kS]
 refine W.cU (fun m st=>st.tmps 1= .one (.t (kS a b))∧st.tmps 6= .one (.ptr ⟨4,0,5,0,0⟩)∧7≤st.nx∧
  ((m=2∧st.tmps 7= .one (.t (I 0))∧st.tmps 5= .one (.tt 5 [])∧st.heap 4=some (.arr 0 false 5 [[.t (I k),.t (I 0),.t (I 0),.t (.str (bs [])),.tt 1 []]]))∨
   (m=1∧st.tmps 7= .one (.t (I 1))∧∃i1 i2,st.tmps 5= .one (.ref i1 0 0 a.length 5 false)∧st.heap 4=some (.arr 0 false 5 [[.t (I k),.t (I 0),.t (I 0),.t (.str (bs [])),.ref i2 0 0 1 1 false]])∧st.heap i1=some (.arr 0 false 5 (a.map fun x=>x.row.map .t))∧
    st.heap i2=some (.arr 0 false 1 [[.t (I ((a.length - 1:Nat):Int))]])∧4<i1∧4<i2∧i1<st.nx∧i2<st.nx∧i1≠i2)∨
   (m=0∧st.tmps 7= .one (.t (I 2))∧∃i1 i2,st.tmps 5= .one (.ref i1 1 0 (a.length+b.length) 5 false)∧st.heap 4=some (.arr 0 false 5 [[.t (I k),.t (I 0),.t (I 0),.t (.str (bs [])),.ref i2 1 0 2 1 false]])∧st.heap i1=some (.arr 1 false 5 ((a++b.map (shN a.length)).map fun x=>x.row.map .t))∧
    st.heap i2=some (.arr 1 false 1 [[.t (I ((a.length - 1:Nat):Int))],[.t (I ((a.length+b.length - 1:Nat):Int))]])∧4<i1∧4<i2∧i1<st.nx∧i2<st.nx∧i1≠i2))) 2 ⟨by simp[kS],by simp,by simp,.inl ⟨rfl,by simp,by simp,by simp[Hp.set]⟩⟩ ?_
 rintro m st ⟨h1,h6,hnx,⟨rfl,h7,h5,e4⟩ | ⟨rfl,h7,i1,i2,h5,e4,e1,e2,l1,l2,n1,n2,n3⟩ | ⟨rfl,h7,i1,i2,h5,e4,e1,e2,l1,l2,n1,n2,n3⟩⟩
 ·obtain⟨o1,o2,o3,o4⟩:=aK e4;have m1:¬ 4=st.nx+4+8:=by omega
  have m2:¬ st.nx+4+8=4:=by omega
  have m3:¬ 4=st.nx+4+10+6:=by omega
  simp -implicitDefEqProofs [h1,h7,h5,kS];refine aD.tree p1 rfl ?_;simp -implicitDefEqProofs [h1,h6,h7,kS,o1,o2,o3,o4,w2,w5,za];refine⟨by omega,1,by omega,rfl,st.nx+4+10+6,by simp[Hp.set],?_,?_,by omega⟩
  all_goals simp only[Hp.set]
  ·rw[if_neg m2,if_neg (by omega),if_pos trivial];rfl
  ·rw[if_neg (by omega),if_pos trivial]
 ·obtain⟨o1,o2,o3,o4⟩:=aK e4;obtain⟨f1,f2,f3,f4⟩:=aK e1;obtain⟨q1,q2,q3,q4⟩:=aK e2;have m1:¬ 4=i1:=by omega
  have m2:¬ i1=4:=by omega
  have m3:¬ 4=i2:=by omega
  have m4:¬ i2=4:=by omega
  have n4:¬ i2=i1:=fun e=>n3 e.symm
  simp -implicitDefEqProofs [h1,h7,h5,kS];refine aD.tree p2 rfl ?_;simp -implicitDefEqProofs [h1,h6,h7,kS,o1,o2,o3,o4,f1,f2,f3,f4,q1,q2,q3,q4,w4,w6,m1,m3,n4];refine⟨by omega,i2,by simp[Hp.set],?_,?_,l1,l2,by omega,by omega,n3⟩
  all_goals simp only[Hp.set]
  ·rw[if_neg m2,if_neg n3,if_pos trivial];rfl
  ·rw[if_neg m4,if_pos trivial]
 ·obtain⟨o1,o2,o3,o4⟩:=aK e4;obtain⟨f1,f2,f3,f4⟩:=aK e1;have m2:¬ i1=4:=by omega
  have m5:¬ i1=st.nx+4+2:=by omega
  have key:∀ H:Hp,H i1=some (.arr 2 false 5 (((a++b.map (shN a.length)).map fun x=>x.row.map .t)++[[.t (I k),.t (I 0),.t (I 0),.t (.str (bs [])),.ref i2 1 0 2 1 false]]))→
    H i2=some (.arr 1 false 1 [[.t (I ((a.length - 1:Nat):Int))],[.t (I ((a.length+b.length - 1:Nat):Int))]])→
    (A.ref i1 2 0 (a.length+b.length+1) 5 false).cE H aT∧(A.ref i1 2 0 (a.length+b.length+1) 5 false).frz H aT=aG (bW k a b):=fun H g1 g2=>by
   have hO:sZ (.one (.ref i1 2 0 (a.length+b.length+1) 5 false)) H (i1+i2+1) (bW k a b):= .inr ⟨by simp[bW],i1,2,_,by simp[bW];omega,g1,by omega,by simp[bW],fun i row x r1 r2=>by
    by_cases hi:i<(a++b.map (shN a.length)).length
    ·rw[List.getElem?_append_left (by simpa using hi),List.getElem?_map]at r1;rw[bW,List.getElem?_append_left hi]at r2;rw[r2]at r1;simp only[Option.map_some,sI9]at r1;exact⟨_,r1.symm,.inl rfl⟩
    ·rw[List.getElem?_append_right (by simpa using hi)]at r1;rw[bW,List.getElem?_append_right (by omega)]at r2
     have:i - (a++b.map (shN a.length)).length=0:=by
      have:=(gS9.1 r2).1;simp only[List.length_singleton]at this;omega
     rw[List.length_map,this]at r1;rw[this]at r2;simp only[List.getElem?_cons_zero,sI9]at r1 r2;rw[←r1,←r2]
     exact⟨_,rfl,.inr (.inr ⟨by simp,i2,1,rfl,g2,by omega,by omega⟩)⟩⟩
   refine⟨hO.frz.1,?_⟩;have:=hO.frz.2;simpa[D.frz]using this
  simp -implicitDefEqProofs [h1,h6,h7,h5,kS,o1,o2,o3,f1,f2,f3,f4,m5,aC];exact⟨by omega,key _ (by simp[Hp.set]) (by simp only[Hp.set];rw[if_neg (Ne.symm n3),if_neg (by omega)];exact e2)⟩
end
theorem mS:∀ (u w:List Nd) (bg:List Nat),cP (u++w) bg=(cP u bg).bind (cP w)
 | [],w,bg=>rfl
 | x::u,w,bg=>by
  rw[List.cons_append,cP,cP];split
  ·split
   ·rfl
   ·exact mS u w _
  ·rfl
theorem aR9(s:Nat)(x:Nd):(shN s x).ok=x.ok:=by
 unfold Nd.ok Nd.right shN;simp only[List.length_map]
theorem yD(bg:List Nat)(hb:∀ i,bg.getD i 0≤i):∀ (r:List Int) (n m:Nat),gK bg r n=some m→m≤n
 | [],n,m,h=>by
  simp only[gK,sI9]at h;omega
 | a::r,n,m,h=>by
  rw[gK]at h;split at h
  ·cases h
  ·have h1:=yD bg hb r _ _ h;have h2:=hb (n - 1);omega
theorem vD(B bg:List Nat)(hb:∀ i,bg.getD i 0≤i):∀ (r:List Int) (n m:Nat),gK bg r n=some m→n≤bg.length→gK (B++bg.map (· +B.length)) (r.map (· +(B.length:Int))) (n+B.length)=some (m+B.length)
 | [],n,m,h,_=>by
  simp only[gK,sI9]at h;rw[h];rfl
 | a::r,n,m,h,hn=>by
  rw[gK]at h;split at h
  ·cases h
  ·rename_i hc;have hc:n≠0∧a=(n:Int) - 1:=by omega
   have e:(B++bg.map (· +B.length)).getD (n+B.length - 1) 0=bg.getD (n - 1) 0+B.length:=by
    have h1:n - 1<bg.length:=by omega
    have h2:n+B.length - 1 - B.length=n - 1:=by omega
    rw[List.getD_eq_getElem?_getD,List.getElem?_append_right (by omega),h2,List.getElem?_map,gE9 h1,List.getD_eq_getElem?_getD,gE9 h1];rfl
   rw[List.map_cons,gK,if_neg (by omega),e];have:=hb (n - 1);exact vD B bg hb r _ m h (by omega)
theorem aBE{bg:List Nat}{n:Nat}(hb:∀ i,bg.getD i 0≤i)(hn:n≤bg.length):∀ i,(bg++[n]).getD i 0≤i:=fun i=>by
 rw[List.getD_eq_getElem?_getD];rcases Nat.lt_or_ge i bg.length with h | h
 ·rw[List.getElem?_append_left h];have:=hb i;rw[List.getD_eq_getElem?_getD]at this;exact this
 ·rw[List.getElem?_append_right h];rcases Nat.lt_or_ge bg.length i with q | q
  ·rw[List.getElem?_eq_none (by simp;omega)];simp
  ·have:i - bg.length=0:=by omega
   rw[this];simp;omega
theorem pQ:∀ (l:List Nd) (bg out:List Nat),(∀i,bg.getD i 0≤i)→cP l bg=some out→out.length=bg.length+l.length∧∀i,out.getD i 0≤i
 | [],bg,out,hb,h=>by simp only[cP,sI9]at h;rw[←h];exact⟨rfl,hb⟩
 | x::r,bg,out,hb,h=>by
  rw[cP]at h;split at h
  ·split at h
   ·cases h
   ·rename_i n hn;have:=yD bg hb _ _ _ hn;obtain⟨h1,h2⟩:=pQ r _ _ (aBE hb this) h;exact⟨by rw[h1,List.length_append,List.length_cons];simp;omega,h2⟩
  ·cases h
theorem tB(B:List Nat):∀ (l:List Nd) (bg out:List Nat),(∀i,bg.getD i 0≤i)→cP l bg=some out→cP (l.map (shN B.length)) (B++bg.map (· +B.length))=some (B++out.map (· +B.length))
 | [],bg,out,hb,h=>by simp only[cP,sI9]at h;rw[h];rfl
 | x::r,bg,out,hb,h=>by
  rw[cP]at h;split at h
  ·rename_i hok;split at h
   ·cases h
   ·rename_i n hn;have hle:=yD bg hb _ _ _ hn;have hs:=vD B bg hb _ _ _ hn (Nat.le_refl _)
    have e:dU (B++bg.map (· +B.length)) (shN B.length x)=some (n+B.length):=by
     rw[dU,List.length_append,List.length_map,Nat.add_comm];have:(shN B.length x).args.reverse=x.args.reverse.map (· +(B.length:Int)):=by simp[shN]
     rw[this];exact hs
    rw[List.map_cons,cP,aR9,if_pos hok,e];have ih:=tB B r _ _ (aBE hb hle) h;rw[List.map_append]at ih;simpa using ih
  ·cases h
theorem aJH{k:Int}(hk:k=4∨k=5∨k=6){a b:List Nd}(ha:bC a=true)(hb:bC b=true)(la:1≤a.length)(lb:1≤b.length)(lab:a.length+b.length≤19):bC (bW k a b)=true:=by
 simp only[bC,Bool.and_eq_true,decide_eq_true_eq]at ha hb;obtain⟨_,ha⟩:=ha;obtain⟨_,hb⟩:=hb;split at ha
 ·cases ha
 ·rename_i bA eA;split at hb
  ·cases hb
  ·rename_i bB eB;have ha:bA.getD (a.length - 1) 0=0:=by have:=of_decide_eq_true ha;omega
   have hb:bB.getD (b.length - 1) 0=0:=by have:=of_decide_eq_true hb;omega
   have g0:∀ i,([]:List Nat).getD i 0≤i:=fun i=>by simp
   obtain⟨nA,_⟩:=pQ a [] bA g0 eA;obtain⟨nB,_⟩:=pQ b [] bB g0 eB;simp only[List.length_nil,Nat.zero_add]at nA nB;have s:=tB bA b [] bB g0 eB;rw[List.map_nil,List.append_nil,nA]at s;obtain⟨z,hz⟩:∃ z:Nd,z=⟨k,0,0,bs [],[((a.length - 1:Nat):Int),((a.length+b.length - 1:Nat):Int)]⟩:=⟨_,rfl⟩
   have zok:z.ok=true:=by
    rw[hz];rcases hk with rfl | rfl | rfl<;>simp[Nd.ok,Nd.right]
   have zn:dU (bA++bB.map (· +a.length)) z=some 0:=by
    rw[dU,hz];simp only[List.reverse_cons,List.reverse_nil,List.nil_append,List.cons_append,List.length_append,List.length_map,nA,nB]
    have e1:(bA++bB.map (· +a.length)).getD (a.length+b.length - 1) 0=a.length:=by
     rw[List.getD_eq_getElem?_getD,List.getElem?_append_right (by omega),nA,List.getElem?_map];have:a.length+b.length - 1 - a.length=b.length - 1:=by omega
     rw[this,gE9 (by omega)];rw[List.getD_eq_getElem?_getD,gE9 (by omega)]at hb;simp only[Option.getD_some]at hb;simp[hb]
    have e2:(bA++bB.map (· +a.length)).getD (a.length - 1) 0=0:=by
     rw[List.getD_eq_getElem?_getD,List.getElem?_append_left (by omega),←List.getD_eq_getElem?_getD];exact ha
    rw[gK,if_neg (by omega),e1,gK,if_neg (by omega),e2,gK]
   have key:cP (bW k a b) []=some (bA++bB.map (· +a.length)++[0]):=by
    rw[bW,mS,mS,eA];simp only[Option.bind_some];rw[s];simp only[Option.bind_some];rw[←hz,cP,if_pos zok,zn];rfl
   have ln:(bW k a b).length=a.length+b.length+1:=by simp[bW];omega
   simp only[bC,key,ln]
   have e:(bA++bB.map (· +a.length)++[0]).getD (a.length+b.length+1 - 1) 0=0:=by
    rw[List.getD_eq_getElem?_getD,List.getElem?_append_right (by simp;omega)];simp[nA,nB]
   rw[e];simp;omega
theorem aGY{l m:List Nd}{i j n k:Nat}{x y:Nd}(hx:l[i]? =some x)(hy:m[j]? =some y)(hk:y.k=x.k)(hlo:y.lo=x.lo)(hhi:y.hi=x.hi)(hs:y.s=x.s)(hl:y.args.length=x.args.length)(hr:x.k≠0→x.k≠1→0<x.args.length)
  (h:∀ q,q<x.args.length→spL m k (aJ y q)=spL l n (aJ x q)):spL m (k+1) j=spL l (n+1) i:=by
 by_cases q0:x.k=0
 ·simp[spL,hx,hy,hk,hlo,hhi,q0]
 ·by_cases q1:x.k=1
  ·simp[spL,hx,hy,hk,hs,q1]
  ·have a:=h 0 (hr q0 q1)
   by_cases two:x.args.length<2
   ·simp[spL,hx,hy,hk,hl,q0,q1,a,two]
   ·have b:=h 1 (by omega);simp[spL,hx,hy,hk,hl,q0,q1,a,b,two]
theorem aEY{l:List Nd}{bg:List Nat}(T:dM l bg)(hok:∀ x∈l,x.ok=true):∀ n k i,i<n→i<k→i<l.length→spL l k i=spL l n i:=by
 intro n
 induction n with
 | zero=>intro k i h;omega
 | succ n ih=>
  intro k i hn hk hil;obtain⟨j,rfl⟩:∃ j,k=j+1:=⟨k - 1,by omega⟩;have hx:l[i]? =some (l[i]'hil):=gE9 _;generalize l[i]'hil=x at hx
  exact aGY hx hx rfl rfl rfl rfl rfl (fun a b=>((fQ (hok x (gM9 hx))).2.2.2 a b).1) fun q hq=>by
   obtain⟨m1,m2,m3⟩:=cH (T.node i x hx) hq;exact ih j _ (by omega) (by omega) (by omega)
theorem aMA{l w:List Nd}{bg:List Nat}(T:dM l bg)(hok:∀ x∈l,x.ok=true):∀ n i,i<l.length→spL (l++w) n i=spL l n i:=by
 intro n
 induction n with
 | zero=>intro i _;rfl
 | succ n ih=>
  intro i hil;have hx:l[i]? =some (l[i]'hil):=gE9 _;have hy:(l++w)[i]? =some (l[i]'hil):=by rw[List.getElem?_append_left hil];exact hx
  generalize l[i]'hil=x at hx hy
  exact aGY hx hy rfl rfl rfl rfl rfl (fun a b=>((fQ (hok x (gM9 hx))).2.2.2 a b).1) fun q hq=>by
   obtain⟨m1,m2,m3⟩:=cH (T.node i x hx) hq;exact ih _ (by omega)
theorem aMB{s:Nat}{x:Nd}{q:Nat}(hq:q<x.args.length){c:Nat}(hc:x.args[q]=(c:Int)):aJ (shN s x) q=s+c∧aJ x q=c:=by
 constructor
 ·simp only[aJ,shN,List.getD_eq_getElem?_getD,List.getElem?_map,gE9 hq,Option.map_some,Option.getD_some,hc];omega
 ·simp only[aJ,List.getD_eq_getElem?_getD,gE9 hq,Option.getD_some,hc];omega
theorem aJI{u b w:List Nd}{bg:List Nat}(T:dM b bg)(hok:∀ x∈b,x.ok=true):∀ n i,i<b.length→spL (u++b.map (shN u.length)++w) n (u.length+i)=spL b n i:=by
 intro n
 induction n with
 | zero=>intro i _;rfl
 | succ n ih=>
  intro i hil;have hx:b[i]? =some (b[i]'hil):=gE9 _
  have hy:(u++b.map (shN u.length)++w)[u.length+i]? =some (shN u.length (b[i]'hil)):=by
   rw[List.append_assoc,List.getElem?_append_right (by omega),Nat.add_sub_cancel_left,List.getElem?_append_left (by simpa using hil),List.getElem?_map,hx];rfl
  generalize b[i]'hil=x at hx hy;refine aGY hx hy rfl rfl rfl rfl (by simp[shN]) (fun a c=>((fQ (hok x (gM9 hx))).2.2.2 a c).1) fun q hq=>?_
  obtain⟨c,c1,c2,_⟩:=(T.node i x hx).arg _ (gL9 hq);obtain⟨e1,e2⟩:=aMB (s:=u.length) hq c1;rw[e1,e2];exact ih c (by omega)
def aPB(k:Int)(A B:List Sp):List Sp:=if k==5 then bK (cO A B)else if k==6 then bK (aY A B)else bK (A++B)
theorem aMC{k:Int}(hk:k=4∨k=5∨k=6){a b:List Nd}{bA bB:List Nat}(TA:dM a bA)(TB:dM b bB)(okA:∀ x∈a,x.ok=true)(okB:∀ x∈b,x.ok=true)(la:1≤a.length)(lb:1≤b.length):
  spL (bW k a b) (bW k a b).length ((bW k a b).length - 1)=aPB k (spL a a.length (a.length - 1)) (spL b b.length (b.length - 1)):=by
 have ln:(bW k a b).length=a.length+b.length+1:=by simp[bW];omega
 obtain⟨z,hz⟩:∃ z:Nd,z=⟨k,0,0,bs [],[((a.length - 1:Nat):Int),((a.length+b.length - 1:Nat):Int)]⟩:=⟨_,rfl⟩
 have hx:(bW k a b)[a.length+b.length]? =some z:=by
  rw[bW,←hz,List.getElem?_append_right (by simp)];simp
 have a0:aJ z 0=a.length - 1:=by rw[hz];simp[aJ]
 have a1:aJ z 1=a.length+(b.length - 1):=by rw[hz];simp[aJ];omega
 have zk:z.k=k:=by rw[hz]
 have zl:z.args.length=2:=by rw[hz];rfl
 have A1:spL (bW k a b) (a.length+b.length) (a.length - 1)=spL a a.length (a.length - 1):=by
  rw[bW,List.append_assoc,aMA TA okA _ _ (by omega)];exact aEY TA okA _ _ _ (by omega) (by omega) (by omega)
 have B1:spL (bW k a b) (a.length+b.length) (a.length+(b.length - 1))=spL b b.length (b.length - 1):=by
  rw[bW,aJI TB okB _ _ (by omega)];exact aEY TB okB _ _ _ (by omega) (by omega) (by omega)
 rw[ln,Nat.add_sub_cancel,aPB,←A1,←B1];rcases hk with rfl | rfl | rfl
 all_goals simp[spL,hx,zk,zl,a0,a1]
theorem aEZ{l:List Nd}{bg:List Nat}(T:dM l bg){L:Nat→Int}(hr:L (l.length - 1)=0)(hL:Lab l gH L (l.length - 1) 0)(hk:∀ p x,l[p]? =some x→L p=0→x.k≠2∧x.k≠3):∀ p,p<l.length→L p=0:=by
 have:∀ d p,p<l.length→l.length - 1 - p≤d→L p=0:=by
  intro d
  induction d with
  | zero=>
   intro p hp hd;have:p=l.length - 1:=by omega
   rw[this];exact hr
  | succ d ih=>
   intro p hp hd
   by_cases e:p=l.length - 1
   ·rw[e];exact hr
   ·have hx:l[l.length - 1]? =some (l[l.length - 1]'(by omega)):=gE9 _;obtain⟨q,y,q1,q2,q3,q4⟩:=T.parent _ _ hx p (by rw[T.root];omega) (by omega);have hq:=(gS9.1 q3).1;have h0:=ih q hq (by omega);obtain⟨k2,k3⟩:=hk q y q3 h0;rw[hL.edge q y (Nat.zero_le _) (by omega) q3 p q4,h0];simp[gH,k2,k3]
 exact fun p hp=>this _ p hp (Nat.le_refl _)
def aMD(x:Nd):Prop:=x.k≠1∧x.k≠2∧x.k≠3∧x.k≠7∧(x.k=0→bad (x.lo,x.hi)=false)
theorem aBF{t:Ty}(h:(eK t).2=0)(hk:t.kind=2)(hl:t.limits.length≠0)(hm:∀ x,t.limits[t.limits.length - 1]? =some x→x.k≠7):∀ x∈t.limits,aMD x:=by
 obtain⟨ht,L,h1,h2,h3⟩:=pM h hl;obtain⟨hlen,bg,T⟩:=bX ht;rw[hk]at h1
 have key:∀ p x,t.limits[p]? =some x→L p=0→x.k≠1∧x.k≠2∧x.k≠3∧(x.k=0→bad (x.lo,x.hi)=false):=fun p x hx ha=>by
  obtain⟨r,hr⟩:=h3 p x hx;obtain⟨s1,s2⟩:=kL hr;refine⟨fun e=>?_,fun e=>?_,fun e=>?_,fun e=>vC (s2 e) (.inl ha)⟩
  all_goals
   rw[e,ha]at s1;simp[dI]at s1
 have z:=aEZ T (h1.trans rfl) h2 fun p x hx ha=>⟨(key p x hx ha).2.1,(key p x hx ha).2.2.1⟩
 have ml:∀ p x,t.limits[p]? =some x→x.k=7→p+1=t.limits.length:=fun p x hx h7=>by
  obtain⟨c1,c2⟩:=gT h;have hp:=(gS9.1 hx).1
  have g3:(cV (jK t (lk (cL t)))).2=0:=by
   simp only[rI]at c2;have e:(t.limits.length==0)=false:=by rw[beq_eq_false_iff_ne];omega
   rw[e]at c2;simp only[Bool.false_eq_true,if_false]at c2;split at c2
   ·cases c2
   ·exact c2
  have he:(jK t (lk (cL t)))[p]? =some (kJ t x (p+1==t.limits.length) (lk (cL t) p)):=by
   simp[jK,List.getElem?_mapIdx,hx]
  have h4:=oE g3 _ (gM9 he);cases hr:(p+1==t.limits.length)
  ·rw[hr]at h4;simp[kJ,h7,bT]at h4
  ·simpa using hr
 intro x hx;obtain⟨p,hp,e⟩:=List.getElem_of_mem hx;have hx':t.limits[p]? =some x:=by rw[gE9 hp,e]
 obtain⟨a,b,c,d⟩:=key p x hx' (z p hp);refine⟨a,b,c,fun h7=>?_,d⟩;have:=ml p x hx' h7;have e2:t.limits.length - 1=p:=by omega
 exact hm x (by rw[e2];exact hx') h7
theorem vE:∀ {l:List Int},(∀e∈l,e=0)→(cV l).2=0
 | [],_=>rfl
 | x::r,h=>by
  have hx:x=0:=h x (by simp);simp only[cV,hx,beq_self_eq_true,if_true];exact vE fun e he=>h e (by simp[he])
theorem aJJ{t:Ty}(_hk:t.kind=2){x:Nd}(h:aMD x)(r:Bool):kJ t x r 0=0:=by
 obtain⟨k1,k2,k3,k7,k0⟩:=h;have s:dI t.kind x.k 0=true:=by simp[dI,k1,k2,k3]
 have s7:(x.k != 7||r)=true:=by simp[k7]
 simp only[kJ,s,s7,if_true,bT,cZ]
 by_cases q:x.k=0
 ·have hb:=(jW _).1 (k0 q)
  have:kQ x (hZ t.kind 0)=true:=by
   simp[kQ,hZ];exact⟨⟨hb.1,hb.2.1⟩,hb.2.2⟩
  simp[q,this]
 ·simp[q,k1]
theorem aOV{t:Ty}(hk:t.kind=2)(ht:bC t.limits=true)(hn:∀ x∈t.limits,aMD x):(rI t).2=0:=by
 by_cases hl:t.limits.length=0
 ·simp[rI,hl]
 ·obtain⟨hlen,bg,T⟩:=bX ht;obtain⟨_,p2,p3⟩:=pE (f:=gH) T t.limits.length (t.limits.length - 1) (eJ t.kind) (List.replicate t.limits.length 0) (by omega) (by omega) (by simp);rw[T.root]at p3;have z:∀ p,p<t.limits.length→lk (cL t) p=0:=aEZ T (by rw[cL,p2,hk];rfl) p3 fun p x hx _=>⟨(hn x (gM9 hx)).2.1,(hn x (gM9 hx)).2.2.1⟩
  have e:(t.limits.length==0)=false:=by simpa using hl
  have e2:(eJ t.kind==0&&t.kind != 2)=false:=by rw[hk];rfl
  simp only[rI,e,e2,Bool.false_eq_true,if_false];refine vE fun v hv=>?_
  obtain⟨p,hp,ev⟩:=List.getElem_of_mem hv;have hp':p<t.limits.length:=by simpa[jK]using hp
  have hx:t.limits[p]? =some (t.limits[p]'hp'):=gE9 _;obtain⟨x,hx',e3⟩:=aEB (by rw[gE9 hp,ev]:(jK t (lk (cL t)))[p]? =some v);rw[e3,z p hp'];exact aJJ hk (hn x (gM9 hx')) _
theorem aCN(k:Int)(nm:ByteArray)(tg:List Tg)(fs:List Fd)(o:Bool)(r:Int)(of:List Ty)(l m:List Nd)(h:decide (0<m.length)=decide (0<l.length))(ht:bC m=bC l):(Ty.mk k nm tg fs o r of m).check=(Ty.mk k nm tg fs o r of l).check:=by
 have e1:(Ty.mk k nm tg fs o r of m).dR=(Ty.mk k nm tg fs o r of l).dR:=by
  have a:(Ty.mk k nm tg fs o r of m).bM=(Ty.mk k nm tg fs o r of l).bM:=by
   have h':decide (0<(Ty.mk k nm tg fs o r of m).limits.length)=decide (0<(Ty.mk k nm tg fs o r of l).limits.length):=h;rw[Ty.bM,Ty.bM,h'];rfl
  have b:(Ty.mk k nm tg fs o r of m).eH=(Ty.mk k nm tg fs o r of l).eH:=by
   have h':bC (Ty.mk k nm tg fs o r of m).limits=bC (Ty.mk k nm tg fs o r of l).limits:=ht;rw[Ty.eH,Ty.eH,h'];rfl
  unfold Ty.dR Ty.dK;rw[a,b];rfl
 rw[Ty.check,Ty.check,Ty.cG,Ty.cG,e1];rfl
theorem aGZ{k:Int}(hk:k=4∨k=5∨k=6){nm:ByteArray}{tg:List Tg}{fs:List Fd}{o:Bool}{r:Int}{of:List Ty}{a:List Nd}{u:Ty}(ha:(eK (.mk 2 nm tg fs o r of a)).2=0)(hb:(eK u).2=0)(ku:u.kind=2)(la:1≤a.length)(lb:1≤u.limits.length)(lab:a.length+u.limits.length≤19)
  (ma:∀ x,a[a.length - 1]? =some x→x.k≠7) (mb:∀ x,u.limits[u.limits.length - 1]? =some x→x.k≠7):(eK (.mk 2 nm tg fs o r of (bW k a u.limits))).2=0:=by
 have ta:=dE _ (gT ha).1;have tb:=dE _ (gT hb).1;have tj:=aJH hk ta tb la lb lab;have nA:=aBF ha rfl (by show a.length≠0;omega) ma;have nB:=aBF hb ku (by omega) mb;have ln:(bW k a u.limits).length=a.length+u.limits.length+1:=by simp[bW];omega
 have hc:(Ty.mk 2 nm tg fs o r of (bW k a u.limits)).check=0:=by
  have la':0<a.length:=by omega
  have lj:0<(bW k a u.limits).length:=by omega
  rw[aCN 2 nm tg fs o r of a (bW k a u.limits) (by rw[decide_eq_true la',decide_eq_true lj]) (tj.trans ta.symm)];exact(gT ha).1
 have ho:(rI (Ty.mk 2 nm tg fs o r of (bW k a u.limits))).2=0:=aOV rfl tj fun x hx=>by
  have hx:x∈bW k a u.limits:=hx;rw[bW]at hx;rcases List.mem_append.1 hx with hx | hx
  ·rcases List.mem_append.1 hx with hx | hx
   ·exact nA x hx
   ·obtain⟨y,hy,rfl⟩:=List.mem_map.1 hx;exact nB y hy
  ·rw[List.mem_singleton.1 hx];refine⟨?_,?_,?_,?_,?_⟩<;>rcases hk with rfl | rfl | rfl<;>simp
 rw[eK,hc];simpa using ho
theorem aOW{l:List Nd}{bg:List Nat}(T:dM l bg)(hok:∀ x∈l,x.ok=true)(P:Nat→Prop)(hn:∀ p x,l[p]? =some x→P p→x.k≠1∧x.k≠2∧x.k≠3)(he:∀ p x,l[p]? =some x→P p→∀c:Nat,(c:Int)∈x.args→P c)(vn:Int)(vs:ByteArray)(sz:Int):
  ∀n i,i<l.length→P i→saR l vn vs sz n i=cN l n i vn:=by
 intro n
 induction n with
 | zero=>intro i _ _;rfl
 | succ n ih=>
  intro i hil hP;have hx:l[i]? =some (l[i]'hil):=gE9 _;generalize l[i]'hil=x at hx;have N:=T.node i x hx;obtain⟨n1,n2,n3⟩:=hn i x hx hP;obtain⟨r1,r2,r3,r4⟩:=fQ (hok x (gM9 hx))
  have sub:∀ q,q<x.args.length→saR l vn vs sz n (aJ x q)=cN l n (aJ x q) vn:=fun q hq=>by
   obtain⟨m1,m2,m3⟩:=cH N hq;exact ih _ (by omega) (he i x hx hP _ m1)
  by_cases q0:x.k=0
  ·simp[saR,cN,hx,q0]
  ·have a:=sub 0 (r4 q0 n1).1
   by_cases two:1<x.args.length
   ·have b:=sub 1 two;simp[saR,cN,hx,a,b,q0,n1,n2,n3]
   ·have n5:x.k≠5:=fun e=>by have:=r3 (.inr (.inl e));omega
    have n6:x.k≠6:=fun e=>by have:=r3 (.inr (.inr e));omega
    simp[saR,cN,hx,a,q0,n1,n2,n3,two,n5,n6]
def lV(n:Int):Vl:= .mk 2 n 0 (bs []) [] []
theorem aME{n:Int}(hn:isNum n=true):(lV n).cS=0:=by
 have h1:(lV n).fU=0:=by
  have b1:(lV n).bM=false:=by
   simp[lV,Vl.bM,Vl.kind,Vl.n,Vl.e,Vl.s,Vl.names,Vl.items,lM,nC,kO,iK,gR,bR]
  have b2:(lV n).cY=true:=by
   simp[lV,Vl.cY,Vl.kind,Vl.n,hn]
  have b3:(lV n).large=false:=by
   simp[lV,Vl.large,Vl.aC6,Vl.kind,Vl.items]
  have b5:(lV n).shaped=true:=rfl
  have b4:(lV n).aFX=0:=by
   rw[Vl.aFX,b5];simp[lV,Vl.aIL,Vl.aDP,Vl.aFW,Vl.sJ,Vl.mE,Vl.kind,Vl.items,Vl.names]
  rw[Vl.fU,Vl.aDR,b1,Vl.aFY,b2,Vl.aDQ,b3];simp[lV,Vl.kind];exact b4
 have h2:((lV n).sz 8 (120,false)).2=false:=rfl;rw[Vl.cS,h2,Vl.qA,Vl.nW,h1];rfl
theorem aHR{t:Ty}(h:(eK t).2=0)(hk:t.kind=2){n:Int}(hn:isNum n=true):dN t (lV n)=0:=by
 have f:oO t (lV n)=true:=by
  rw[oO,hk];rfl
 rw[dN,h,aME hn,f];rfl
theorem jX{t:Ty}(h:(eK t).2=0)(hk:t.kind=2)(hl:t.limits.length≠0){n:Int}(hn:isNum n=true):aCM t (lV n)=inS (bL t) n∧Gap (bL t)∧(∀y∈bL t,bad y=false)∧(bL t).length≤10:=by
 obtain⟨bg,P,Q,T,hlen,hok,hp,he,_,_,hP,_⟩:=oF h hl (.inl hk);have b:=xZ T hok P hp he t.limits.length (t.limits.length - 1) (by omega) (by omega) (hP hk);have e:(t.limits.length==0)=false:=by simpa using hl
 have e1:bL t=spL t.limits t.limits.length (t.limits.length - 1):=by rw[bL,e];rfl
 have fw:=b.few;refine⟨?_,by rw[e1];exact b.gap,by rw[e1];exact b.good,by rw[e1];omega⟩;rw[(aM7 (aHR h hk hn)).1,e,Bool.false_or,e1];rw[aOW T hok P (fun p x hx q=>⟨(hp p x hx q).1,(hp p x hx q).2.1,(hp p x hx q).2.2.1⟩) he _ _ _ _ _ (by omega) (hP hk)];exact((vS T hok P (fun p x hx q=>⟨(hp p x hx q).2.1,(hp p x hx q).2.2.1,fun k0=>((jW _).1 ((hp p x hx q).2.2.2 k0)).1⟩) he _ _ (by omega) (by omega) (hP hk)).2 n).symm
def chk(l:List Sp)(i:Nat):Nat×Int:=
 if h:i<l.length then
  if bad l[i] then(i,3)
  else if 0<i∧l[i].1≤(l.getD (i - 1) (0,0)).2+1 then(i,14)
  else chk l (i+1)
 else(l.length,0)
 termination_by l.length - i
def kM(l:List Sp):Nat×Int:=if 40<l.length then(0,2)else chk l 0
theorem aMF:∀ {l:List Sp},Gap l→∀i (h:i+1<l.length),(l[i]'(by omega)).2+1<(l[i+1]).1
 | [],_,i,h=>by simp at h
 | x::r,g,0,h=>g.2.1 _ (by simp)
 | x::r,g,i+1,h=>aMF g.tail i (by simpa using h)
theorem aMG{l:List Sp}(g:Gap l)(hb:∀ x∈l,bad x=false)(h:l.length≤40):kM l=(l.length,0):=by
 have:∀ d i,l.length - i=d→i≤l.length→chk l i=(l.length,0):=by
  intro d
  induction d with
  | zero=>intro i h1 h2;rw[chk,dif_neg (by omega)]
  | succ d ih=>
   intro i h1 h2;have hi:i<l.length:=by omega
   rw[chk,dif_pos hi,hb _ (gL9 hi),if_neg (by simp),if_neg,ih (i+1) (by omega) (by omega)];rintro⟨h0,h1⟩;obtain⟨j,rfl⟩:∃ j,i=j+1:=⟨i - 1,by omega⟩;have:=aMF g j hi;rw[Nat.add_sub_cancel,List.getD_eq_getElem?_getD,gE9 (by omega)]at h1;simp only[Option.getD_some]at h1;omega
 unfold kM;rw[if_neg (by omega)];exact this _ 0 rfl (by omega)
theorem vF(l:List Sp):PSp prog 33 [.one (.t (spans l))] (.tup [.one (.t (I (kM l).1)),.one (.t (I (kM l).2))]):=by
 refine k33.aI (by simp) rfl rfl ?_
 by_cases hbig:40<l.length
 ·have:kM l=(0,2):=by simp[kM,hbig]
  have hb:(40:Int)<l.length:=by omega
  have hb':¬ (l.length:Int)≤40:=by omega
  simp[c33,b3p,b3q,d0m,spans,aC,this,hb]
 have hb:¬ (40:Int)<l.length:=by omega
 have e0:kM l=chk l 0:=by simp[kM,hbig]
 simp[c33,b3p,b3q,d0n,spans,hb,e0];refine W.cU (fun k st=>∃ i:Nat,k=l.length - i∧i≤l.length∧st.tmps 0= .one (.t (spans l))∧st.tmps 9= .one (.t (spans l))∧st.tmps 10= .one (.t (I l.length))∧st.tmps 11= .one (.t (I i))∧chk l 0=chk l i∧∀j,j<i→bad (l.getD j (0,0))=false) l.length ⟨0,by simp,by simp,by simp[spans],by simp[spans],by simp,by simp,rfl,by simp⟩ ?_;rintro k st ⟨i,hk,hi,h0,h9,h10,h11,hc,hall⟩;rcases Nat.lt_or_ge i l.length with hlt | hge
 ·have e1:chk l i=if bad l[i] then(i,3)else if 0<i∧l[i].1≤(l.getD (i - 1) (0,0)).2+1 then(i,14)else chk l (i+1):=by
   rw[chk,dif_pos hlt]
  rw[hc,e1];simp[b3u,b3r,d0o,d0p,h9,h10,h11,spans,hlt,spr];have hw:IntKind.i64.wrap ((i:Int)+1)=(i:Int)+1:=wrap_i64 (by omega) (by omega)
  have step:bad l[i]=false→(¬(0<i∧l[i].1≤(l.getD (i - 1) (0,0)).2+1))→∃k',k'<k∧∃j:Nat,k'=l.length - j∧j≤l.length∧(i:Int)+1=j∧(if bad l[i] then(i,(3:Int))else if 0<i∧l[i].1≤(l.getD (i - 1) (0,0)).2+1 then(i,14)else chk l (i+1))=chk l j∧∀m,m<j→bad (l.getD m (0,0))=false:=by
   intro q1 q2;refine⟨l.length - (i+1),by omega,i+1,rfl,hlt,by omega,by rw[q1,if_neg q2];rfl,fun m hm=>?_⟩;rcases Nat.lt_or_ge m i with h | h
   ·exact hall m h
   ·have:m=i:=by omega
    subst this;simpa[List.getD_eq_getElem?_getD,hlt]using q1
  refine⟨fun hbad=>?_,fun g1 g2 g3=>?_⟩
  ·have hb1:bad l[i]=true:=by simp[bad];omega
   simp[d0q,hb1,aC]
  ·have hb1:bad l[i]=false:=by simp[bad];omega
   rcases Nat.eq_zero_or_pos i with rfl | hpos
   ·have st1:=step hb1 (by simp);simp at hw st1;simp[b3s,b3t,h0,h9,h10,h11,spans,hlt,hw];exact st1
   ·have hi1:i - 1<l.length:=by omega
    have hp:=hall (i - 1) (by omega);simp[List.getD_eq_getElem?_getD,hi1,bad]at hp;have hsub:IntKind.i64.wrap ((i:Int) - 1)=((i - 1:Nat):Int):=by rw[wrap_i64 (by omega) (by omega)];omega
    have hadd:IntKind.i64.wrap (l[i - 1].2+1)=l[i - 1].2+1:=wrap_i64 (by omega) (by omega);simp[b3s,hpos,h0,spans,hsub,hi1,hadd,spr];refine⟨fun q=>?_,fun q=>?_⟩
    ·simp[d0r,aC,hb1,q]
    ·have st1:=step hb1 (by simp[List.getD_eq_getElem?_getD,hi1];omega);simp[List.getD_eq_getElem?_getD,hi1,hpos]at st1;simp[b3t,h0,h9,h10,h11,spans,hw];exact st1
 ·have:i=l.length:=by omega
  subst this;have e1:chk l l.length=(l.length,0):=by unfold chk;simp
  simp[b3u,b3r,d0s,h0,h10,h11,spans,hc,e1,aC]
theorem aBG(l:List Sp)(hl:l.length≤1000000):PSp prog 34 [.one (.t (spans l))] (.one (.t (spans l))):=by
 refine k34.aI (by simp) rfl rfl ?_;simp[c34,d0t,d0u,spans,aC,Function.comp_def];exact⟨by omega,by rintro r x y _ rfl;simp[spr]⟩
def cJ(op:Int)(a b:List Sp):List Sp:=if op=0 then bK (a++b)else if op=1 then bK (cO a b)else bK (aY a b)
theorem tC(op:Int){a b:List Sp}(ga:Gap a)(gb:Gap b)(ha:a.length≤10)(hb:b.length≤10):(cJ op a b).length≤20:=by
 unfold cJ;split
 ·have:=iW (a++b);rw[List.length_append]at this;omega
 ·split
  ·have:=iW (cO a b);have:=lE a b ga gb;omega
  ·have:=iW (aY a b);have:=(dZ ga.asc gb.valid).2.1;omega
theorem aJK(op:Int){a b:List Sp}(ga:Gap a)(gb:Gap b)(ha:a.length≤10)(hb:b.length≤10)(hoa:∀ x∈a,bad x=false)(hob:∀ x∈b,bad x=false):PSp prog 86 [.one (.t (I op)),.one (.t (spans a)),.one (.t (spans b))] (.one (.t (spans (cJ op a b)))):=by
 by_cases h0:op=0
 ·subst h0;exact aGS a b (by omega) hoa hob
 ·refine k86.aI (by simp) rfl rfl ?_
  by_cases h1:op=1
  ·subst h1;simp[c86,a5y,a5z,a5A,a7J,b4e];refine aD.pure (aM3 a b (by have:=lE a b ga gb;omega) (by omega) (by omega) hoa hob) (by simp) (by simp) ?_;simp[aC,cJ]
  ·simp[c86,a5y,a5z,a5A,a7J,b4f,h0,h1];refine aD.pure (yB a b (by have:=(dZ ga.asc gb.valid).2.1;omega) (by omega) (by omega) ga.asc hoa hob) (by simp) (by simp) ?_;simp[aC,cJ,h0,h1]
theorem P36(op:Int)(hop:0≤op∧op≤2){a b:List Sp}(ga:Gap a)(gb:Gap b)(ha:a.length≤10)(hb:b.length≤10)(hoa:∀ x∈a,bad x=false)(hob:∀ x∈b,bad x=false):PSp prog 36 [.one (.t (I op)),.one (.t (spans a)),.one (.t (spans b))] (.tup [.one (.t (spans (cJ op a b))),.one (.t (I 0))]):=by
 have p1:=vF a;have p2:=vF b;rw[aMG ga hoa (by omega)]at p1;rw[aMG gb hob (by omega)]at p2;have p3:PSp prog 79 [.one (.t (.rows 1 [[I 0],[I 0]]))] (.one (.t (I 0))):=P79 [0,0] (by simp[short]);refine k36.aI (by simp) rfl rfl ?_;simp[c36,d0d,d0e];refine aD.pure (P85 op 0 2) (by simp) (by simp) ?_;simp[hop.1,hop.2,d0f];refine aD.pure p1 (by simp) (by simp) ?_;simp[d0g];refine aD.pure p2 (by simp) (by simp) ?_;simp[d0h];refine aD.pure p3 (by simp) (by simp) ?_;simp[d0i,d0j];refine aD.pure (aJK op ga gb ha hb hoa hob) (by simp) (by simp) ?_;have hl:=tC op ga gb ha hb;have hbI:¬ (40:Int)<(cJ op a b).length:=by omega
 simp[d0k,d0l,spans,hbI,aC]
theorem aCO{op:Int}(ho:op=0∨op=1∨op=2){a b:List Sp}(ga:Gap a)(gb:Gap b)(hoa:∀ x∈a,bad x=false)(hob:∀ x∈b,bad x=false)(n:Int):inS (cJ op a b) n=eD op (inS a n) (inS b n):=by
 rcases ho with rfl | rfl | rfl
 ·simp only[cJ,if_true]
  rw[(eV (fun x hx=>by
   rcases List.mem_append.1 hx with hx | hx
   ·exact ga.valid x hx
   ·exact gb.valid x hx)).2 n,fP]
  simp[eD]
 ·simp only[cJ,if_true]
  rw[if_neg (by omega),(eV (fun x hx=>by
   have:=aES hoa hob x hx
   simp[bad]at this;omega)).2 n,sW]
  simp[eD]
 ·simp only[cJ];rw[if_neg (by omega),if_neg (by omega),(eV (dZ ga.asc gb.valid).1.valid).2 n,mF ga.valid gb.valid];simp[eD]
theorem aJL{nm:ByteArray}{tg:List Tg}{fs:List Fd}{o:Bool}{r:Int}{of:List Ty}{a:List Nd}{u:Ty}(ha:(eK (.mk 2 nm tg fs o r of a)).2=0)(hb:(eK u).2=0)(ku:u.kind=2)(la:1≤a.length)(lb:1≤u.limits.length)(la9:a.length≤9)(lb9:u.limits.length≤9)
  (ma:∀ x,a[a.length - 1]? =some x→x.k≠7) (mb:∀ x,u.limits[u.limits.length - 1]? =some x→x.k≠7) {n:Int} (hn:isNum n=true) {op:Int} (ho:op=0∨op=1∨op=2):
  (eK (.mk 2 nm tg fs o r of (bW (4+op) a u.limits))).2=0∧bL (.mk 2 nm tg fs o r of (bW (4+op) a u.limits))=cJ op (bL (.mk 2 nm tg fs o r of a)) (bL u)∧
  aCM (.mk 2 nm tg fs o r of (bW (4+op) a u.limits)) (lV n)=inS (cJ op (bL (.mk 2 nm tg fs o r of a)) (bL u)) n∧
  inS (cJ op (bL (.mk 2 nm tg fs o r of a)) (bL u)) n=eD op (inS (bL (.mk 2 nm tg fs o r of a)) n) (inS (bL u) n):=by
 have hk:(4:Int)+op=4∨(4:Int)+op=5∨(4:Int)+op=6:=by omega
 have hj:=aGZ hk ha hb ku la lb (by omega) ma mb;have lj:(bW (4+op) a u.limits).length≠0:=by simp[bW]
 have sa:=jX ha rfl (by show a.length≠0;omega) hn;have sb:=jX hb ku (by omega) hn;have sj:=jX hj rfl lj hn
 have e:bL (.mk 2 nm tg fs o r of (bW (4+op) a u.limits))=cJ op (bL (.mk 2 nm tg fs o r of a)) (bL u):=by
  obtain⟨bA,_,_,TA,_,okA,_⟩:=oF ha (by show a.length≠0;omega) (.inl rfl);obtain⟨bB,_,_,TB,_,okB,_⟩:=oF hb (by omega) (.inl ku);have s:=aMC hk TA TB okA okB la lb
  have e1:bL (.mk 2 nm tg fs o r of a)=spL a a.length (a.length - 1):=by
   have:(a.length==0)=false:=beq_false_of_ne (by omega);show(if a.length==0 then _ else _)=_;rw[this];rfl
  have e2:bL u=spL u.limits u.limits.length (u.limits.length - 1):=by
   have:(u.limits.length==0)=false:=beq_false_of_ne (by omega);rw[bL,this];rfl
  have e3:bL (.mk 2 nm tg fs o r of (bW (4+op) a u.limits))=spL (bW (4+op) a u.limits) (bW (4+op) a u.limits).length ((bW (4+op) a u.limits).length - 1):=by
   have:((bW (4+op) a u.limits).length==0)=false:=by simpa using lj
   show(if(bW (4+op) a u.limits).length==0 then _ else _)=_;rw[this];rfl
  rw[e1,e2,e3];refine s.trans ?_;rcases ho with rfl | rfl | rfl<;>rfl
 refine⟨hj,e,?_,aCO ho sa.2.1 sb.2.1 sa.2.2.1 sb.2.2.1 n⟩;rw[sj.1,e]
section
attribute [-simp] Go.Ab.aA Go.Ab.gval
attribute [local simp] bE aM aQ aG aV aO aX tyC fdC vlC ndC aL D.cR D.pt
def mH(l:List Nd):Bool:=(iX l).2
attribute [local simp] c39 in
theorem P39(l:List Nd)(hl:l.length≤40):PSp prog 39 [.one (.t (aG l))] (.one (.t (.bool (mH l)))):=by
 refine k39.aI (by simp) rfl rfl ?_
 by_cases z:l.length=0
 ·have zl:l=[]:=List.length_eq_zero_iff.1 z;simp -implicitDefEqProofs [zl,mH,iX,aC]
 ·obtain⟨m,hm⟩:∃ m:Nat,l.length=m+1:=⟨l.length - 1,by omega⟩;obtain⟨x,hx⟩:∃ x,l[m]? =some x:=⟨_,gE9 (by omega)⟩;have zI:0<(l.length:Int):=by omega
  have zN:0<l.length:=by omega
  have zl:¬ l=[]:=fun e=>z (by rw[e];rfl)
  have hw:IntKind.i64.wrap ((l.length:Int) - 1)=(m:Int):=by rw[wrap_i64 (by omega) (by omega)];omega
  have hmI:(m:Int)<(l.length:Int):=by omega
  have hmN:m<l.length:=by omega
  have e:mH l=(x.k==7):=by
   have:(l.length==0)=false:=by simpa using z
   rw[mH,iX,this,hm,Nat.add_sub_cancel];simp only[hx];rfl
  obtain⟨b,eb⟩:∃ b,(x.k==7)=b:=⟨_,rfl⟩;rw[e,eb];simp -implicitDefEqProofs [zN,hw,hmI,hmN,aE hx,Nd.row,eb,aC,-List.getElem_map]
end
section
attribute [local simp] bE aM aQ aG aV aO aX tyC fdC vlC ndC aL D.cR D.pt
theorem aF0{l:List Nd}{bg:List Nat}{P Q:Nat→Prop}(H:aM6 l bg P Q):∀ n i,i<n→i<l.length→P i→(spL l n i).length≤1000∧PSp prog 90 [.one (.t (aG l)),.one (.t (I ((i:Nat):Int)))] (.one (.t (spans (spL l n i)))):=fun n i h1 h2 h3=>
 ⟨by have:=(aEV H n i h1 h2 h3).2.2;omega,Q90 ⟨H.tree,H.few,H.ok,fun n i a b c=>by
  obtain⟨x,y,z⟩:=aEV H n i a b c
  exact⟨x,y,by omega⟩,fun p x hx hp k1=>((H.node p x hx hp).2.2.2 k1).1,H.edge⟩ n i h1 h2 h3⟩
theorem aF1(t:Ty)(hn:t.narrow=true)(v:Vl)(hv:v.fine)(hvs:v.s.size≤1000000):
  PSp prog 22 [.agg (tyC t),.agg (vlC v)] (.tup [.one (.t (.bool (dN t v==0&&aCM t v))),.one (.t (I (dN t v)))])∧
  PSp prog 24 [.agg (tyC t),.agg (vlC v)] (.tup [.one (.t (.bool (dN t v==0&&aGW t v))),.one (.t (I (dN t v)))]):=by
 have c71:=P71 t hn v hv hvs fun h=>(aBB h).1
 refine⟨P22 t v c71 fun h hl=>?_,P24 t v c71 fun h=>?_⟩
 ·obtain⟨h1,_,_⟩:=val_zero h;obtain⟨bg,P,Q,H⟩:=uD h1 hl;exact⟨H.few,P72 H.tree H.ok v hvs P Q H.from_ (aF0 H) _ _ (by omega) (by omega) H.last⟩
 ·obtain⟨h1,_,_⟩:=val_zero h;have ht:=dE t (gT h1).1;obtain⟨hlen,bg,T⟩:=bX ht;refine⟨⟨bg,T⟩,nK ht,hlen,fun hl=>?_⟩;obtain⟨bg,P,Q,H⟩:=uD h1 hl;have hr:=aER H.tree H.ok hl;exact P72 H.tree H.ok v hvs P Q H.from_ (aF0 H) _ _ hr hr (aHQ H hl)
end
section
attribute [-simp] Go.Ab.aA Go.Ab.gval
attribute [local simp] bE aM aQ aG aV aO aX tyC fdC vlC ndC aL D.cR D.pt
def exT:Ty:= .mk 2 (bs []) [] [] false 0 [] [⟨0,1,5,bs [],[]⟩,⟨0,8,8,bs [],[]⟩,⟨7,0,0,bs [],[0,1]⟩]
def exV:Vl:= .mk 2 8 0 (bs []) [] []
attribute [local simp] b3V b3W c56 in
theorem P56:PSp prog 56 [] (.agg (tyC exT)):=by
 refine k56.aI (by simp) (by simp[]) rfl ?_;simp -implicitDefEqProofs [exT,tyC,aC];and_intros<;>rfl
attribute [local simp] c40 in
theorem P40(n:Int):PSp prog 40 [.one (.t (I n))] (.agg (vlC (.mk 2 n 0 (bs []) [] []))):=by
 refine k40.aI (by simp) (by simp[D.closed,A.closed]) rfl ?_;simp -implicitDefEqProofs [vlC,aC];and_intros<;>rfl
theorem aMH:exT.narrow=true∧exV.fine∧dN exT exV=0∧aCM exT exV=true∧aGW exT exV=false∧uE exT=((1,5),true,0):=by
 refine⟨by kernel_rfl,Vl.tT _ (by kernel_rfl),by kernel_rfl,by kernel_rfl,by kernel_rfl,by kernel_rfl⟩
theorem aOX:(spL exT.limits exT.limits.length (fN exT.limits)).length≤1000∧PSp prog 90 [.one (.t (aG exT.limits)),.one (.t (I ((fN exT.limits:Nat):Int)))] (.one (.t (spans (spL exT.limits exT.limits.length (fN exT.limits))))):=by
 have ht:bC exT.limits=true:=by kernel_rfl
 obtain⟨hlen,bg,T⟩:=bX ht;have e0:fN exT.limits=0:=by kernel_rfl
 have e1:∀ n,0<n→spL exT.limits n 0=[(1,5)]:=fun n hn=>by
  obtain⟨m,rfl⟩:∃ m,n=m+1:=⟨n - 1,by omega⟩;rfl
 have e2:∀ p x,exT.limits[p]? =some x→p=0→x=⟨0,1,5,bs [],[]⟩:=fun p x hx hp=>by
  subst hp;exact(Option.some.inj hx).symm
 have H:aUA exT.limits bg (· =0):=⟨T,hlen,nK ht,fun n i h1 _ h3=>by
  subst h3;rw[e1 n h1]
  exact⟨⟨by decide,by simp,trivial⟩,by decide,by decide⟩,fun p x hx hp k1=>(by rw[e2 p x hx hp]at k1;cases k1),fun p x hx hp c hc=>(by rw[e2 p x hx hp]at hc;cases hc)⟩
 rw[e0];exact⟨by rw[e1 _ (by decide)];decide,Q90 H _ 0 (by decide) (by decide) rfl⟩
attribute [local simp] c12 in
theorem aRA:PSp prog 12 [] (.one (.t (.bool true))):=by
 obtain⟨hn,hv,e1,e2,e3,e4⟩:=aMH;obtain⟨p22,p24⟩:=aF1 exT hn exV hv (by decide);have p43:=P43 exT hn (fun _ _ h=>absurd h (by decide)) fun _ _ _=>aOX
 rw[e1,e2]at p22;rw[e1,e3]at p24;rw[e4]at p43;have p56:=P56;have p40:PSp prog 40 [.one (.t (I 8))] (.agg (vlC exV)):=P40 8;generalize exT=t at*;generalize exV=v at*;refine k12.aI (by simp) (by simp[]) rfl ?_;simp -implicitDefEqProofs;refine aD.tree p56 rfl ?_;simp -implicitDefEqProofs;refine aD.tree p40 rfl ?_;simp -implicitDefEqProofs;refine aD.tree p22 rfl ?_;simp -implicitDefEqProofs;refine aD.tree p56 rfl ?_;simp -implicitDefEqProofs;refine aD.tree p40 rfl ?_;simp -implicitDefEqProofs;refine aD.tree p24 rfl ?_;simp -implicitDefEqProofs;refine aD.tree p56 rfl ?_;simp -implicitDefEqProofs;refine aD.tree p43 rfl ?_;simp -implicitDefEqProofs [cell,aC]
end
section
attribute [-simp] Go.Ab.aA Go.Ab.gval
attribute [local simp] bE aM aQ aG aV aO aX tyC fdC vlC ndC aL D.cR D.pt
theorem aRB(k:Int)(nm:ByteArray)(tg:List Tg)(fs:List Fd)(o:Bool)(r:Int)(of:List Ty)(l:List Nd):tyC (.mk k nm tg fs o r of l)=[.t (I k),.t (.str nm),.t (.rows 3 (tg.map Tg.row)),.t (.rows 13 (fs.map Fd.row)),.t (.bool o),.t (I r),.t (.rows 8 (of.map Ty.row)),.t (.rows 5 (l.map Nd.row))]:=rfl
attribute [local simp] b3n b9U in
theorem aUC(Q:Exit→St→Prop)(ks:List KF)(j:Int)(p q c:Bool)(hs:c=eD j p q)(hj:j=0∨j=1∨j=2)(st:St)(h15:st.tmps 15= .one (.t (I j)))(h11:st.tmps 11= .one (.t (.bool p)))(h13:st.tmps 13= .one (.t (.bool q)))(h17:st.tmps 17= .one (.t (.bool c)))
  (rest:∀ tm',dD [2,3,4,7,9,11,13,15] st.tmps tm'→cX prog 229 Q ks .normal ⟨tm',st.heap,st.nx+31⟩):aZ prog 229 Q b3n ks st:=by
 subst hs;rcases hj with rfl | rfl | rfl<;>cases p<;>cases q
 all_goals simp[eD]at h17
 all_goals simp -implicitDefEqProofs [h15,h11,h13,h17]
 all_goals exact rest _ (by simp)
attribute [local simp] b3o b92 b91 b9S b90 b9Z b9Y b9X b9W b9V b9T in
theorem aUD(nm:ByteArray)(tg:List Tg)(fs:List Fd)(o:Bool)(r:Int)(of:List Ty)(a:List Nd)(u:Ty)(n:Int)(A B:List Sp)(C:Int→List Sp)(p q:Bool)
  (hA:A.length≤1000) (hB:B.length≤1000) (hC:∀ op,(C op).length≤1000)
  (F:∀ op:Int,0≤op→op≤2→PSp prog 42 [.one (.t (I (4+op))),.one (.t (kS a u.limits))] (.one (.t (aG (bW (4+op) a u.limits))))∧
   PSp prog 15 [.agg (tyC (.mk 2 nm tg fs o r of (bW (4+op) a u.limits)))] (.agg (tyC (.mk 2 nm tg fs o r of (bW (4+op) a u.limits))))∧
   PSp prog 22 [.agg (tyC (.mk 2 nm tg fs o r of (bW (4+op) a u.limits))),.agg (vlC (.mk 2 n 0 (bs []) [] []))] (.tup [.one (.t (.bool (inS (C op) n))),.one (.t (I 0))])∧
   PSp prog 36 [.one (.t (I op)),.one (.t (spans A)),.one (.t (spans B))] (.tup [.one (.t (spans (C op))),.one (.t (I 0))])∧
   PSp prog 28 [.agg (tyC (.mk 2 nm tg fs o r of (bW (4+op) a u.limits)))] (.tup [.one (.t (spans (C op))),.one (.t (I 0))])∧inS (C op) n=eD op p q)
  (st:St) (h2:st.tmps 2= .one (.t (I n))) (h3:st.tmps 3= .one (.ptr ⟨0,0,8,0,0⟩)) (h4:st.tmps 4= .one (.ptr ⟨1,0,8,0,0⟩)) (e3:st.heap 0=some (.arr 0 false 8 [tyC (.mk 2 nm tg fs o r of a)])) (e4:st.heap 1=some (.arr 0 false 8 [tyC u])) (hnx:1<st.nx)
  (h7:st.tmps 7= .one (.t (spans A))) (h9:st.tmps 9= .one (.t (spans B))) (h11:st.tmps 11= .one (.t (.bool p))) (h13:st.tmps 13= .one (.t (.bool q))):aZ prog 229 (aC [.tmp 6] (.one (.t (.bool true)))) b3o [] st:=by
 have aXZ:=aBG A (by omega);have aY0:=aBG B (by omega);have p40:=P40 n;simp[spans]at h7 h9;simp -implicitDefEqProofs
 refine W.cU (fun m s=>∃ i:Nat,m=3 - i∧i≤3∧s.tmps 2= .one (.t (I n))∧s.tmps 3= .one (.ptr ⟨0,0,8,0,0⟩)∧s.tmps 4= .one (.ptr ⟨1,0,8,0,0⟩)∧s.heap 0=some (.arr 0 false 8 [tyC (.mk 2 nm tg fs o r of a)])∧s.heap 1=some (.arr 0 false 8 [tyC u])∧1<s.nx∧
  s.tmps 7= .one (.t (spans A))∧s.tmps 9= .one (.t (spans B))∧s.tmps 11= .one (.t (.bool p))∧s.tmps 13= .one (.t (.bool q))∧s.tmps 15= .one (.t (I i))) 3 ⟨0,rfl,by omega,by simp[h2],by simp[h3],by simp[h4],by simpa using e3,by simpa using e4,by simp;omega,by simp[h7,spans],by simp[h9,spans],by simp[h11],by simp[h13],by simp⟩ ?_
 rintro m s ⟨i,hm,hi,g2,g3,g4,d3,d4,aTX,g7,g9,g11,g13,g15⟩;simp[spans]at g7 g9;obtain⟨o1,o2,o3,o4⟩:=aK d3;obtain⟨q1,q2,q3,q4⟩:=aK d4
 by_cases h:i<3
 ·obtain⟨p42,p15,p22,p36,p28,hs⟩:=F i (by omega) (by omega);have hC':=hC i;generalize C i=L at*;have p20:=P20 L L (by omega);have p41:=InP L n (by omega);have w1:IntKind.i64.wrap (4+(i:Int))=4+i:=wrap_i64 (by omega) (by omega);have hI:(i:Int)<3:=by omega
  simp only[aRB]at o2 p15 p22 p28;simp -implicitDefEqProofs [g3,g4,g15,hI,o1,o2,o3,q1,q2,q3,w1];refine aD.pure p42 (by simp) (by simp[kS]) ?_;simp -implicitDefEqProofs [aA6];refine aD.tree p15 rfl ?_;simp -implicitDefEqProofs [g2];refine aD.tree p40 rfl ?_;simp -implicitDefEqProofs;refine aD.tree p22 rfl ?_;simp -implicitDefEqProofs [g7];refine aD.tree aXZ rfl ?_;simp -implicitDefEqProofs [g9];refine aD.tree aY0 rfl ?_;simp -implicitDefEqProofs [g15];refine aD.tree p36 rfl ?_;simp -implicitDefEqProofs;refine aD.tree p15 rfl ?_;simp -implicitDefEqProofs;refine aD.tree p28 rfl ?_;simp -implicitDefEqProofs;refine aD.tree p20 rfl ?_;simp -implicitDefEqProofs [g2];refine aD.tree p41 rfl ?_;have w2:IntKind.i64.wrap ((i:Int)+1)=(i:Int)+1:=wrap_i64 (by omega) (by omega);simp -implicitDefEqProofs;refine aUC _ _ i p q _ hs (by omega) _ (by simp[g15]) (by simp[g11]) (by simp[g13]) (by simp) fun tm' hk=>?_
  simp at hk;simp -implicitDefEqProofs [hk,g2,g3,g4,g7,g9,g11,g13,g15,w2];refine⟨3 - (i+1),by omega,i+1,rfl,by omega,?_,?_,rfl,rfl,by omega⟩
  ·simp only[Hp.set];rw[if_neg (by omega)];exact d3
  ·simp only[Hp.set];rw[if_neg (by omega)];exact d4
 ·have hI:¬ (i:Int)<3:=by omega
  simp -implicitDefEqProofs [g15,hI,aC]
end
section
attribute [-simp] Go.Ab.aA Go.Ab.gval
attribute [local simp] bE aM aQ aG aV aO aX tyC fdC vlC ndC aL D.cR D.pt
theorem aMI(n:Int):(lV n).fine:=by simp[lV,Vl.fine,short,mC];decide
theorem yE{t:Ty}(hn:t.narrow=true)(h:(eK t).2=0)(hk:t.kind=2)(hl:t.limits.length≠0){n:Int}(hi:isNum n=true):
  PSp prog 28 [.agg (tyC t)] (.tup [.one (.t (spans (bL t))),.one (.t (I 0))])∧PSp prog 22 [.agg (tyC t),.agg (vlC (lV n))] (.tup [.one (.t (.bool (inS (bL t) n))),.one (.t (I 0))]):=by
 have hs:=jX h hk hl hi;have hset:rN t.kind=true:=by rw[hk];rfl
 have p28:=P28 t hn (bL t) fun h _=>(perms t h (.inl hk)).2.2.1
 have e0:rO t=0:=by
  rw[rO,h,hset];rfl
 rw[e0]at p28;refine⟨p28,?_⟩;have p:=(aF1 t hn (lV n) (aMI n) (by simp[lV,Vl.s];decide)).1;rw[aHR h hk hi,hs.1]at p;exact p
theorem yF{l:List Nd}(h:bC l=true)(hn:∀ x∈l,x.s.size≤500∧x.args.length≤5):∀ x∈l,x.args.length≤40∧∀e∈x.args,0≤e∧e≤1000:=fun x hx=>by
 obtain⟨hlen,bg,T⟩:=bX h;obtain⟨i,hi,rfl⟩:=List.getElem_of_mem hx;obtain⟨_,_,q3,_⟩:=T.node i _ (gE9 hi);have:=(hn _ hx).2;refine⟨by omega,fun e he=>?_⟩;obtain⟨c,d1,d2,_⟩:=q3 e he;omega
theorem yG{l:List Nd}(h:mH l=false):∀ x,l[l.length - 1]? =some x→x.k≠7:=fun x hx e=>by
 have:(l.length==0)=false:=beq_false_of_ne fun q=>by
  rw[List.length_eq_zero_iff.1 q]at hx;simp at hx
 rw[mH,iX,this,hx]at h;simp[e]at h
theorem aJM{t:Ty}(k:t.kind=2):Ty.mk 2 t.name t.tags t.fields t.opn t.root t.of t.limits=t:=by
 cases t;simp only[Ty.kind]at k;subst k;rfl
theorem yY{t u:Ty}(hn:t.narrow=true)(hu:u.narrow=true)(la:t.limits.length≤9)(lb:u.limits.length≤9)(k:Int):(Ty.mk 2 t.name t.tags t.fields t.opn t.root t.of (bW k t.limits u.limits)).narrow=true:=by
 obtain⟨n1,n2,n3,n4,_,n6,n7,n8⟩:=(Ty.aU t).1 hn;obtain⟨_,_,_,_,_,m6,_,_⟩:=(Ty.aU u).1 hu;refine(Ty.aU _).2 ⟨n1,n2,n3,n4,?_,fun x hx=>?_,n7,n8⟩
 ·show(bW k t.limits u.limits).length≤40;simp[bW];omega
 ·have hx:x∈bW k t.limits u.limits:=hx;rw[bW]at hx;rcases List.mem_append.1 hx with hx | hx
  ·rcases List.mem_append.1 hx with hx | hx
   ·exact n6 x hx
   ·obtain⟨y,hy,rfl⟩:=List.mem_map.1 hx;have:=m6 y hy;exact⟨this.1,by simpa[shN]using this.2⟩
  ·rw[List.mem_singleton.1 hx];exact⟨by show(bs []).size≤500;decide,by simp⟩
theorem aJN{t u:Ty}(hn:t.narrow=true)(hu:u.narrow=true)(kt:t.kind=2)(ku:u.kind=2)(ct:(eK t).2=0)(cu:(eK u).2=0)(la:1≤t.limits.length)(lb:1≤u.limits.length)(la9:t.limits.length≤9)(lb9:u.limits.length≤9)
  (mt:∀ x,t.limits[t.limits.length - 1]? =some x→x.k≠7) (mu:∀ x,u.limits[u.limits.length - 1]? =some x→x.k≠7) {n:Int} (hi:isNum n=true) (op:Int) (h0:0≤op) (h2:op≤2):
  PSp prog 42 [.one (.t (I (4+op))),.one (.t (kS t.limits u.limits))] (.one (.t (aG (bW (4+op) t.limits u.limits))))∧
   PSp prog 15 [.agg (tyC (.mk 2 t.name t.tags t.fields t.opn t.root t.of (bW (4+op) t.limits u.limits)))] (.agg (tyC (.mk 2 t.name t.tags t.fields t.opn t.root t.of (bW (4+op) t.limits u.limits))))∧
   PSp prog 22 [.agg (tyC (.mk 2 t.name t.tags t.fields t.opn t.root t.of (bW (4+op) t.limits u.limits))),.agg (vlC (.mk 2 n 0 (bs []) [] []))] (.tup [.one (.t (.bool (inS (cJ op (bL t) (bL u)) n))),.one (.t (I 0))])∧
   PSp prog 36 [.one (.t (I op)),.one (.t (spans (bL t))),.one (.t (spans (bL u)))] (.tup [.one (.t (spans (cJ op (bL t) (bL u)))),.one (.t (I 0))])∧
   PSp prog 28 [.agg (tyC (.mk 2 t.name t.tags t.fields t.opn t.root t.of (bW (4+op) t.limits u.limits)))] (.tup [.one (.t (spans (cJ op (bL t) (bL u)))),.one (.t (I 0))])∧inS (cJ op (bL t) (bL u)) n=eD op (inS (bL t) n) (inS (bL u) n):=by
 have ho:op=0∨op=1∨op=2:=by omega
 have e:=aJM kt;have hj:=yY hn hu la9 lb9 (4+op);have ct':(eK (.mk 2 t.name t.tags t.fields t.opn t.root t.of t.limits)).2=0:=by rw[e];exact ct
 obtain⟨f1,f2,f3,f4⟩:=aJL ct' cu ku la lb la9 lb9 mt mu hi ho;rw[e]at f2 f3 f4;have sa:=jX ct kt (by omega) hi;have sb:=jX cu ku (by omega) hi;have lj:(bW (4+op) t.limits u.limits).length≠0:=by simp[bW]
 obtain⟨w1,w2⟩:=yE hj f1 rfl lj hi;rw[f2]at w1 w2
 exact⟨P42 (4+op) t.limits u.limits la lb (by omega) (by omega) (yF (dE t (gT ct).1) ((Ty.aU t).1 hn).2.2.2.2.2.1) (yF (dE u (gT cu).1) ((Ty.aU u).1 hu).2.2.2.2.2.1),P15 _ hj,w2,
  P36 op ⟨h0,h2⟩ sa.2.1 sb.2.1 sa.2.2.2 sb.2.2.2 sa.2.2.1 sb.2.2.1,w1,f4⟩
attribute [local simp] b9P b9Q b9R b93 b94 b95 b96 b97 b98 b99 c7 in
theorem P7(t u:Ty)(n:Int)(ft:t.fine)(fu:u.fine):PSp prog 7 [.agg (tyC t),.agg (tyC u),.one (.t (I n))] (.one (.t (.bool true))):=by
 have p13:=P13 t ft;have aY1:=P13 u fu;have rest:t.tiny=true→t.narrow=true:=fun h=>by rw[Ty.tiny,Bool.and_eq_true]at h;exact h.2
 have restu:u.tiny=true→u.narrow=true:=fun h=>by rw[Ty.tiny,Bool.and_eq_true]at h;exact h.2
 have p37:=dG (t.limits.length:Int) 1 9;have aUE:=dG (u.limits.length:Int) 1 9;have aUF:=dG n (-1152921504606846976) 1152921504606846976;obtain⟨x,ex⟩:∃ x,(decide (1≤(t.limits.length:Int))&&decide ((t.limits.length:Int)≤9))=x:=⟨_,rfl⟩;obtain⟨y,ey⟩:∃ y,(decide (1≤(u.limits.length:Int))&&decide ((u.limits.length:Int)≤9))=y:=⟨_,rfl⟩;obtain⟨z,ez⟩:∃ z,(decide (-1152921504606846976≤n)&&decide (n≤1152921504606846976))=z:=⟨_,rfl⟩;rw[ex]at p37;rw[ey]at aUE;rw[ez]at aUF;generalize t.tiny=b at*;generalize u.tiny=d at*;refine k7.aI (by simp) (by simp[D.closed,A.closed]) rfl ?_;simp -implicitDefEqProofs;refine aD.tree aRA rfl ?_;simp -implicitDefEqProofs;refine aD.tree p13 rfl ?_;cases b
 ·simp -implicitDefEqProofs [aC]
 simp -implicitDefEqProofs;refine aD.tree aY1 rfl ?_;cases d
 ·simp -implicitDefEqProofs [aC]
 have hn:=rest rfl;have hnu:=restu rfl;rcases eqCases t.kind 2 with kt | kt
 rotate_left
 ·simp -implicitDefEqProofs [kt,aC]
 rcases eqCases u.kind 2 with ku | ku
 rotate_left
 ·simp -implicitDefEqProofs [kt,ku,aC]
 simp -implicitDefEqProofs [kt,ku];refine aD.tree p37 rfl ?_;cases x
 ·simp -implicitDefEqProofs [aC]
 simp -implicitDefEqProofs;refine aD.tree aUE rfl ?_;cases y
 ·simp -implicitDefEqProofs [aC]
 simp -implicitDefEqProofs;refine aD.tree aUF rfl ?_;cases z
 ·simp -implicitDefEqProofs [aC]
 simp -implicitDefEqProofs;have p29:=P29 t hn;have aRC:=P29 u hnu;rw[←aLE]at p29 aRC;have p39:=P39 t.limits ((Ty.aU t).1 hn).2.2.2.2.1;have aY2:=P39 u.limits ((Ty.aU u).1 hnu).2.2.2.2.1;have nmt:=yG (l:=t.limits);have nmu:=yG (l:=u.limits);generalize mH t.limits=mt at*;generalize mH u.limits=mu at*;have p15:=P15 t hn;have aRD:=P15 u hnu;have p40:=P40 n;simp only[tyC,bE,aM,aQ,aG,kt,ku]at p29 aRC p15 aRD;refine aD.tree p29 rfl ?_;rcases eqCases (eK t).2 0 with ct | ct
 rotate_left
 ·simp -implicitDefEqProofs [ct,aC]
 simp -implicitDefEqProofs [ct];refine aD.tree aRC rfl ?_;rcases eqCases (eK u).2 0 with cu | cu
 rotate_left
 ·simp -implicitDefEqProofs [cu,aC]
 simp -implicitDefEqProofs [cu];refine aD.tree p39 rfl ?_;cases mt
 rotate_left
 ·simp -implicitDefEqProofs [aC]
 simp -implicitDefEqProofs;refine aD.tree aY2 rfl ?_;cases mu
 rotate_left
 ·simp -implicitDefEqProofs [aC]
 simp only[Bool.and_eq_true,decide_eq_true_eq]at ex ey;have hi:isNum n=true:=ez;obtain⟨p28,p22⟩:=yE hn ct kt (by omega) hi;obtain⟨aUG,aUH⟩:=yE hnu cu ku (by omega) hi;have F:=aJN hn hnu kt ku ct cu (by omega) (by omega) (by omega) (by omega) (nmt rfl) (nmu rfl) hi;have la:=(jX ct kt (by omega) hi).2.2.2;have lb:=(jX cu ku (by omega) hi).2.2.2
 have lc:∀ op,(cJ op (bL t) (bL u)).length≤1000:=fun op=>by
  have:=tC op (jX ct kt (by omega) hi).2.1 (jX cu ku (by omega) hi).2.1 la lb;omega
 have p41:=InP (bL t) n (by omega);have aY3:=InP (bL u) n (by omega);have a39:=aUD t.name t.tags t.fields t.opn t.root t.of t.limits u n (bL t) (bL u) (fun op=>cJ op (bL t) (bL u)) (inS (bL t) n) (inS (bL u) n) (by omega) (by omega) lc F;simp only[tyC,bE,aM,aQ,aG,kt,ku]at p28 p22 aUG aUH;clear F;generalize bL t=A at*;generalize bL u=B at*;generalize inS A n=wa at*;generalize inS B n=wb at*;simp -implicitDefEqProofs;refine aD.tree p15 rfl ?_;simp -implicitDefEqProofs;refine aD.tree p28 rfl ?_;simp -implicitDefEqProofs;refine aD.tree aRD rfl ?_;simp -implicitDefEqProofs;refine aD.tree aUG rfl ?_;simp -implicitDefEqProofs;refine aD.tree p15 rfl ?_;simp -implicitDefEqProofs;refine aD.tree p40 rfl ?_;simp -implicitDefEqProofs;refine aD.tree p22 rfl ?_;simp -implicitDefEqProofs;refine aD.tree aRD rfl ?_;simp -implicitDefEqProofs;refine aD.tree p40 rfl ?_;simp -implicitDefEqProofs;refine aD.tree aUH rfl ?_;simp -implicitDefEqProofs;refine aD.tree p41 rfl ?_;simp -implicitDefEqProofs;refine aD.tree aY3 rfl ?_;simp -implicitDefEqProofs;exact a39 _ (by simp) (by simp) (by simp) rfl (by simp[Hp.set,ku]) (by simp) (by simp[spans]) (by simp[spans]) (by simp) (by simp)
end
end Go.Proofs.YtdpbobkcbakpfaaGreatDoor
