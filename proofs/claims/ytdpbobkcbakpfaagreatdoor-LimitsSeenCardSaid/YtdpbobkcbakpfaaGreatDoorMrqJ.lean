/- Texts of this proof. -/
import Derived.Test.YtdpbobkcbakpfaaGreatDoorProg
import Derived.Test.YtdpbobkcbakpfaaGreatDoorMrqI
namespace Go.Proofs.YtdpbobkcbakpfaaGreatDoor
open Go Go.Ab
open Go.Proofs.Tryz
set_option maxRecDepth 100000
set_option maxHeartbeats 4000000
def In2(c:List Sp):Prop:=Gap c∧∀y∈c,0≤y.1∧y.2≤255
theorem In2.len{c:List Sp}(h:In2 c):c.length≤128:=by
 have:=aC0 c 0 255 h.1 h.2 (by omega);omega
theorem In2.good{c:List Sp}(h:In2 c):∀ y∈c,bad y=false:=fun y hy=>(kM y).2 ⟨h.1.valid y hy,by have:=h.2 y hy;omega,by have:=h.2 y hy;omega⟩
theorem In2.mem{c:List Sp}(h:In2 c){m:Int}(hm:inS c m=true):0≤m∧m≤255:=by
 obtain⟨y,hy,h1,h2⟩:=fD.1 hm;have:=h.2 y hy;omega
theorem In2.of{c:List Sp}(g:Gap c)(h:∀ m,inS c m=true→0≤m∧m≤255):In2 c:=⟨g,fun y hy=>by
 have hv:=g.valid y hy
 exact⟨(h y.1 (fD.2 ⟨y,hy,by omega,hv⟩)).1,(h y.2 (fD.2 ⟨y,hy,hv,by omega⟩)).2⟩⟩
def xN(out:List Sp)(c:Int):List Sp:=dS 0 out [(c,c)] [] (bR (out++[(c,c)]))
theorem xO:∀ (S:List Int) (out:List Sp),Gap out→Gap (S.foldl xN out)∧∀m,inS (S.foldl xN out) m=(inS out m||S.any fun c=>c==m)
 | [],out,h=>⟨h,fun m=>by simp⟩
 | c::r,out,h=>by
  obtain⟨q1,q2⟩:=kS 0 out [(c,c)];obtain⟨i1,i2⟩:=xO r (xN out c) q1;refine⟨i1,fun m=>?_⟩
  have e:inS [((c,c):Sp)] m=(c==m):=by
   rw[Bool.eq_iff_iff];simp[inS];omega
  rw[List.foldl_cons,i2,xN,q2,e,List.any_cons];simp[eP,Bool.or_assoc]
theorem aNP{l:List Nd}{bg:List Nat}(T:eC l bg)(hok:∀ x∈l,x.ok=true)(P:Nat→Prop)
  (hn:∀ p x,l[p]? =some x→P p→x.k≠2∧x.k≠3∧(x.k=0→x.lo≤x.hi)) (he:∀ p x,l[p]? =some x→P p→∀c:Nat,(c:Int)∈x.args→P c):
  ∀n i,i<n→i<l.length→P i→Gap (nuR l n i)∧∀m,inS (nuR l n i) m=cN l n i m:=by
 intro n
 induction n with
 | zero=>intro i hi;omega
 | succ n ih=>
  intro i hin hil hP;have hx:l[i]? =some (l[i]'hil):=gE9 _;generalize l[i]'hil=x at hx;have N:=T.node i x hx;obtain⟨k2,k3,k0⟩:=hn i x hx hP;obtain⟨r1,r2,r3,r4⟩:=eL (hok x (gM9 hx))
  have sub:∀ k,k<x.args.length→∀m,inS (nuR l n (aJ x k)) m=cN l n (aJ x k) m:=fun k hk=>by
   obtain⟨m1,m2,m3⟩:=dG N hk;exact(ih _ (by omega) (by omega) (he i x hx hP _ m1)).2
  by_cases q0:x.k=0
  ·have e1:nuR l (n+1) i=[(x.lo,x.hi)]:=by simp[nuR,hx,q0]
   rw[e1];refine⟨⟨k0 q0,by simp,trivial⟩,fun m=>?_⟩;simp[cN,hx,q0,inS]
  ·by_cases q1:x.k=1
   ·have e1:nuR l (n+1) i=(chars x.s).foldl xN []:=by simp only[nuR,hx,q1];rfl
    obtain⟨g1,g2⟩:=xO (chars x.s) [] trivial;rw[e1];refine⟨g1,fun m=>?_⟩;have e2:cN l (n+1) i m=(chars x.s).any (fun c=>c==m):=by simp[cN,hx,q1]
    rw[e2,g2];simp[inS]
   ·obtain⟨pos,aH7⟩:=r4 q0 q1;have a2:=sub 0 pos
    by_cases one:x.args.length=1
    ·have n5:x.k≠5:=fun e=>by have:=r3 (.inr (.inl e));omega
     have n6:x.k≠6:=fun e=>by have:=r3 (.inr (.inr e));omega
     have e1:nuR l (n+1) i=nuR l n (aJ x 0):=by simp[nuR,hx,q0,q1,one]
     obtain⟨m1,m2,m3⟩:=dG N pos;rw[e1];refine⟨(ih _ (by omega) (by omega) (he i x hx hP _ m1)).1,fun m=>?_⟩;have e2:cN l (n+1) i m=cN l n (aJ x 0) m:=by simp[cN,hx,q0,q1,n5,n6,one]
     rw[e2,a2]
    ·have b2:=sub 1 (by omega);have two':1<x.args.length:=by omega
     have e1:nuR l (n+1) i=dS (opN x.k) (nuR l n (aJ x 0)) (nuR l n (aJ x 1)) [] (bR (nuR l n (aJ x 0)++nuR l n (aJ x 1))):=by simp[nuR,hx,q0,q1,one]
     obtain⟨g1,g2⟩:=kS (opN x.k) (nuR l n (aJ x 0)) (nuR l n (aJ x 1));rw[e1];refine⟨g1,fun m=>?_⟩;rw[g2,a2,b2]
     by_cases q5:x.k=5
     ·have e2:cN l (n+1) i m=(cN l n (aJ x 0) m&&cN l n (aJ x 1) m):=by simp[cN,hx,q5]
      rw[e2];simp[eP,opN,q5]
     ·by_cases q6:x.k=6
      ·have e2:cN l (n+1) i m=(cN l n (aJ x 0) m&& !cN l n (aJ x 1) m):=by simp[cN,hx,q6]
       rw[e2];simp[eP,opN,q6]
      ·have e2:cN l (n+1) i m=(cN l n (aJ x 0) m||cN l n (aJ x 1) m):=by simp[cN,hx,q0,q1,q5,q6,two']
       rw[e2];simp[eP,opN,q5,q6]
theorem cC{l:List Nd}{bg:List Nat}(T:eC l bg)(hok:∀ x∈l,x.ok=true)(P:Nat→Prop)(B:Int)(hB:B≤255)
  (hn:∀ p x,l[p]? =some x→P p→x.k≠2∧x.k≠3∧(x.k=0→0≤x.lo∧x.lo≤x.hi∧x.hi≤B)∧(x.k=1→∀c∈chars x.s,c≤B)) (he:∀ p x,l[p]? =some x→P p→∀c:Nat,(c:Int)∈x.args→P c):
  ∀n i,i<n→i<l.length→P i→spL l n i=nuR l n i∧In2 (nuR l n i)∧∀m,inS (nuR l n i) m=true→0≤m∧m≤B:=by
 have hn':∀ p x,l[p]? =some x→P p→x.k≠2∧x.k≠3∧(x.k=0→x.lo≤x.hi):=fun p x hx hp=>by
  obtain⟨a,b,c,_⟩:=hn p x hx hp;exact⟨a,b,fun q=>(c q).2.1⟩
 intro n i h1 h2 h3;obtain⟨a1,a2⟩:=aGM T hok P hn' he n i h1 h2 h3;obtain⟨b1,b2⟩:=aNP T hok P hn' he n i h1 h2 h3
 have key:∀ m,inS (nuR l n i) m=true→0≤m∧m≤B:=fun m hm=>by
  rw[b2]at hm;exact aGO T hok P B (fun p x hx hp=>⟨fun q=>⟨((hn p x hx hp).2.2.1 q).1,((hn p x hx hp).2.2.1 q).2.2⟩,(hn p x hx hp).2.2.2⟩) he n i m h2 h3 hm
 exact⟨nU a1 b1 fun m=>by rw[a2,b2],In2.of b1 fun m hm=>by have:=key m hm;omega,key⟩
def seL(l:List Nd)(kd:Int)(all:List Sp):Nat→Nat→List Sp
 | 0,_=>[]
 | n+1,i=>match l[i]? with
  | none=>[]
  | some x=>if x.k==kd then(if kd==2 then spL l n (aJ x 0)else bI (cE all (spL l n (aJ x 0))))
   else if x.k==4 then bI (seL l kd all n (aJ x 0)++seL l kd all n (aJ x 1))else if x.k==5 then bI (cE (seL l kd all n (aJ x 0)) (seL l kd all n (aJ x 1)))
   else if x.k==6||x.k==7 then seL l kd all n (aJ x 0)else all
def seR(l:List Nd)(kd:Int)(all:List Sp):Nat→Nat→List Sp
 | 0,_=>[]
 | n+1,i=>match l[i]? with
  | none=>[]
  | some x=>if x.k==kd then dS 1 all (nuR l n (aJ x 0)) [] (bR (all++nuR l n (aJ x 0)))
   else if x.k==4 then dS 0 (seR l kd all n (aJ x 0)) (seR l kd all n (aJ x 1)) [] (bR (seR l kd all n (aJ x 0)++seR l kd all n (aJ x 1)))
   else if x.k==5 then dS 1 (seR l kd all n (aJ x 0)) (seR l kd all n (aJ x 1)) [] (bR (seR l kd all n (aJ x 0)++seR l kd all n (aJ x 1)))
   else if x.k==6||x.k==7 then seR l kd all n (aJ x 0)else all
structure aID (t:Ty) (bg:List Nat) (P3 P4 Q:Nat→Prop):Prop where
 tree:eC t.limits bg
 few:t.limits.length≤20
 ok:∀ x∈t.limits,x.ok=true
 n3:∀ p x,t.limits[p]? =some x→P3 p→x.k≠1∧x.k≠2∧x.k≠3∧(x.k=0→0≤x.lo∧x.lo≤x.hi∧x.hi≤bX t.kind)
 n4:∀ p x,t.limits[p]? =some x→P4 p→x.k≠2∧x.k≠3∧(x.k=0→0≤x.lo∧x.lo≤x.hi∧x.hi≤127)∧(x.k=1→x.s.size≤200∧∀c∈chars x.s,c≤127)
 e3:∀ p x,t.limits[p]? =some x→P3 p→∀c:Nat,(c:Int)∈x.args→P3 c
 e4:∀ p x,t.limits[p]? =some x→P4 p→∀c:Nat,(c:Int)∈x.args→P4 c
 eq:∀ p x,t.limits[p]? =some x→Q p→∀c:Nat,(c:Int)∈x.args→if x.k=2 then P3 c else if x.k=3 then P4 c else Q c
 last:Q (t.limits.length - 1)
theorem aAV(k:Int):0≤bX k∧bX k≤200:=by unfold bX;split<;>omega
theorem aAW{t:Ty}(h:(dF t).2=0)(hl:t.limits.length≠0):∃ bg,∃P3 P4 Q:Nat→Prop,aID t bg P3 P4 Q:=by
 obtain⟨ht,L,h1,h2,h3⟩:=pE h hl;obtain⟨hlen,bg,T⟩:=bL ht
 have n3:∀ p x,t.limits[p]? =some x→L p=3→x.k≠1∧x.k≠2∧x.k≠3∧(x.k=0→0≤x.lo∧x.lo≤x.hi∧x.hi≤bX t.kind):=fun p x hx ha=>by
  obtain⟨r,hr⟩:=h3 p x hx;obtain⟨s1,s2⟩:=iS hr;rw[ha]at s1 s2;refine⟨fun e=>?_,fun e=>?_,fun e=>?_,fun e=>?_⟩
  ·rw[e]at s1;simp[cM]at s1
  ·rw[e]at s1;simp[cM]at s1
  ·rw[e]at s1;simp[cM]at s1
  ·have:=s2 e;simp only[kC,Bool.and_eq_true,decide_eq_true_eq]at this;have e:gW t.kind 3=(0,bX t.kind):=rfl;rw[e]at this;exact⟨this.1.2,this.1.1,this.2⟩
 have n4:∀ p x,t.limits[p]? =some x→L p=4→x.k≠2∧x.k≠3∧(x.k=0→0≤x.lo∧x.lo≤x.hi∧x.hi≤127)∧(x.k=1→x.s.size≤200∧∀c∈chars x.s,c≤127):=fun p x hx ha=>by
  obtain⟨r,hr⟩:=h3 p x hx;obtain⟨s1,s2⟩:=iS hr;rw[ha]at s1 s2;refine⟨fun e=>?_,fun e=>?_,fun e=>?_,fun e=>?_⟩
  ·rw[e]at s1;simp[cM]at s1
  ·rw[e]at s1;simp[cM]at s1
  ·have:=s2 e;simp only[kC,Bool.and_eq_true,decide_eq_true_eq]at this;have e:gW t.kind 4=(0,127):=rfl;rw[e]at this;exact⟨this.1.2,this.1.1,this.2⟩
  ·obtain⟨t1,t2⟩:=aAR hr e;refine⟨t2,fun c hc=>?_⟩;rw[ha]at t1;have t3:(!bN x.s (bs [])&& !(chars x.s).any (fun c=>decide (127<c)))=true:=by simpa[bT]using t1
   rw[Bool.and_eq_true,Bool.not_eq_true',Bool.not_eq_true',List.any_eq_false]at t3;have:=t3.2 c hc;simpa using this
 refine⟨bg,fun p=>L p=3,fun p=>L p=4,fun p=>L p≠3∧L p≠4,T,hlen,iR ht,n3,n4,fun p x hx ha c hc=>?_,fun p x hx ha c hc=>?_,fun p x hx ha c hc=>?_,?_⟩
 ·have hp:=(gS9.1 hx).1;obtain⟨_,k2,k3,_⟩:=n3 p x hx ha;show L c=3;rw[h2.edge p x (Nat.zero_le _) (by omega) hx c hc];simpa[fO,k2,k3]using ha
 ·have hp:=(gS9.1 hx).1;obtain⟨k2,k3,_⟩:=n4 p x hx ha;show L c=4;rw[h2.edge p x (Nat.zero_le _) (by omega) hx c hc];simpa[fO,k2,k3]using ha
 ·have hp:=(gS9.1 hx).1;have e:=h2.edge p x (Nat.zero_le _) (by omega) hx c hc
  by_cases k2:x.k=2
  ·rw[if_pos k2];show L c=3;rw[e];simp[fO,k2]
  ·rw[if_neg k2]
   by_cases k3:x.k=3
   ·rw[if_pos k3];show L c=4;rw[e];simp[fO,k3]
   ·rw[if_neg k3];show L c≠3∧L c≠4;rw[e];simpa[fO,k2,k3]using ha
 ·show L (t.limits.length - 1)≠3∧L (t.limits.length - 1)≠4;rw[h1];rcases aAS h hl with q | q | q | q | q | q<;>rw[q]<;>decide
theorem sP{t:Ty}{bg:List Nat}{P3 P4 Q:Nat→Prop}(H:aID t bg P3 P4 Q)(n i:Nat)(h1:i<n)(h2:i<t.limits.length):
  (P3 i→spL t.limits n i=nuR t.limits n i∧In2 (nuR t.limits n i)∧∀m,inS (nuR t.limits n i) m=true→0≤m∧m≤bX t.kind)∧
  (P4 i→spL t.limits n i=nuR t.limits n i∧In2 (nuR t.limits n i)):=by
 refine⟨fun h=>cC H.tree H.ok P3 _ (by have:=aAV t.kind;omega) (fun p x hx hp=>?_) H.e3 n i h1 h2 h,fun h=>?_⟩
 ·obtain⟨a,b,c,d⟩:=H.n3 p x hx hp;exact⟨b,c,d,fun e=>absurd e a⟩
 ·obtain⟨a,b,_⟩:=cC H.tree H.ok P4 127 (by omega) (fun p x hx hp=>by
   obtain⟨a,b,c,d⟩:=H.n4 p x hx hp
   exact⟨a,b,c,fun e=>(d e).2⟩) H.e4 n i h1 h2 h
  exact⟨a,b⟩
theorem aE6(s:ByteArray):In2 (alpha s):=by
 unfold alpha;split
 ·exact⟨by simp[Gap],by simp⟩
 ·split
  ·exact⟨by simp[Gap],by simp⟩
  ·split
   ·exact⟨by simp[Gap],by simp⟩
   ·split
    ·exact⟨by simp[Gap],by simp⟩
    ·exact⟨trivial,by simp⟩
theorem aC2{a b:List Sp}(ha:In2 a)(hb:In2 b):bI (cE a b)=dS 1 a b [] (bR (a++b))∧In2 (dS 1 a b [] (bR (a++b))):=by
 obtain⟨c1,c2,_⟩:=aBZ 1 ha.1 hb.1 ha.good hb.good (bI (cE a b)) (by simp) (by simp);obtain⟨q1,q2⟩:=kS 1 a b;exact⟨c1,In2.of q1 fun m hm=>by rw[q2]at hm;simp[eP]at hm;exact ha.mem hm.1⟩
theorem aL6{a b:List Sp}(ha:In2 a)(hb:In2 b):bI (a++b)=dS 0 a b [] (bR (a++b))∧In2 (dS 0 a b [] (bR (a++b))):=by
 obtain⟨c1,c2,_⟩:=aBZ 0 ha.1 hb.1 ha.good hb.good (bI (a++b)) (by simp) (by simp);obtain⟨q1,q2⟩:=kS 0 a b;refine⟨c1,In2.of q1 fun m hm=>?_⟩;rw[q2]at hm;simp[eP]at hm;rcases hm with h | h
 ·exact ha.mem h
 ·exact hb.mem h
theorem pW{t:Ty}{bg:List Nat}{P3 P4 Q:Nat→Prop}(H:aID t bg P3 P4 Q)(kd:Int)(all:List Sp)(hA:In2 all)(hk:(kd=2∧all=[(0,bX t.kind)])∨kd=3):
  ∀n i,i<n→i<t.limits.length→Q i→seL t.limits kd all n i=seR t.limits kd all n i∧In2 (seR t.limits kd all n i):=by
 intro n
 induction n with
 | zero=>intro i hi;omega
 | succ n ih=>
  intro i hin hil hQ;have hx:t.limits[i]? =some (t.limits[i]'hil):=gE9 _;generalize t.limits[i]'hil=x at hx;have N:=H.tree.node i x hx;obtain⟨r1,r2,r3,r4⟩:=eL (H.ok x (gM9 hx))
  by_cases q:x.k=kd
  ·have k23:x.k=2∨x.k=3:=by rcases hk with⟨e,_⟩ | e<;>omega
   have one:=r2 k23;obtain⟨m1,m2,m3⟩:=dG N (k:=0) (by omega);obtain⟨s3,s4⟩:=sP H n (aJ x 0) (by omega) (by omega);have hc:=H.eq i x hx hQ _ m1;have e2:seR t.limits kd all (n+1) i=dS 1 all (nuR t.limits n (aJ x 0)) [] (bR (all++nuR t.limits n (aJ x 0))):=by simp[seR,hx,q]
   rw[e2];rcases hk with⟨rfl,rfl⟩ | rfl
   ·rw[if_pos q]at hc;obtain⟨a,b,c⟩:=s3 hc;have e1:seL t.limits 2 [(0,bX t.kind)] (n+1) i=spL t.limits n (aJ x 0):=by simp[seL,hx,q]
    obtain⟨q1,q2⟩:=kS 1 [(0,bX t.kind)] (nuR t.limits n (aJ x 0));rw[e1,a];refine⟨nU b.1 q1 fun m=>?_,(aC2 hA b).2⟩;rw[q2];cases hm:inS (nuR t.limits n (aJ x 0)) m
    ·simp[eP]
    ·have:=c m hm;simp[eP,inS];exact this
   ·rw[if_neg (by omega),if_pos q]at hc;obtain⟨a,b⟩:=s4 hc;have e1:seL t.limits 3 all (n+1) i=bI (cE all (spL t.limits n (aJ x 0))):=by simp[seL,hx,q]
    rw[e1,a];exact aC2 hA b
  ·have sub:x.k≠2→x.k≠3→∀k,k<x.args.length→seL t.limits kd all n (aJ x k)=seR t.limits kd all n (aJ x k)∧In2 (seR t.limits kd all n (aJ x k)):=fun n2 n3 k hk=>by
    obtain⟨m1,m2,m3⟩:=dG N hk;have:=H.eq i x hx hQ _ m1;rw[if_neg n2,if_neg n3]at this;exact ih _ (by omega) (by omega) this
   by_cases q4:x.k=4
   ·have two:=r3 (.inl q4);obtain⟨a1,a2⟩:=sub (by omega) (by omega) 0 (by omega);obtain⟨b1,b2⟩:=sub (by omega) (by omega) 1 (by omega);have qk:¬ 4=kd:=by omega
    have e1:seL t.limits kd all (n+1) i=bI (seL t.limits kd all n (aJ x 0)++seL t.limits kd all n (aJ x 1)):=by simp[seL,hx,q4,qk]
    have e2:seR t.limits kd all (n+1) i=dS 0 (seR t.limits kd all n (aJ x 0)) (seR t.limits kd all n (aJ x 1)) [] (bR (seR t.limits kd all n (aJ x 0)++seR t.limits kd all n (aJ x 1))):=by simp[seR,hx,q4,qk]
    rw[e1,e2,a1,b1];exact aL6 a2 b2
   ·by_cases q5:x.k=5
    ·have two:=r3 (.inr (.inl q5));obtain⟨a1,a2⟩:=sub (by omega) (by omega) 0 (by omega);obtain⟨b1,b2⟩:=sub (by omega) (by omega) 1 (by omega);have qk:¬ 5=kd:=by omega
     have e1:seL t.limits kd all (n+1) i=bI (cE (seL t.limits kd all n (aJ x 0)) (seL t.limits kd all n (aJ x 1))):=by simp[seL,hx,q5,qk]
     have e2:seR t.limits kd all (n+1) i=dS 1 (seR t.limits kd all n (aJ x 0)) (seR t.limits kd all n (aJ x 1)) [] (bR (seR t.limits kd all n (aJ x 0)++seR t.limits kd all n (aJ x 1))):=by simp[seR,hx,q5,qk]
     rw[e1,e2,a1,b1];exact aC2 a2 b2
    ·by_cases q67:x.k=6∨x.k=7
     ·obtain⟨a1,a2⟩:=sub (by omega) (by omega) 0 (r4 (by omega) (by omega)).1;have e1:seL t.limits kd all (n+1) i=seL t.limits kd all n (aJ x 0):=by simp[seL,hx,q,q4,q5,q67]
      have e2:seR t.limits kd all (n+1) i=seR t.limits kd all n (aJ x 0):=by simp[seR,hx,q,q4,q5,q67]
      rw[e1,e2];exact⟨a1,a2⟩
     ·have e1:seL t.limits kd all (n+1) i=all:=by simp[seL,hx,q,q4,q5,q67]
      have e2:seR t.limits kd all (n+1) i=all:=by simp[seR,hx,q,q4,q5,q67]
      rw[e1,e2];exact⟨rfl,hA⟩
section
attribute [local simp] bD aN aS aG aU aO aZ tyC fdC vlC ndC aL D.cK D.pt
structure aSW (l:List Nd) (bg:List Nat) (V:Nat→Prop):Prop where
 tree:eC l bg
 few:l.length≤20
 ok:∀ x∈l,x.ok=true
 set:∀ n i,i<n→i<l.length→V i→Gap (spL l n i)∧(∀y∈spL l n i,bad y=false)∧(spL l n i).length≤150
 txt:∀ p x,l[p]? =some x→V p→x.k=1→x.s.size≤200
 edge:∀ p x,l[p]? =some x→V p→∀c:Nat,(c:Int)∈x.args→V c
def aSX(d:D)(h:Hp)(nx:Nat)(acc:List Sp):Prop:=
 (acc=[]∧d= .one (.tt 2 []))∨(acc≠[]∧∃id ver,id<nx∧d= .one (.ref id ver 0 acc.length 2 false)∧alive h id ver∧h.rows id=acc.map cell∧h.sz id=2∧h.shut id=false)
attribute [local simp] c90b12 c90 in
theorem Q90{l:List Nd}{bg:List Nat}{V:Nat→Prop}(H:aSW l bg V):∀ n i,i<n→i<l.length→V i→PSp prog 90 [.one (.t (aG l)),.one (.t (I i))] (.one (.t (spans (spL l n i)))):=by
 intro n
 induction n with
 | zero=>intro i hi;omega
 | succ n ih=>
  intro i hin hil hW;have hx:l[i]? =some (l[i]'hil):=gE9 _;generalize l[i]'hil=x at hx;have N:=H.tree.node i x hx;have hiI:(i:Int)<(l.length:Int):=by omega
  have hr:=H.ok x (gM9 hx);simp only[Nd.ok,Bool.and_eq_true]at hr;have hr:=hr.1.1
  have sub:∀ k,k<x.args.length→aJ x k<n∧aJ x k<l.length∧V (aJ x k):=fun k hk=>by
   obtain⟨m1,m2,m3⟩:=dG N hk;exact⟨by omega,by omega,H.edge i x hx hW _ m1⟩
  obtain⟨R0,hR0⟩:∃ R,spL l (n+1) i=R:=⟨_,rfl⟩;rw[hR0];refine k90.aI (by simp) rfl rfl ?_;rcases eqCases x.k 0 with k0 | k0
  ·have e1:R0=[(x.lo,x.hi)]:=by rw[←hR0];simp[spL,hx,k0]
   subst e1;simp -implicitDefEqProofs [-aA,-gval,hil,hiI,aE hx,Nd.row,k0,aB,spans,spr,-List.getElem_map]
  ·rcases eqCases x.k 1 with q1 | q1
   ·have e1:R0=bI ((chars x.s).map fun c=>(c,c)):=by rw[←hR0];simp[spL,hx,q1]
    have hs:=H.txt i x hx hW q1;obtain⟨S,hS⟩:∃ S,chars x.s=S:=⟨_,rfl⟩;have hSl:S.length≤200:=by rw[←hS,dD];exact hs
    have hSc:∀ c∈S,0≤c∧c≤255:=fun c hc=>by have:=jG (s:=x.s) (c:=c) (by rw[hS];exact hc);omega
    have hb:dW (D.one (A.t (T.str x.s))).str=S.map fun c=>[T.int .u8 c]:=by rw[←hS];simp[dW,chars,D.str]
    rw[hS]at e1
    have pN:=vD (S.map fun c=>((c,c):Sp)) (by simp;omega) fun y hy=>by
     obtain⟨c,hc,rfl⟩:=List.mem_map.1 hy;have:=hSc c hc;exact(kM _).2 ⟨Int.le_refl _,by simp only;omega,by simp only;omega⟩
    rw[←e1]at pN;clear hR0 e1;simp -implicitDefEqProofs [-aA,-gval,hil,hiI,aE hx,Nd.row,q1,hb,-List.getElem_map];refine W.cR (fun k st=>∃ i:Nat,k=S.length - i∧i≤S.length∧st.tmps 29= .one (.t (.rows 1 (S.map fun c=>[T.int .u8 c])))∧st.tmps 30= .one (.t (I S.length))∧st.tmps 31= .one (.t (I i))∧aSX (st.tmps 6) st.heap st.nx ((S.map fun c=>((c,c):Sp)).take i)) S.length ⟨0,by simp,by simp,by simp,by simp,by simp,by simp[aSX]⟩ ?_;rintro k st ⟨j,hk,hj,h29,h30,h31,h6⟩;rcases Nat.lt_or_ge j S.length with hlt | hge
    ·have fE:(j:Int)<(S.length:Int):=by omega
     obtain⟨c,hc⟩:∃ c,S[j]? =some c:=⟨_,gE9 hlt⟩;have cb:=hSc c (gM9 hc);have hw:IntKind.i64.wrap ((j:Int)+1)=((j+1:Nat):Int):=aH _ (by omega) (by omega);have hwc:IntKind.i64.wrap c=c:=wrap_i64 (by omega) (by omega);have hg:∀ hh,(S.map fun c=>[T.int .u8 c])[j]'hh=[T.int .u8 c]:=fun hh=>aE hc hh
     have et:(S.map fun c=>((c,c):Sp)).take (j+1)=(S.map fun c=>((c,c):Sp)).take j++[(c,c)]:=by rw[List.take_add_one,List.getElem?_map,hc];rfl
     have en:((S.map fun c=>((c,c):Sp)).take j).length≤200:=by simp;omega
     generalize (S.map fun c=>((c,c):Sp)).take j=acc at*;rcases h6 with⟨rfl,h6⟩ | ⟨hne',id,ver,hid,h6,r1,r2,r3,r4⟩
     ·simp -implicitDefEqProofs [-aA,-gval,h29,h30,h31,h6,hlt,fE,hg,hw,hwc,D.cU,D.isInt];refine⟨S.length - (j+1),by omega,j+1,rfl,by omega,by simp,?_⟩;rw[et];refine .inr ⟨by simp,_,0,by omega,rfl,by simp,?_,by simp,by simp⟩;rw[dH,if_pos rfl];simp[cell]
     ·have xL:(st.heap.rows id).length=acc.length:=by rw[r2];simp
      simp -implicitDefEqProofs [-aA,-gval,h29,h30,h31,h6,hlt,fE,hg,hw,hwc,r1,r3,r4,xL,D.cU,D.isInt];refine⟨by omega,S.length - (j+1),by omega,j+1,rfl,by omega,by simp,?_⟩;rw[et];refine .inr ⟨by simp,id,ver+1,by omega,by simp,by simp,?_,by simp,by simp⟩;rw[dH,if_pos rfl,r2];simp[cell]
    ·have hj':j=S.length:=by omega
     subst hj';have fE:¬ (S.length:Int)<(S.length:Int):=by omega
     rw[List.take_of_length_le (by simp)]at h6;generalize S.map (fun c=>((c,c):Sp))=acc at*;simp -implicitDefEqProofs [-aA,-gval,h30,h31];rcases h6 with⟨rfl,h6⟩ | ⟨_,id,ver,_,h6,r1,r2,r3,r4⟩
     ·rw[h6];refine aD.pure pN (by simp) (by simp[spans]) ?_;simp -implicitDefEqProofs [-aA,-gval,aB,spans]
     ·have e1:(acc.map spr).length=acc.length:=by simp
      rw[h6,←e1];have r2':st.heap.rows id=(acc.map spr).map (·.map .t):=by rw[r2,List.map_map];rfl
      refine aD.pure pN (by simpa using iP r1 r3 r2') (by simp only[List.map_cons,List.map_nil,D.frz,kR r2',spans]) ?_;simp -implicitDefEqProofs [-aA,-gval,aB,spans]
   ·have hk1:=q1.2.1;have q1:=q1.1
    have pos:0<x.args.length:=by
     unfold Nd.right at hr;simp only[k0,hk1,or_self,if_false]at hr;split at hr
     ·have:=of_decide_eq_true hr;omega
     ·split at hr
      ·have:=of_decide_eq_true hr;omega
      ·split at hr
       ·have:=of_decide_eq_true hr;omega
       ·cases hr
    have a0:=aC1 N pos;obtain⟨s1,s2,s3⟩:=sub 0 pos;have c0:=ih (aJ x 0) s1 s2 s3;have l0:(0:Int)<(x.args.length:Int):=by omega
    rcases eqCases x.k 2 with k2 | k2
    ·have e1:R0=spL l n (aJ x 0):=by rw[←hR0];simp[spL,hx,k2]
     subst e1;simp -implicitDefEqProofs [-aA,-gval,hil,hiI,aE hx,Nd.row,k2,pos,aE a0,-List.getElem_map];refine aD.tree c0 rfl ?_;simp -implicitDefEqProofs [-aA,-gval,aB]
    ·by_cases one:x.args.length=1
     ·have e1:R0=spL l n (aJ x 0):=by rw[←hR0];simp[spL,hx,k0,hk1,k2,one]
      subst e1;have l2:(x.args.length:Int)<2:=by omega
      have l3:¬ (2:Int)≤(x.args.length:Int):=by omega
      simp -implicitDefEqProofs [-aA,-gval,hil,hiI,aE hx,Nd.row,k0,q1,k2,pos,aE a0,-List.getElem_map];refine aD.tree c0 rfl ?_;simp -implicitDefEqProofs [-aA,-gval,l2,l3,aB]
     ·have one':1<x.args.length:=by omega
      have a1:=aC1 N one';obtain⟨t1,t2,t3⟩:=sub 1 one';have c1:=ih (aJ x 1) t1 t2 t3;have l2:¬ (x.args.length:Int)<2:=by omega
      have l3:(2:Int)≤(x.args.length:Int):=by omega
      have l1:(1:Int)<(x.args.length:Int):=by omega
      obtain⟨gA,okA,nA⟩:=H.set n _ s1 s2 s3;obtain⟨gB,okB,nB⟩:=H.set n _ t1 t2 t3;have va:=gA.valid;have vb:=gB.valid
      have eR:R0=if x.k==5 then bI (cE (spL l n (aJ x 0)) (spL l n (aJ x 1)))else if x.k==6 then bI (bF (spL l n (aJ x 0)) (spL l n (aJ x 1)))else bI (spL l n (aJ x 0)++spL l n (aJ x 1)):=by
       rw[←hR0];have q:¬ x.args.length<2:=by omega
       simp[spL,hx,k0,hk1,k2,q]
      clear hR0;generalize spL l n (aJ x 0)=A at*;generalize spL l n (aJ x 1)=B at*;simp -implicitDefEqProofs [-aA,-gval,hil,hiI,aE hx,Nd.row,k0,q1,k2,pos,aE a0,-List.getElem_map];refine aD.tree c0 rfl ?_;simp -implicitDefEqProofs [-aA,-gval,l2,l3,one',l1,aE a1,-List.getElem_map];refine aD.tree c1 rfl ?_;rcases eqCases x.k 5 with k5 | k5
      ·have:R0=bI (cE A B):=by rw[eR];simp[k5]
       subst this;simp -implicitDefEqProofs [-aA,-gval,k5];refine aD.tree (aL0 A B (by have:=mY A B gA gB;omega) (by omega) (by omega) okA okB) rfl ?_;simp -implicitDefEqProofs [-aA,-gval,aB]
      ·rcases eqCases x.k 6 with k6 | k6
       ·have:R0=bI (bF A B):=by rw[eR];simp[k6]
        subst this;simp -implicitDefEqProofs [-aA,-gval,k6];refine aD.tree (aL1 A B (by have:=(gU (b:=B) (a:=A) gA.asc vb).2.1;omega) (by omega) (by omega) gA.asc okA okB) rfl ?_;simp -implicitDefEqProofs [-aA,-gval,aB]
       ·have:R0=bI (A++B):=by rw[eR];simp[k5,k6]
        subst this;simp -implicitDefEqProofs [-aA,-gval,k5,k6];refine aD.tree (aL2 A B (by omega) okA okB) rfl ?_;simp -implicitDefEqProofs [-aA,-gval,aB]
end
section
attribute [local simp] bD aN aS aG aU aO aZ tyC fdC vlC ndC aL D.cK D.pt
def gL(t:Ty)(l:List Sp):Sp×Bool×Int:=if l.length==0 then((0,0),false,23)else(((l.headD (0,0)).1,(l.getD (l.length - 1) (0,0)).2),(gK t.limits).2,0)
attribute [local simp] c89 in
theorem P89(t:Ty){bg:List Nat}(T:eC t.limits bg)(hok:∀ x∈t.limits,x.ok=true)(hl:t.limits.length≤20)(l:List Sp)(hs:l.length≤1000):
  PSp prog 89 [.agg (tyC t),.one (.t (spans l))] (.tup [.agg (cell (gL t l).1),.one (.t (.bool (gL t l).2.1)),.one (.t (I (gL t l).2.2))]):=by
 have p74:=P74 T hok hl;obtain⟨r1,hr1⟩:∃ x,(gK t.limits).1=x:=⟨_,rfl⟩;obtain⟨r2,hr2⟩:∃ x,(gK t.limits).2=x:=⟨_,rfl⟩;rw[hr1,hr2]at p74;refine k89.aI (by simp) (by simp[D.closed,A.closed]) rfl ?_
 by_cases z:l.length=0
 ·have zl:l=[]:=List.length_eq_zero_iff.1 z;subst zl;simp -implicitDefEqProofs [-aA,-gval,gL,spans,cell,aB]
 ·obtain⟨m,hm⟩:∃ m:Nat,l.length=m+1:=⟨l.length - 1,by omega⟩;obtain⟨x,hx⟩:∃ x,l[0]? =some x:=⟨_,gE9 (by omega)⟩;obtain⟨y,hy⟩:∃ y,l[m]? =some y:=⟨_,gE9 (by omega)⟩
  have e:gL t l=((x.1,y.2),r2,0):=by
   have e1:l.headD (0,0)=x:=by
    cases l with
    | nil=>cases hx
    | cons a r=>simpa using hx
   have e2:l.getD (l.length - 1) (0,0)=y:=by
    rw[hm,Nat.add_sub_cancel,List.getD_eq_getElem?_getD,hy];rfl
   have e3:(l.length==0)=false:=by simpa using z
   rw[gL,e1,e2,hr2,e3];rfl
  rw[e];have zI:((l.length:Int)==0)=false:=by simpa using z
  have h0:0<l.length:=by omega
  have h0I:(0:Int)<(l.length:Int):=by omega
  have hw:IntKind.i64.wrap ((l.length:Int) - 1)=(m:Int):=by rw[wrap_i64 (by omega) (by omega)];omega
  have hmI:(m:Int)<(l.length:Int):=by omega
  have hmN:m<l.length:=by omega
  simp -implicitDefEqProofs [-aA,-gval,zI,spans];refine aD.tree p74 rfl ?_;simp -implicitDefEqProofs [-aA,-gval,hw,h0,hmI,hmN,aE hx,aE hy,spr,cell,aB,-List.getElem_map]
def iT(t:Ty):Int:=bU [(dF t).2,if t.kind==2 then 0 else 4]
def gM(t:Ty):Sp×Bool×Int:=if iT t != 0 then((0,0),false,iT t)else gL t (if t.limits.length==0 then kA t else spL t.limits t.limits.length (cJ t.limits))
attribute [local simp] c43 in
theorem P43(t:Ty)(hn:t.narrow=true)(h82:(dF t).2=0→t.kind=2→t.limits.length=0→PSp prog 82 [.agg (tyC t)] (.one (.t (spans (kA t)))))
  (h90:(dF t).2=0→t.kind=2→t.limits.length≠0→(spL t.limits t.limits.length (cJ t.limits)).length≤1000∧PSp prog 90 [.one (.t (aG t.limits)),.one (.t (I ((cJ t.limits:Nat):Int)))] (.one (.t (spans (spL t.limits t.limits.length (cJ t.limits)))))):
  PSp prog 43 [.agg (tyC t)] (.tup [.agg (cell (gM t).1),.one (.t (.bool (gM t).2.1)),.one (.t (I (gM t).2.2))]):=by
 have p80:=P80 t hn
 have right:(dF t).2=0→∃bg,eC t.limits bg∧(∀x∈t.limits,x.ok=true)∧t.limits.length≤20:=fun h=>by
  have ht:=dP t (lI h).1;obtain⟨hlen,bg,T⟩:=bL ht;exact⟨bg,T,iR ht,hlen⟩
 obtain⟨R,hR⟩:∃ R,gM t=R:=⟨_,rfl⟩;obtain⟨k,hk⟩:∃ k,(t.kind==2)=k:=⟨_,rfl⟩;have eE:iT t=bU [(dF t).2,if k then 0 else 4]:=by rw[iT,hk]
 rw[hR];rw[gM,eE]at hR;generalize (dF t).2=e at*;have p79:=P79 [e,if k then 0 else 4] (by simp[short])
 have hz:bU [e,if k then 0 else 4]=0→e=0∧k=true:=fun h=>by
  simp only[bW,cZ]at h
  by_cases q:e=0
  ·cases k
   ·simp[q]at h
   ·exact⟨q,rfl⟩
  ·simp[q]at h
 generalize bU [e,if k then 0 else 4]=E at*;refine k43.aI (by simp) (by simp[D.closed,A.closed]) rfl ?_;simp -implicitDefEqProofs [-aA,-gval];refine aD.aW p80 rfl ?_;simp -implicitDefEqProofs [-aA,-gval,hk];refine aD.aW (P81 k 4) rfl ?_;simp -implicitDefEqProofs [-aA,-gval];refine aD.draw p79 (by simp) (by simp) (.inl rfl) ?_;rcases eqCases E 0 with z | z
 ·obtain⟨z1,z2⟩:=hz z;obtain⟨bg,T,hok,hl⟩:=right z1;subst z2;have k2:t.kind=2:=by simpa using hk
  have p74:=P74 T hok hl
  by_cases q:t.limits.length=0
  ·have c:=h82 z1 k2 q;have ql:t.limits=[]:=List.length_eq_zero_iff.1 q;have e1:(gK t.limits).1= -1:=by simp[gK,ql]
   have hR:R=gL t (kA t):=by rw[←hR,z,ql];rfl
   have p89:=P89 t T hok hl (kA t) (by simp[kA,ql,k2,jP]);rw[←hR]at p89;generalize kA t=S at*;rw[e1]at p74;simp -implicitDefEqProofs [-aA,-gval,z];refine aD.tree p74 rfl ?_;simp -implicitDefEqProofs [-aA,-gval];refine aD.aW c rfl ?_;simp -implicitDefEqProofs [-aA,-gval];refine aD.aW p89 rfl ?_;simp -implicitDefEqProofs [-aA,-gval,cell,aB]
  ·obtain⟨c1,c2⟩:=h90 z1 k2 q;have qN:(t.limits.length==0)=false:=by simpa using q
   have e1:(gK t.limits).1=((cJ t.limits:Nat):Int):=by simp[gK,qN]
   have hR:R=gL t (spL t.limits t.limits.length (cJ t.limits)):=by rw[←hR,z,qN];rfl
   have p89:=P89 t T hok hl _ c1;rw[←hR]at p89;generalize spL t.limits t.limits.length (cJ t.limits)=S at*;have nn:¬ ((cJ t.limits:Nat):Int)<0:=by omega
   have nn2:(0:Int)≤((cJ t.limits:Nat):Int):=by omega
   rw[e1]at p74;generalize cJ t.limits=r at*;simp -implicitDefEqProofs [-aA,-gval,z];refine aD.tree p74 rfl ?_;simp -implicitDefEqProofs [-aA,-gval,nn];refine aD.aW c2 rfl ?_;simp -implicitDefEqProofs [-aA,-gval];refine aD.aW p89 rfl ?_;simp -implicitDefEqProofs [-aA,-gval,cell,aB]
 ·have hR:R=((0,0),false,E):=by rw[←hR,if_pos z.2.2.2.2.1]
  subst hR;simp -implicitDefEqProofs [-aA,-gval,z,cell,aB]
end
section
attribute [local simp] bD aN aS aG aU aO aZ tyC fdC vlC ndC aL D.cK D.pt oP D.nX
structure aWE (l:List Nd) (bg:List Nat) (V:Nat→Prop):Prop where
 tree:eC l bg
 few:l.length≤20
 ok:∀ x∈l,x.ok=true
 set:∀ n i,i<n→i<l.length→V i→Gap (nuR l n i)∧(∀y∈nuR l n i,bad y=false)∧(nuR l n i).length≤150
 txt:∀ p x,l[p]? =some x→V p→x.k=1→x.s.size≤200
 edge:∀ p x,l[p]? =some x→V p→∀c:Nat,(c:Int)∈x.args→V c
attribute [local simp] c83b12 c83 in
theorem Q83{l:List Nd}{bg:List Nat}{V:Nat→Prop}(H:aWE l bg V):∀ n i,i<n→i<l.length→V i→PSp prog 83 [.one (.t (aG l)),.one (.t (I i))] (.one (.t (spans (nuR l n i)))):=by
 intro n
 induction n with
 | zero=>intro i hi;omega
 | succ n ih=>
  intro i hin hil hW;have hx:l[i]? =some (l[i]'hil):=gE9 _;generalize l[i]'hil=x at hx;have N:=H.tree.node i x hx;have hiI:(i:Int)<(l.length:Int):=by omega
  have hr:=H.ok x (gM9 hx);simp only[Nd.ok,Bool.and_eq_true]at hr;have hr:=hr.1.1
  have sub:∀ k,k<x.args.length→aJ x k<n∧aJ x k<l.length∧V (aJ x k):=fun k hk=>by
   obtain⟨m1,m2,m3⟩:=dG N hk;exact⟨by omega,by omega,H.edge i x hx hW _ m1⟩
  obtain⟨R0,hR0⟩:∃ R,nuR l (n+1) i=R:=⟨_,rfl⟩;rw[hR0];refine k83.aI (by simp) rfl rfl ?_;rcases eqCases x.k 0 with k0 | k0
  ·have e1:R0=[(x.lo,x.hi)]:=by rw[←hR0];simp[nuR,hx,k0]
   subst e1;simp -implicitDefEqProofs [-aA,-gval,hil,hiI,aE hx,Nd.row,k0,aB,spans,spr,-List.getElem_map]
  ·rcases eqCases x.k 1 with q1 | q1
   ·have e1:R0=(chars x.s).foldl xN []:=by rw[←hR0];simp only[nuR,hx,q1];rfl
    have hs:=H.txt i x hx hW q1;clear hR0;subst e1;simp -implicitDefEqProofs [-aA,-gval,hil,hiI,aE hx,Nd.row,q1,-List.getElem_map];have hcl:=dD x.s;refine rX (chars x.s) xN [] [5] [5] (fun j s st=>st.tmps 7= .one (.t (I j))∧(st.tmps 6= .one (.t (spans s))∨(s=[]∧st.tmps 6= .one (.tt 2 [])))) (by simp only[short];omega) ?_ ?_ ?_
    ·exact⟨⟨by simp,.inr ⟨rfl,by simp⟩⟩,by simp,by simp⟩
    ·rintro j y s st' hj hjI hw hg hy hs' ⟨h7,h6⟩ hk hh
     have sin:In2 s:=by
      obtain⟨g1,g2⟩:=xO ((chars x.s).take j) [] trivial;rw[hs']
      exact In2.of g1 fun m hm=>by
       rw[g2]at hm;simp only[inS,List.any_nil,Bool.false_or,List.any_eq_true]at hm;obtain⟨c,hc,e⟩:=hm;have e:c=m:=by simpa using e
       have:=jG (List.mem_of_mem_take hc);omega
     have sl:=sin.len;have sg:=sin.good;clear hs';simp at hk hh;rw[hcl]at hj hjI;obtain⟨o1,o2,o3,o4⟩:=aK hh.1;have hc:(chars x.s)[j]?.getD 0=y:=by rw[hg];rfl
     have hm:=jG hy
     have hcv:D.cU .i64 (.one (.t (.int .u8 y)))= .one (.t (I y)):=by
      have:IntKind.i64.wrap y=y:=wrap_i64 (by omega) (by omega);simp[D.cU,this]
     have cc:=xF 0 s [(y,y)] (by omega) (by simp) fun z hz=>by
      rcases List.mem_append.1 hz with q | q
      ·exact sg z q
      ·rw[List.mem_singleton.1 q];exact(kM _).2 ⟨Int.le_refl _,by simp only;omega,by simp only;omega⟩
     rcases h6 with h6 | ⟨rfl,h6⟩
     ·simp -implicitDefEqProofs [-aA,-gval,h7,h6,hk,hjI,hc,hcv,o1,o2,o3];refine aD.pure cc ?_ ?_ ?_
      ·simp
      ·simp[spans,spr]
      simp -implicitDefEqProofs [-aA,-gval,h7,hw,hk];exact⟨rfl,by simpa[spans,Hp.close]using hh.1⟩
     ·simp -implicitDefEqProofs [-aA,-gval,h7,h6,hk,hjI,hc,hcv,o1,o2,o3];refine aD.pure cc ?_ ?_ ?_
      ·simp
      ·simp[spans,spr]
      simp -implicitDefEqProofs [-aA,-gval,h7,hw,hk];exact⟨rfl,by simpa[spans,Hp.close]using hh.1⟩
    ·rintro st' ⟨h7,h6⟩ hk hh;simp at hk hh;rw[hcl]at h7;obtain⟨o1,o2,o3,o4⟩:=aK hh.1;rcases h6 with h6 | ⟨h8,h6⟩
     ·simp -implicitDefEqProofs [-aA,-gval,h7,h6,hk,o1,o2,o3,aB]
     ·simp -implicitDefEqProofs [-aA,-gval,h7,h6,h8,hk,o1,o2,o3,aB,spans]
   ·have hk1:=q1.2.1;have q1:=q1.1
    have pos:0<x.args.length:=by
     unfold Nd.right at hr;simp only[k0,hk1,or_self,if_false]at hr;split at hr
     ·have:=of_decide_eq_true hr;omega
     ·split at hr
      ·have:=of_decide_eq_true hr;omega
      ·split at hr
       ·have:=of_decide_eq_true hr;omega
       ·cases hr
    have a0:=aC1 N pos;obtain⟨s1,s2,s3⟩:=sub 0 pos;have c0:=ih (aJ x 0) s1 s2 s3;have l0:(0:Int)<(x.args.length:Int):=by omega
    by_cases one:x.args.length=1
    ·have e1:R0=nuR l n (aJ x 0):=by rw[←hR0];simp[nuR,hx,k0,hk1,one]
     subst e1;have l2:((x.args.length:Int)==1)=true:=by simp[one]
     simp -implicitDefEqProofs [-aA,-gval,hil,hiI,aE hx,Nd.row,k0,q1,one,aE a0,-List.getElem_map];refine aD.tree c0 rfl ?_;simp -implicitDefEqProofs [-aA,-gval,aB]
    ·have one':1<x.args.length:=by omega
     have a1:=aC1 N one';obtain⟨t1,t2,t3⟩:=sub 1 one';have c1:=ih (aJ x 1) t1 t2 t3;have l2:((x.args.length:Int)==1)=false:=by simp;omega
     have l1:(1:Int)<(x.args.length:Int):=by omega
     obtain⟨gA,okA,nA⟩:=H.set n _ s1 s2 s3;obtain⟨gB,okB,nB⟩:=H.set n _ t1 t2 t3
     have eR:R0=dS (opN x.k) (nuR l n (aJ x 0)) (nuR l n (aJ x 1)) [] (bR (nuR l n (aJ x 0)++nuR l n (aJ x 1))):=by
      rw[←hR0];simp[nuR,hx,k0,hk1,one]
     clear hR0;generalize nuR l n (aJ x 0)=A at*;generalize nuR l n (aJ x 1)=B at*
     have aWF:∀ y∈A++B,bad y=false:=fun y hy=>by
      rcases List.mem_append.1 hy with q | q
      ·exact okA y q
      ·exact okB y q
     subst eR;have cc:=fun op=>xF op A B (by omega) (by omega) aWF
     rcases eqCases x.k 5 with k5 | k5
     ·have eo:opN x.k=1:=by simp[opN,k5]
      rw[eo];simp -implicitDefEqProofs [-aA,-gval,hil,hiI,aE hx,Nd.row,k5,l2,pos,aE a0,-List.getElem_map];refine aD.aW c0 rfl ?_;simp -implicitDefEqProofs [-aA,-gval,one',l1,aE a1,-List.getElem_map];refine aD.aW c1 rfl ?_;simp -implicitDefEqProofs [-aA,-gval];refine aD.aW (cc 1) rfl ?_;simp -implicitDefEqProofs [-aA,-gval,aB]
     ·rcases eqCases x.k 6 with k6 | k6
      ·have eo:opN x.k=2:=by simp[opN,k6]
       rw[eo];simp -implicitDefEqProofs [-aA,-gval,hil,hiI,aE hx,Nd.row,k6,l2,pos,aE a0,-List.getElem_map];refine aD.aW c0 rfl ?_;simp -implicitDefEqProofs [-aA,-gval,one',l1,aE a1,-List.getElem_map];refine aD.aW c1 rfl ?_;simp -implicitDefEqProofs [-aA,-gval];refine aD.aW (cc 2) rfl ?_;simp -implicitDefEqProofs [-aA,-gval,aB]
      ·have eo:opN x.k=0:=by simp[opN,k5,k6]
       rw[eo];simp -implicitDefEqProofs [-aA,-gval,hil,hiI,aE hx,Nd.row,k0,q1,k5,k6,l2,pos,aE a0,-List.getElem_map];refine aD.aW c0 rfl ?_;simp -implicitDefEqProofs [-aA,-gval,one',l1,aE a1,-List.getElem_map];refine aD.aW c1 rfl ?_;simp -implicitDefEqProofs [-aA,-gval];refine aD.aW (cc 0) rfl ?_;simp -implicitDefEqProofs [-aA,-gval,aB]
end
def c44:aC:=zs 0 4 [zX 1 8 0,zo 2 (.alloc [za,za]),zW 3 false,zM 4 0] (.seq (.seq (.region 1 true 14 [zA 6 8 1,zq 7 80 [6],zf 8 0 1,zl 9 8,zq 10 60 [9],zv 11 10,.br 11 false [zg 12 (zF 0 1) 11 false,zg 13 (zy 12) 11 false,.mk (some 14) (zw 61 [13]) (some (11,false))],zQ 15 11 14,zc 16 81 [.tmp 15,zi 4],zo 17 (.bslice 1 2 [za,za] [(0,(1,.tmp 7)),(1,(1,.tmp 16))]),zq 18 79 [17],zv 5 18]) (zs 2 2 [zv 19 5,zK 20 .neq 19 0] (zd 20 (zs 3 5 [zo 21 (.build [za,za] []),zv 22 5,zS 2 2 21,zW 3 false,zv 4 22] .ret) .skip))) (.seq (zs 4 4 [zf 23 7 1,zl 24 23,zL 25 24,zK 26 .eql 25 0] (zd 26 (zs 5 6 [zA 27 8 1,zq 28 91 [27],zo 29 (.build [za,za] [(1,(1,.tmp 28))]),zS 2 2 29,zW 3 false,zM 4 0] .ret) .skip)) (.seq (.region 6 true 14 [zA 30 8 1,zA 31 8 1,zf 32 7 1,zl 33 32,zL 34 33,zK 35 .sub 34 1,zc 36 92 [.tmp 31,.tmp 35,zb false],zq 37 89 [30,36],zE 38 0 37,zE 39 1 37,zE 40 2 37,zS 2 2 38,zv 3 39,zv 4 40]) .ret)))
theorem k44:Compiled prog 44 41 [.cell 2 2 true,.tmp 3,.tmp 4] c44:=kMk [] func44
def c45:aC:=zs 0 3 [zX 1 8 0,zo 2 (.mv (.con (.one (.tt 2 [])))),zM 3 0] (.seq (.seq (.region 1 true 9 [zA 7 8 1,zq 8 80 [7],zf 9 0 1,zl 10 9,zK 11 .eql 10 6,zc 12 81 [.tmp 11,zi 4],zo 13 (.bslice 1 2 [za,za] [(0,(1,.tmp 8)),(1,(1,.tmp 12))]),zq 14 79 [13],zv 4 14]) (zs 2 2 [zv 15 4,zK 16 .neq 15 0] (zd 16 (zs 3 3 [zv 17 4,zo 2 (.mv (.con (.one (.tt 2 [])))),zv 3 17] .ret) .skip))) (zs 4 8 [zf 19 1 1,zl 20 19,zq 21 17 [20],zv 18 21,zE 22 0 18,zE 23 1 18,zv 5 22,zv 6 23] (.seq (zs 5 4 [zf 24 7 1,zl 25 24,zL 26 25,zK 27 .gtr 26 0] (zd 27 (zr 6 7 [zA 28 8 1,zf 29 7 1,zl 30 29,zL 31 30,zK 32 .sub 31 1,zc 33 92 [.tmp 28,.tmp 32,zb true],zv 5 33]) .skip)) (.seq (zs 7 3 [zv 34 5,zL 35 34,zK 36 .eql 35 0] (zd 36 (zs 8 2 [zo 2 (.mv (.con (.one (.tt 2 [])))),zM 3 23] .ret) .skip)) (zs 9 3 [zv 37 5,zv 2 37,zM 3 0] .ret)))))
theorem k45:Compiled prog 45 38 [.tmp 2,.tmp 3] c45:=kMk [] func45
def c47:aC:=zs 0 3 [zX 2 2 0,zX 3 12 1,zW 4 false] (zs 1 4 [zf 9 1 3,zf 10 1 9,zl 11 10,zv 5 11] (.seq (zs 2 3 [zf 12 0 3,zl 13 12,zN 14 13] (zd 14 (zs 3 14 [zv 15 5,zK 16 .eql 15 4,zv 17 16,.grp 17 true [zg 18 (zF 1 3) 17 true,zg 19 (zF 0 18) 17 true,zg 20 (zy 19) 17 true,zg 21 (zV 20) 17 true],zP 22 17 21,zv 23 22,.br 23 true [zg 24 (zt 2 2) 23 true,zg 25 (.build [za,za] []) 23 true,zg 26 (.beq false 0 1 (.tmp 24) (.tmp 25)) 23 true],zP 27 23 26,zv 4 27] .ret) .skip)) (zs 4 1 [zo 6 (.mv (.con (.one (.tt 2 []))))] (.seq (zs 5 3 [zf 28 11 3,zl 29 28,zK 30 .eql 29 1] (zd 30 (zr 6 4 [zf 31 3 3,zA 32 8 31,zq 33 93 [32],zv 6 33]) (zr 7 4 [zf 34 3 3,zA 35 8 34,zq 36 94 [35],zv 6 36]))) (zs 8 8 [zv 38 6,zq 39 95 [38],zv 37 39,zE 40 0 37,zE 41 1 37,zo 7 (.alloc [za,za]),zS 2 7 40,zv 8 41] (.seq (zs 9 2 [zv 42 8,zN 43 42] (zd 43 (zs 10 14 [zv 44 5,zK 45 .eql 44 23,zv 46 45,.grp 46 true [zg 47 (zF 1 3) 46 true,zg 48 (zF 0 47) 46 true,zg 49 (zy 48) 46 true,zg 50 (zV 49) 46 true],zP 51 46 50,zv 52 51,.br 52 true [zg 53 (zt 2 2) 52 true,zg 54 (.build [za,za] []) 52 true,zg 55 (.beq false 0 1 (.tmp 53) (.tmp 54)) 52 true],zP 56 52 55,zv 4 56] .ret) .skip)) (.seq (.region 11 true 17 [zv 57 5,zK 58 .eql 57 0,zv 59 58,.br 59 true [zg 60 (zt 2 2) 59 true,zg 61 (zt 2 7) 59 true,zg 62 (.beq false 0 1 (.tmp 60) (.tmp 61)) 59 true],zP 63 59 62,zv 64 63,.br 64 true [zg 65 (zF 1 3) 64 true,zg 66 (zF 0 65) 64 true,zg 67 (zy 66) 64 true,zg 68 (zF 3 3) 64 true,zg 69 (zt 8 68) 64 true,.mk (some 70) (zw 96 [69]) (some (64,true)),zg 71 (.bin .eql true (.tmp 67) (.tmp 70)) 64 true],zP 72 64 71,zv 4 72]) .ret)))))))
theorem k47:Compiled prog 47 73 [.tmp 4] c47:=kMk [] func47
def c48:aC:=zs 0 2 [zX 5 8 2,zW 6 false] (.seq (zs 1 3 [zf 8 0 5,zl 9 8,zK 10 .neq 9 6] (zd 10 (zs 2 8 [zv 11 1,zK 12 .eql 11 4,zv 13 12,.grp 13 true [zg 14 (zm 0) 13 true,zg 15 (.len false (.tmp 14)) 13 true,zg 16 (zU .eql 15 0) 13 true],zP 17 13 16,zv 6 17] .ret) .skip)) (zs 3 3 [zA 18 8 5,zq 19 97 [18],zv 7 19] (.seq (zs 4 3 [zv 20 7,zL 21 20,zK 22 .eql 21 0] (zd 22 (zs 5 8 [zv 23 1,zK 24 .eql 23 23,zv 25 24,.grp 25 true [zg 26 (zm 0) 25 true,zg 27 (.len false (.tmp 26)) 25 true,zg 28 (zU .eql 27 0) 25 true],zP 29 25 28,zv 6 29] .ret) .skip)) (zs 6 8 [zv 30 1,zK 31 .eql 30 0,zv 32 31,.br 32 true [zg 33 (zm 0) 32 true,zg 34 (zm 7) 32 true,.mk (some 35) (zw 20 [33,34]) (some (32,true))],zP 36 32 35,zv 6 36] .ret))))
theorem k48:Compiled prog 48 37 [.tmp 6] c48:=kMk [] func48
def c92:aC:=zs 0 2 [zX 3 8 0,zo 6 (.mv (.con (.one (.tt 2 []))))] (zs 1 7 [zf 9 7 3,zl 10 9,zv 11 1,zI 12 5 10 11,zA 13 5 12,zo 7 (.alloc [za,za,za,.t (.str (bs [])),.tt 1 []]),zS 5 7 13] (zs 2 5 [zA 14 8 3,zq 15 91 [14],zo 16 (.build [za,za] [(1,(1,.tmp 15))]),zo 17 (.bslice 2 1 [za,za] [(0,(2,.tmp 16))]),zv 8 17] (.seq (zs 3 1 [zv 18 2] (zd 18 (zr 4 7 [zf 20 1 3,zl 21 20,zq 22 17 [21],zv 19 22,zE 23 0 19,zE 24 1 19,zv 8 23]) .skip)) (.seq (zs 5 2 [zf 25 0 7,zl 26 25] (.block 0 (zs 6 2 [zK 28 .eql 26 2,zv 27 28] (zd 27 (.seq (zs 7 1 [zv 29 2] (zd 29 (zs 8 2 [zv 30 8,zv 6 30] .ret) .skip)) (.seq (.region 9 true 8 [zf 31 7 3,zl 32 31,zf 33 4 7,zl 34 33,zj 35 1 34 0,zl 36 35,zq 37 90 [32,36],zv 6 37]) .ret)) (zs 10 2 [zK 39 .eql 26 3,zv 38 39] (zd 38 (.seq (zs 11 1 [zv 40 2] (zd 40 (.seq (.region 12 true 10 [zv 41 8,zf 42 7 3,zl 43 42,zf 44 4 7,zl 45 44,zj 46 1 45 0,zl 47 46,zq 48 90 [43,47],zq 49 132 [41,48],zv 6 49]) .ret) .skip)) (zs 13 2 [zv 50 8,zv 6 50] .ret)) (zs 14 2 [zK 52 .eql 26 4,zv 51 52] (zd 51 (.seq (.region 15 true 16 [zA 53 8 3,zf 54 4 7,zl 55 54,zj 56 1 55 0,zl 57 56,zv 58 2,zq 59 92 [53,57,58],zA 60 8 3,zf 61 4 7,zl 62 61,zj 63 1 62 1,zl 64 63,zv 65 2,zq 66 92 [60,64,65],zc 67 86 [zi 0,.tmp 59,.tmp 66],zv 6 67]) .ret) (zs 16 2 [zK 69 .eql 26 5,zv 68 69] (zd 68 (.seq (.region 17 true 16 [zA 70 8 3,zf 71 4 7,zl 72 71,zj 73 1 72 0,zl 74 73,zv 75 2,zq 76 92 [70,74,75],zA 77 8 3,zf 78 4 7,zl 79 78,zj 80 1 79 1,zl 81 80,zv 82 2,zq 83 92 [77,81,82],zq 84 132 [76,83],zv 6 84]) .ret) (.seq (zs 18 2 [zK 86 .eql 26 6,zv 85 86] (zd 85 .skip (zr 19 2 [zK 87 .eql 26 7,zv 85 87]))) (zd 85 (.seq (.region 20 true 8 [zA 88 8 3,zf 89 4 7,zl 90 89,zj 91 1 90 0,zl 92 91,zv 93 2,zq 94 92 [88,92,93],zv 6 94]) .ret) .skip)))))))))))) (zs 21 2 [zv 95 8,zv 6 95] .ret)))))
theorem k92:Compiled prog 92 96 [.tmp 6] c92:=kMk [] func92
def c93:aC:=zs 0 2 [zX 1 8 0,zo 2 (.mv (.con (.one (.tt 2 []))))] (zs 1 6 [zf 4 0 1,zl 5 4,zq 6 133 [5],zo 7 (.build [za,za] [(0,(1,zi 0)),(1,(1,.tmp 6))]),zo 8 (.bslice 2 1 [za,za] [(0,(2,.tmp 7))]),zv 3 8] (.seq (zs 2 4 [zf 9 7 1,zl 10 9,zL 11 10,zK 12 .eql 11 0] (zd 12 (zs 3 2 [zv 13 3,zv 2 13] .ret) .skip)) (zs 4 10 [zf 14 7 1,zl 15 14,zf 16 7 1,zl 17 16,zL 18 17,zK 19 .sub 18 1,zv 20 3,zo 21 (.build [za,.tt 2 []] [(0,(1,zi 2)),(1,(1,.tmp 20))]),zq 22 134 [15,19,21],zv 2 22] .ret)))
theorem k93:Compiled prog 93 23 [.tmp 2] c93:=kMk [] func93
def c94:aC:=zs 0 2 [zX 1 8 0,zo 2 (.mv (.con (.one (.tt 2 []))))] (.seq (zs 1 4 [zf 3 7 1,zl 4 3,zL 5 4,zK 6 .eql 5 0] (zd 6 (zs 2 3 [zA 7 8 1,zq 8 31 [7],zv 2 8] .ret) .skip)) (.seq (.region 3 true 7 [zf 9 7 1,zl 10 9,zf 11 7 1,zl 12 11,zq 13 78 [12],zq 14 83 [10,13],zv 2 14]) .ret))
theorem k94:Compiled prog 94 15 [.tmp 2] c94:=kMk [] func94
def c95:aC:=zs 0 2 [zo 2 (.alloc [za,za]),zW 3 false] (.seq (zs 1 3 [zv 4 0,zL 5 4,zK 6 .eql 5 0] (zd 6 (zs 2 3 [zo 7 (.build [za,za] []),zS 2 2 7,zW 3 false] .ret) .skip)) (.seq (.region 3 true 14 [zv 8 0,zj 9 2 8 0,zf 10 0 9,zl 11 10,zv 12 0,zv 13 0,zL 14 13,zK 15 .sub 14 1,zI 16 2 12 15,zf 17 1 16,zl 18 17,zo 19 (.build [za,za] [(0,(1,.tmp 11)),(1,(1,.tmp 18))]),zS 2 2 19,zW 3 true]) .ret))
theorem k95:Compiled prog 95 20 [.cell 2 2 true,.tmp 3] c95:=kMk [] func95
def c96:aC:=zs 0 2 [zX 1 8 0,zW 2 false] (zs 1 17 [zf 3 7 1,zl 4 3,zL 5 4,zK 6 .gtr 5 0,zv 7 6,.br 7 true [zg 8 (zF 7 1) 7 true,zg 9 (zy 8) 7 true,zg 10 (zF 7 1) 7 true,zg 11 (zy 10) 7 true,zg 12 (.len false (.tmp 11)) 7 true,zg 13 (zU .sub 12 1) 7 true,zg 14 (.ia 5 (.tmp 9) (.tmp 13)) 7 true,zg 15 (zF 0 14) 7 true,zg 16 (zy 15) 7 true,zg 17 (zU .eql 16 7) 7 true],zP 18 7 17,zv 2 18] .ret)
theorem k96:Compiled prog 96 19 [.tmp 2] c96:=kMk [] func96
def c97:aC:=zs 0 2 [zX 1 8 0,zo 2 (.mv (.con (.one (.tt 2 []))))] (.seq (zs 1 4 [zf 3 7 1,zl 4 3,zL 5 4,zK 6 .eql 5 0] (zd 6 (zs 2 4 [zf 7 1 1,zl 8 7,zq 9 18 [8],zv 2 9] .ret) .skip)) (.seq (.region 3 true 12 [zf 10 7 1,zl 11 10,zf 12 7 1,zl 13 12,zL 14 13,zK 15 .sub 14 1,zf 16 1 1,zl 17 16,zq 18 18 [17],zo 19 (.build [za,.tt 2 []] [(0,(1,zi 3)),(1,(1,.tmp 18))]),zq 20 134 [11,15,19],zv 2 20]) .ret))
theorem k97:Compiled prog 97 21 [.tmp 2] c97:=kMk [] func97
def c134:aC:=zs 0 2 [zX 5 2 2,zo 6 (.mv (.con (.one (.tt 2 []))))] (zs 1 6 [zv 8 0,zv 9 1,zI 10 5 8 9,zA 11 5 10,zo 7 (.alloc [za,za,za,.t (.str (bs [])),.tt 1 []]),zS 5 7 11] (.seq (zs 2 2 [zf 12 0 7,zl 13 12] (.block 0 (zs 3 4 [zf 15 0 5,zl 16 15,zB 17 .eql 13 16,zv 14 17] (zd 14 (.seq (.region 4 true 10 [zf 18 1 5,zl 19 18,zv 20 0,zf 21 4 7,zl 22 21,zj 23 1 22 0,zl 24 23,zq 25 83 [20,24],zc 26 38 [zi 1,.tmp 19,.tmp 25],zv 6 26]) .ret) (zs 5 2 [zK 28 .eql 13 4,zv 27 28] (zd 27 (.seq (.region 6 true 16 [zv 29 0,zf 30 4 7,zl 31 30,zj 32 1 31 0,zl 33 32,zA 34 2 5,zq 35 134 [29,33,34],zv 36 0,zf 37 4 7,zl 38 37,zj 39 1 38 1,zl 40 39,zA 41 2 5,zq 42 134 [36,40,41],zc 43 38 [zi 0,.tmp 35,.tmp 42],zv 6 43]) .ret) (zs 7 2 [zK 45 .eql 13 5,zv 44 45] (zd 44 (.seq (.region 8 true 16 [zv 46 0,zf 47 4 7,zl 48 47,zj 49 1 48 0,zl 50 49,zA 51 2 5,zq 52 134 [46,50,51],zv 53 0,zf 54 4 7,zl 55 54,zj 56 1 55 1,zl 57 56,zA 58 2 5,zq 59 134 [53,57,58],zc 60 38 [zi 1,.tmp 52,.tmp 59],zv 6 60]) .ret) (.seq (zs 9 2 [zK 62 .eql 13 6,zv 61 62] (zd 61 .skip (zr 10 2 [zK 63 .eql 13 7,zv 61 63]))) (zd 61 (.seq (.region 11 true 8 [zv 64 0,zf 65 4 7,zl 66 65,zj 67 1 66 0,zl 68 67,zA 69 2 5,zq 70 134 [64,68,69],zv 6 70]) .ret) .skip)))))))))) (zs 12 3 [zf 71 1 5,zl 72 71,zv 6 72] .ret)))
theorem k134:Compiled prog 134 73 [.tmp 6] c134:=kMk [] func134
def c8t3:aC:=zd 14 (zs 2 1 [zW 2 false] .ret) .skip
def c8t6:aC:=zd 17 (zs 4 1 [zW 2 true] .ret) .skip
def c8t13:aC:=zd 41 (zs 10 37 [zv 42 6,zv 43 3,zB 44 .eql 42 43,zv 45 44,.grp 45 true [zg 46 (zm 9) 45 true,zg 47 (zm 3) 45 true,zg 48 (zO .eql 46 47) 45 true],zP 49 45 48,zv 50 49,.grp 50 true [zg 51 (zm 11) 50 true,zg 52 (zm 3) 50 true,zg 53 (zO .eql 51 52) 50 true],zP 54 50 53,zv 55 54,.grp 55 true [zg 56 (zm 5) 55 true,zg 57 (zV 56) 55 true],zP 58 55 57,zv 59 58,.grp 59 true [zg 60 (zm 8) 59 true,zg 61 (zV 60) 59 true],zP 62 59 61,zv 63 62,.br 63 true [zg 64 (zt 2 4) 63 true,zg 65 (.build [za,za] []) 63 true,zg 66 (.beq false 0 1 (.tmp 64) (.tmp 65)) 63 true],zP 67 63 66,zv 68 67,.br 68 true [zg 69 (zt 2 7) 68 true,zg 70 (.build [za,za] []) 68 true,zg 71 (.beq false 0 1 (.tmp 69) (.tmp 70)) 68 true],zP 72 68 71,zv 73 72,.grp 73 true [zg 74 (zm 10) 73 true,zg 75 (.len false (.tmp 74)) 73 true,zg 76 (zU .eql 75 0) 73 true],zP 77 73 76,zv 2 77] .ret) .skip
def c8t16:aC:= .seq (zs 9 2 [zv 40 3,zK 41 .neq 40 0] c8t13) (zs 11 10 [zf 78 0 1,zl 79 78,zq 80 30 [79],zv 81 80,.br 81 false [zg 82 (.bslice 1 3 [za,za,za] [(0,(1,zi 4)),(1,(1,zi 5)),(2,(1,zi 6))]) 81 false,zg 83 (zF 0 1) 81 false,zg 84 (zy 83) 81 false,.mk (some 85) (zw 46 [82,84]) (some (81,false))],zQ 86 81 85,zv 12 86] (zs 12 27 [zA 87 2 4,zf 88 0 1,zl 89 88,zK 90 .eql 89 2,zv 91 5,zv 92 6,zo 93 (.build [.t (.bool false),za] [(0,(1,.tmp 91)),(1,(1,.tmp 92))]),zA 94 8 1,zo 95 (.build [.t (.bool false),.t (.bool false),za,za,.t (.str (bs [])),.tt 3 [],.tt 13 [],.t (.bool false),za,.tt 8 [],.tt 5 [],za] [(0,(1,.tmp 90)),(1,(2,.tmp 93)),(3,(8,.tmp 94)),(11,(1,zi 0))]),zq 96 47 [87,95],zv 97 96,.br 97 true [zg 98 (zt 2 7) 97 true,zg 99 (zm 12) 97 true,zg 100 (zm 8) 97 true,zg 101 (zm 9) 97 true,zg 102 (.build [.t (.bool false),za] [(0,(1,.tmp 100)),(1,(1,.tmp 101))]) 97 true,zg 103 (zt 8 1) 97 true,zg 104 (.build [.t (.bool false),.t (.bool false),za,za,.t (.str (bs [])),.tt 3 [],.tt 13 [],.t (.bool false),za,.tt 8 [],.tt 5 [],za] [(0,(1,.tmp 99)),(1,(2,.tmp 102)),(3,(8,.tmp 103)),(11,(1,zi 1))]) 97 true,.mk (some 105) (zw 47 [98,104]) (some (97,true))],zP 106 97 105,zv 107 106,.br 107 true [zg 108 (zm 10) 107 true,zg 109 (zm 11) 107 true,zg 110 (zt 8 1) 107 true,.mk (some 111) (zw 48 [108,109,110]) (some (107,true))],zP 112 107 111,zv 2 112] .ret))
def c8t17:aC:=zs 8 8 [zA 35 8 1,zq 36 15 [35],zq 37 45 [36],zv 34 37,zE 38 0 34,zE 39 1 34,zv 10 38,zv 11 39] c8t16
def c8t18:aC:=zs 7 11 [zA 28 8 1,zq 29 15 [28],zq 30 44 [29],zv 27 30,zE 31 0 27,zE 32 1 27,zE 33 2 27,zo 7 (.alloc [za,za]),zS 2 7 31,zv 8 32,zv 9 33] c8t17
def c8t19:aC:=zs 6 11 [zA 21 8 1,zq 22 15 [21],zq 23 43 [22],zv 20 23,zE 24 0 20,zE 25 1 20,zE 26 2 20,zo 4 (.alloc [za,za]),zS 2 4 24,zv 5 25,zv 6 26] c8t18
def c8t20:aC:=zs 5 3 [zA 18 8 1,zq 19 29 [18],zv 3 19] c8t19
def c8t21:aC:= .seq (zs 3 3 [zA 15 8 1,zq 16 13 [15],zN 17 16] c8t6) c8t20
def c8t22:aC:= .seq (zs 1 2 [zc 13 12 [],zN 14 13] c8t3) c8t21
def c8:aC:=zs 0 2 [zX 1 8 0,zW 2 false] c8t22
theorem k8:Compiled prog 8 113 [.tmp 2] c8:=kMk [] func8
def c9t3:aC:=zd 17 (zs 2 1 [zW 4 false] .ret) .skip
def c9t6:aC:=zd 37 (zs 4 1 [zW 4 true] .ret) .skip
def c9t10:aC:=zd 47 (zs 7 1 [zW 4 false] .ret) .skip
def c9t13:aC:=zd 49 (zs 9 1 [zW 4 true] .ret) .skip
def c9t17:aC:=zd 52 (zs 11 11 [zA 54 8 2,zq 55 15 [54],zq 56 43 [55],zv 53 56,zE 57 0 53,zE 58 1 53,zE 59 2 53,zo 7 (.alloc [za,za]),zS 2 7 57,zv 8 58,zv 9 59] (zs 12 12 [zv 60 9,zK 61 .eql 60 0,zv 62 61,.br 62 true [zg 63 (zF 1 3) 62 true,zg 64 (zy 63) 62 true,zg 65 (zF 0 7) 62 true,zg 66 (zy 65) 62 true,zg 67 (zF 1 7) 62 true,zg 68 (zy 67) 62 true,.mk (some 69) (zw 37 [64,66,68]) (some (62,true))],zP 70 62 69,zv 4 70] .ret)) .skip
def c9t21:aC:=zd 89 (zs 15 1 [zW 4 false] .ret) .skip
def c9t24:aC:=zd 92 (zs 17 1 [zW 4 true] .ret) .skip
def c9t28:aC:=zd 103 .skip (.exit 0)
def c9t31:aC:=zd 117 (zs 23 1 [zW 4 false] .ret) .skip
def c9t33:aC:= .seq (.block 1 (zs 22 12 [zv 106 14,zK 107 .neq 106 0,zv 108 107,.br 108 false [zg 109 (zm 13) 108 false,zg 110 (zF 3 3) 108 false,zg 111 (zy 110) 108 false,zg 112 (zm 15) 108 false,zg 113 (.ixs (.tmp 111) (.tmp 112)) 108 false,zg 114 (.cU .i64 (.tmp 113)) 108 false,.mk (some 115) (zw 41 [109,114]) (some (108,false)),zg 116 (zV 115) 108 false],zQ 117 108 116] c9t31)) (zr 21 3 [zv 104 15,zK 105 .add 104 1,zv 15 105])
def c9b34:aC:= .seq (zs 20 5 [zv 99 15,zf 100 3 3,zl 101 100,zp 102 101,zB 103 .lss 99 102] c9t28) c9t33
def c9t35:aC:= .block 0 (.loop c9b34)
def c9t37:aC:= .seq (zs 19 1 [zM 15 0] c9t35) (zs 24 1 [zW 4 true] .ret)
def c9t38:aC:=zs 18 8 [zA 94 8 2,zq 95 15 [94],zq 96 45 [95],zv 93 96,zE 97 0 93,zE 98 1 93,zv 13 97,zv 14 98] c9t37
def c9t39:aC:= .seq (zs 16 3 [zf 90 0 2,zl 91 90,zK 92 .neq 91 6] c9t24) c9t38
def c9t40:aC:= .seq (.seq (.region 14 true 12 [zv 78 12,zK 79 .neq 78 0,zv 80 79,.br 80 false [zg 81 (zt 6 3) 80 false,.mk (some 82) (zw 50 [81]) (some (80,false)),zg 83 (zF 0 10) 80 false,zg 84 (zy 83) 80 false,zg 85 (zF 1 10) 80 false,zg 86 (zy 85) 80 false,.mk (some 87) (zw 37 [82,84,86]) (some (80,false)),zg 88 (zV 87) 80 false],zQ 89 80 88]) c9t21) c9t39
def c9t41:aC:=zs 13 11 [zA 72 8 2,zq 73 15 [72],zq 74 44 [73],zv 71 74,zE 75 0 71,zE 76 1 71,zE 77 2 71,zo 10 (.alloc [za,za]),zS 2 10 75,zv 11 76,zv 12 77] c9t40
def c9t42:aC:= .seq (zs 10 3 [zf 50 0 2,zl 51 50,zK 52 .eql 51 2] c9t17) c9t41
def c9t43:aC:= .seq (zs 8 2 [zv 48 5,zN 49 48] c9t13) c9t42
def c9t44:aC:= .seq (zs 6 2 [zv 46 6,zK 47 .neq 46 0] c9t10) c9t43
def c9t45:aC:= .seq (.region 5 true 10 [zA 39 8 2,zq 40 15 [39],zA 41 6 3,zq 42 23 [41],zq 43 24 [40,42],zv 38 43,zE 44 0 38,zE 45 1 38,zv 5 44,zv 6 45]) c9t44
def c9t46:aC:= .seq (zs 3 20 [zA 18 8 2,zq 19 13 [18],zN 20 19,zv 21 20,.br 21 false [zg 22 (zt 6 3) 21 false,.mk (some 23) (zw 21 [22]) (some (21,false)),zg 24 (zV 23) 21 false],zQ 25 21 24,zv 26 25,.br 26 false [zg 27 (zt 8 2) 26 false,zg 28 (zt 6 3) 26 false,.mk (some 29) (zw 25 [27,28]) (some (26,false)),zg 30 (zU .neq 29 0) 26 false],zQ 31 26 30,zv 32 31,.br 32 false [zg 33 (zF 0 2) 32 false,zg 34 (zy 33) 32 false,.mk (some 35) (zw 49 [34]) (some (32,false)),zg 36 (zU .eql 35 0) 32 false],zQ 37 32 36] c9t6) c9t45
def c9t47:aC:= .seq (zs 1 2 [zc 16 12 [],zN 17 16] c9t3) c9t46
def c9:aC:=zs 0 3 [zX 2 8 0,zX 3 6 1,zW 4 false] c9t47
theorem k9:Compiled prog 9 118 [.tmp 4] c9:=kMk [] func9
section
attribute [local simp] bD aN aS aG aU aO aZ tyC fdC vlC ndC aL D.cK D.pt
attribute [local simp] c134 in
theorem aSY{t:Ty}{bg:List Nat}{P3 P4 Q:Nat→Prop}(H:aID t bg P3 P4 Q)(kd:Int)(all:List Sp)(hA:In2 all)(hk:(kd=2∧all=[(0,bX t.kind)])∨kd=3)
  (c83:∀ n i,i<n→i<t.limits.length→P3 i∨P4 i→PSp prog 83 [.one (.t (aG t.limits)),.one (.t (I ((i:Nat):Int)))] (.one (.t (spans (nuR t.limits n i))))):
  ∀n i,i<n→i<t.limits.length→Q i→PSp prog 134 [.one (.t (aG t.limits)),.one (.t (I ((i:Nat):Int))),.agg [.t (I kd),.t (spans all)]] (.one (.t (spans (seR t.limits kd all n i)))):=by
 intro n
 induction n with
 | zero=>intro i hi;omega
 | succ n ih=>
  intro i hin hil hQ;have hx:t.limits[i]? =some (t.limits[i]'hil):=gE9 _;generalize t.limits[i]'hil=x at hx;have N:=H.tree.node i x hx;have hiI:(i:Int)<(t.limits.length:Int):=by omega
  obtain⟨r1,r2,r3,r4⟩:=eL (H.ok x (gM9 hx))
  have sub:x.k≠2→x.k≠3→∀k,k<x.args.length→In2 (seR t.limits kd all n (aJ x k))∧PSp prog 134 [.one (.t (aG t.limits)),.one (.t (I ((aJ x k:Nat):Int))),.agg [.t (I kd),.t (spans all)]] (.one (.t (spans (seR t.limits kd all n (aJ x k))))):=fun n2 n3 k hk'=>by
   obtain⟨m1,m2,m3⟩:=dG N hk';have:=H.eq i x hx hQ _ m1;rw[if_neg n2,if_neg n3]at this;exact⟨(pW H kd all hA hk n _ (by omega) (by omega) this).2,ih _ (by omega) (by omega) this⟩
  have comb:∀ op (a b:List Sp),In2 a→In2 b→PSp prog 38 [.one (.t (I op)),.one (.t (spans a)),.one (.t (spans b))] (.one (.t (spans (dS op a b [] (bR (a++b)))))):=fun op a b ha hb=>by
   have:=ha.len;have:=hb.len
   exact xF op a b (by omega) (by omega) fun z hz=>by
    rcases List.mem_append.1 hz with h | h
    ·exact ha.good z h
    ·exact hb.good z h
  obtain⟨R0,hR0⟩:∃ R,seR t.limits kd all (n+1) i=R:=⟨_,rfl⟩;rw[hR0];refine k134.aI (by simp) (by simp[D.closed,A.closed]) rfl ?_;rcases eqCases x.k kd with q | q
  ·have k23:x.k=2∨x.k=3:=by rcases hk with⟨e,_⟩ | e<;>omega
   have one:=r2 k23;have pos:0<x.args.length:=by omega
   have a0:=fM N pos;have l0:(0:Int)<(x.args.length:Int):=by omega
   obtain⟨m1,m2,m3⟩:=dG N pos
   have hp:P3 (aJ x 0)∨P4 (aJ x 0):=by
    have:=H.eq i x hx hQ _ m1;split at this
    ·exact .inl this
    ·rename_i n2;rw[if_pos (k23.resolve_left n2)]at this;exact .inr this
   obtain⟨s3,s4⟩:=sP H n (aJ x 0) (by omega) (by omega)
   have hN:In2 (nuR t.limits n (aJ x 0)):=by
    rcases hp with h | h
    ·exact(s3 h).2.1
    ·exact(s4 h).2
   have c:=c83 n _ (by omega) (by omega) hp;have e1:R0=dS 1 all (nuR t.limits n (aJ x 0)) [] (bR (all++nuR t.limits n (aJ x 0))):=by rw[←hR0];simp[seR,hx,q]
   have cc:=comb 1 all _ hA hN;rw[←e1]at cc;clear hR0 e1 s3 s4 sub;generalize nuR t.limits n (aJ x 0)=S at*;simp -implicitDefEqProofs [-aA,-gval,hil,hiI,aE hx,Nd.row,q,pos,aE a0,-List.getElem_map];refine aD.aW c rfl ?_;simp -implicitDefEqProofs [-aA,-gval];refine aD.aW cc rfl ?_;simp -implicitDefEqProofs [-aA,-gval,aB]
  ·have q2:(x.k==kd)=false:=q.1;rcases eqCases x.k 4 with k4 | k4
   ·have two:=r3 (.inl k4);have pos:0<x.args.length:=by omega
    have rC:1<x.args.length:=by omega
    have a0:=fM N pos;have a1:=fM N rC;have l0:(0:Int)<(x.args.length:Int):=by omega
    have l1:(1:Int)<(x.args.length:Int):=by omega
    obtain⟨i0,c0⟩:=sub (by omega) (by omega) 0 pos;obtain⟨i1,c1⟩:=sub (by omega) (by omega) 1 rC;rw[k4]at q2;have qk:¬ 4=kd:=by simpa using q2
    have e1:R0=dS 0 (seR t.limits kd all n (aJ x 0)) (seR t.limits kd all n (aJ x 1)) [] (bR (seR t.limits kd all n (aJ x 0)++seR t.limits kd all n (aJ x 1))):=by rw[←hR0];simp[seR,hx,k4,qk]
    have cc:=comb 0 _ _ i0 i1;rw[←e1]at cc;clear hR0 e1 sub;generalize seR t.limits kd all n (aJ x 0)=A at*;generalize seR t.limits kd all n (aJ x 1)=B at*;simp -implicitDefEqProofs [-aA,-gval,hil,hiI,aE hx,Nd.row,k4,q2,pos,aE a0,-List.getElem_map];refine aD.aW c0 rfl ?_;simp -implicitDefEqProofs [-aA,-gval,rC,l1,aE a1,-List.getElem_map];refine aD.aW c1 rfl ?_;simp -implicitDefEqProofs [-aA,-gval];refine aD.aW cc rfl ?_;simp -implicitDefEqProofs [-aA,-gval,aB]
   ·rcases eqCases x.k 5 with k5 | k5
    ·have two:=r3 (.inr (.inl k5));have pos:0<x.args.length:=by omega
     have rC:1<x.args.length:=by omega
     have a0:=fM N pos;have a1:=fM N rC;have l0:(0:Int)<(x.args.length:Int):=by omega
     have l1:(1:Int)<(x.args.length:Int):=by omega
     obtain⟨i0,c0⟩:=sub (by omega) (by omega) 0 pos;obtain⟨i1,c1⟩:=sub (by omega) (by omega) 1 rC;rw[k5]at q2;have qk:¬ 5=kd:=by simpa using q2
     have e1:R0=dS 1 (seR t.limits kd all n (aJ x 0)) (seR t.limits kd all n (aJ x 1)) [] (bR (seR t.limits kd all n (aJ x 0)++seR t.limits kd all n (aJ x 1))):=by rw[←hR0];simp[seR,hx,k5,qk]
     have cc:=comb 1 _ _ i0 i1;rw[←e1]at cc;clear hR0 e1 sub;generalize seR t.limits kd all n (aJ x 0)=A at*;generalize seR t.limits kd all n (aJ x 1)=B at*;simp -implicitDefEqProofs [-aA,-gval,hil,hiI,aE hx,Nd.row,k5,q2,pos,aE a0,-List.getElem_map];refine aD.aW c0 rfl ?_;simp -implicitDefEqProofs [-aA,-gval,rC,l1,aE a1,-List.getElem_map];refine aD.aW c1 rfl ?_;simp -implicitDefEqProofs [-aA,-gval];refine aD.aW cc rfl ?_;simp -implicitDefEqProofs [-aA,-gval,aB]
    ·rcases eqCases x.k 6 with k6 | k6
     ·have pos:=(r4 (by omega) (by omega)).1;have a0:=fM N pos;have l0:(0:Int)<(x.args.length:Int):=by omega
      obtain⟨_,c0⟩:=sub (by omega) (by omega) 0 pos;rw[k6]at q2;have qk:¬ 6=kd:=by simpa using q2
      have e1:R0=seR t.limits kd all n (aJ x 0):=by rw[←hR0];simp[seR,hx,k6,qk]
      rw[←e1]at c0;simp -implicitDefEqProofs [-aA,-gval,hil,hiI,aE hx,Nd.row,k6,q2,pos,aE a0,-List.getElem_map];refine aD.aW c0 rfl ?_;simp -implicitDefEqProofs [-aA,-gval,aB]
     ·rcases eqCases x.k 7 with k7 | k7
      ·have pos:=(r4 (by omega) (by omega)).1;have a0:=fM N pos;have l0:(0:Int)<(x.args.length:Int):=by omega
       obtain⟨_,c0⟩:=sub (by omega) (by omega) 0 pos;rw[k7]at q2;have qk:¬ 7=kd:=by simpa using q2
       have e1:R0=seR t.limits kd all n (aJ x 0):=by rw[←hR0];simp[seR,hx,k7,qk]
       rw[←e1]at c0;simp -implicitDefEqProofs [-aA,-gval,hil,hiI,aE hx,Nd.row,k7,q2,pos,aE a0,-List.getElem_map];refine aD.aW c0 rfl ?_;simp -implicitDefEqProofs [-aA,-gval,aB]
      ·have e1:R0=all:=by rw[←hR0];simp[seR,hx,q,k4,k5,k6,k7]
       subst e1;simp -implicitDefEqProofs [-aA,-gval,hil,hiI,aE hx,Nd.row,q,k4,k5,k6,k7,aB,-List.getElem_map]
end
section
attribute [local simp] bD aN aS aG aU aO aZ tyC fdC vlC ndC aL D.cK D.pt
attribute [local simp] c92 in
theorem P92{t:Ty}{bg:List Nat}{P3 P4 Q:Nat→Prop}(H:aID t bg P3 P4 Q)(of:Bool)(kd:Int)(all:List Sp)(hof:(of=false∧kd=2∧all=[(0,bX t.kind)])∨(of=true∧kd=3∧all=alpha t.name))(hA:In2 all)
  (c90:∀ n i,i<n→i<t.limits.length→P3 i∨P4 i→PSp prog 90 [.one (.t (aG t.limits)),.one (.t (I ((i:Nat):Int)))] (.one (.t (spans (spL t.limits n i))))):
  ∀n i,i<n→i<t.limits.length→Q i→PSp prog 92 [.agg (tyC t),.one (.t (I ((i:Nat):Int))),.one (.t (.bool of))] (.one (.t (spans (seL t.limits kd all n i)))):=by
 have p91:=P91 t;have p17:=P17 t.name;generalize (if fG t.name then(0:Int)else 7)=e17 at*;intro n
 induction n with
 | zero=>intro i hi;omega
 | succ n ih=>
  intro i hin hil hQ;have hx:t.limits[i]? =some (t.limits[i]'hil):=gE9 _;generalize t.limits[i]'hil=x at hx;have N:=H.tree.node i x hx;have hiI:(i:Int)<(t.limits.length:Int):=by omega
  obtain⟨r1,r2,r3,r4⟩:=eL (H.ok x (gM9 hx))
  have hk:(kd=2∧all=[(0,bX t.kind)])∨kd=3:=by
   rcases hof with⟨_,a,b⟩ | ⟨_,a,_⟩
   ·exact .inl ⟨a,b⟩
   ·exact .inr a
  have sub:x.k≠2→x.k≠3→∀k,k<x.args.length→In2 (seL t.limits kd all n (aJ x k))∧PSp prog 92 [.agg (tyC t),.one (.t (I ((aJ x k:Nat):Int))),.one (.t (.bool of))] (.one (.t (spans (seL t.limits kd all n (aJ x k))))):=fun n2 n3 k hk'=>by
   obtain⟨m1,m2,m3⟩:=dG N hk';have:=H.eq i x hx hQ _ m1;rw[if_neg n2,if_neg n3]at this;obtain⟨a,b⟩:=pW H kd all hA hk n _ (by omega) (by omega) this;exact⟨by rw[a];exact b,ih _ (by omega) (by omega) this⟩
  obtain⟨R0,hR0⟩:∃ R,seL t.limits kd all (n+1) i=R:=⟨_,rfl⟩;rw[hR0];refine k92.aI (by simp) (by simp[D.closed,A.closed]) rfl ?_;rcases eqCases x.k 2 with k2 | k2
  ·have one:=r2 (.inl k2);have pos:0<x.args.length:=by omega
   have a0:=fM N pos;have l0:(0:Int)<(x.args.length:Int):=by omega
   obtain⟨m1,m2,m3⟩:=dG N pos;have hp:=H.eq i x hx hQ _ m1;rw[if_pos k2]at hp;have c:=c90 n _ (by omega) (by omega) (.inl hp);rcases hof with⟨rfl,rfl,rfl⟩ | ⟨rfl,rfl,rfl⟩
   ·have e1:R0=spL t.limits n (aJ x 0):=by rw[←hR0];simp[seL,hx,k2]
    rw[←e1]at c;simp -implicitDefEqProofs [-aA,-gval,hil,hiI,aE hx,Nd.row,k2,-List.getElem_map];refine aD.tree p91 rfl ?_;simp -implicitDefEqProofs [-aA,-gval,pos,aE a0,-List.getElem_map];refine aD.aW c rfl ?_;simp -implicitDefEqProofs [-aA,-gval,aB]
   ·have e1:R0=alpha t.name:=by rw[←hR0];simp[seL,hx,k2]
    subst e1;generalize alpha t.name=al at*;simp -implicitDefEqProofs [-aA,-gval,hil,hiI,aE hx,Nd.row,k2,-List.getElem_map];refine aD.tree p91 rfl ?_;simp -implicitDefEqProofs [-aA,-gval];refine aD.tree p17 rfl ?_;simp -implicitDefEqProofs [-aA,-gval,aB]
  ·rcases eqCases x.k 3 with k3 | k3
   ·have one:=r2 (.inr k3);have pos:0<x.args.length:=by omega
    have a0:=fM N pos;have l0:(0:Int)<(x.args.length:Int):=by omega
    obtain⟨m1,m2,m3⟩:=dG N pos;have hp:=H.eq i x hx hQ _ m1;rw[if_neg k2.2.1,if_pos k3]at hp;obtain⟨s1,s2⟩:=(sP H n (aJ x 0) (by omega) (by omega)).2 hp;have c:=c90 n _ (by omega) (by omega) (.inr hp);rw[←s1]at s2;rcases hof with⟨rfl,rfl,rfl⟩ | ⟨rfl,rfl,rfl⟩
    ·have e1:R0=[(0,bX t.kind)]:=by rw[←hR0];simp[seL,hx,k3]
     subst e1;simp -implicitDefEqProofs [-aA,-gval,hil,hiI,aE hx,Nd.row,k3,-List.getElem_map];refine aD.tree p91 rfl ?_;simp -implicitDefEqProofs [-aA,-gval,aB,spans,spr]
    ·have e1:R0=bI (cE (alpha t.name) (spL t.limits n (aJ x 0))):=by rw[←hR0];simp[seL,hx,k3]
     subst e1;have la:=hA.len;have lb:=s2.len;have hb:=aL0 (alpha t.name) (spL t.limits n (aJ x 0)) (by have:=mY _ _ hA.1 s2.1;omega) (by omega) (by omega) hA.good s2.good;clear la lb hA s1 s2 hR0 sub;generalize alpha t.name=al at*;generalize spL t.limits n (aJ x 0)=S at*;simp -implicitDefEqProofs [-aA,-gval,hil,hiI,aE hx,Nd.row,k3,-List.getElem_map];refine aD.tree p91 rfl ?_;simp -implicitDefEqProofs [-aA,-gval];refine aD.tree p17 rfl ?_;simp -implicitDefEqProofs [-aA,-gval,pos,aE a0,-List.getElem_map];refine aD.aW c rfl ?_;simp -implicitDefEqProofs [-aA,-gval];refine aD.aW hb rfl ?_;simp -implicitDefEqProofs [-aA,-gval,aB]
   ·have sub:=sub k2.2.1 k3.2.1;have k2d:¬ x.k=kd:=by rcases hk with⟨e,_⟩ | e<;>omega
    rcases eqCases x.k 4 with k4 | k4
    ·have two:=r3 (.inl k4);have pos:0<x.args.length:=by omega
     have rC:1<x.args.length:=by omega
     have a0:=fM N pos;have a1:=fM N rC;have l0:(0:Int)<(x.args.length:Int):=by omega
     have l1:(1:Int)<(x.args.length:Int):=by omega
     obtain⟨i0,c0⟩:=sub 0 pos;obtain⟨i1,c1⟩:=sub 1 rC;have qk:¬ 4=kd:=by omega
     have e1:R0=bI (seL t.limits kd all n (aJ x 0)++seL t.limits kd all n (aJ x 1)):=by rw[←hR0];simp[seL,hx,k4,qk]
     have hu:=aL2 _ _ (by have:=i0.len;have:=i1.len;omega) i0.good i1.good;rw[←e1]at hu;clear hR0 e1 sub i0 i1 ih;generalize seL t.limits kd all n (aJ x 0)=A at*;generalize seL t.limits kd all n (aJ x 1)=B at*;rcases hof with⟨rfl,rfl,rfl⟩ | ⟨rfl,rfl,rfl⟩
     all_goals
      simp -implicitDefEqProofs [-aA,-gval,hil,hiI,aE hx,Nd.row,k4,-List.getElem_map];refine aD.tree p91 rfl ?_;simp -implicitDefEqProofs [-aA,-gval,pos,aE a0,-List.getElem_map]
      try(refine aD.tree p17 rfl ?_;simp -implicitDefEqProofs [-aA,-gval,pos,aE a0,-List.getElem_map])
      refine aD.aW c0 rfl ?_;simp -implicitDefEqProofs [-aA,-gval,rC,l1,aE a1,-List.getElem_map];refine aD.aW c1 rfl ?_;simp -implicitDefEqProofs [-aA,-gval];refine aD.aW hu rfl ?_;simp -implicitDefEqProofs [-aA,-gval,aB]
    ·rcases eqCases x.k 5 with k5 | k5
     ·have two:=r3 (.inr (.inl k5));have pos:0<x.args.length:=by omega
      have rC:1<x.args.length:=by omega
      have a0:=fM N pos;have a1:=fM N rC;have l0:(0:Int)<(x.args.length:Int):=by omega
      have l1:(1:Int)<(x.args.length:Int):=by omega
      obtain⟨i0,c0⟩:=sub 0 pos;obtain⟨i1,c1⟩:=sub 1 rC;have qk:¬ 5=kd:=by omega
      have e1:R0=bI (cE (seL t.limits kd all n (aJ x 0)) (seL t.limits kd all n (aJ x 1))):=by rw[←hR0];simp[seL,hx,k5,qk]
      have hu:=aL0 _ _ (by have:=mY _ _ i0.1 i1.1;have:=i0.len;have:=i1.len;omega) (by have:=i0.len;omega) (by have:=i1.len;omega) i0.good i1.good;rw[←e1]at hu;clear hR0 e1 sub i0 i1 ih;generalize seL t.limits kd all n (aJ x 0)=A at*;generalize seL t.limits kd all n (aJ x 1)=B at*;rcases hof with⟨rfl,rfl,rfl⟩ | ⟨rfl,rfl,rfl⟩
      all_goals
       simp -implicitDefEqProofs [-aA,-gval,hil,hiI,aE hx,Nd.row,k5,-List.getElem_map];refine aD.tree p91 rfl ?_;simp -implicitDefEqProofs [-aA,-gval,pos,aE a0,-List.getElem_map]
       try(refine aD.tree p17 rfl ?_;simp -implicitDefEqProofs [-aA,-gval,pos,aE a0,-List.getElem_map])
       refine aD.aW c0 rfl ?_;simp -implicitDefEqProofs [-aA,-gval,rC,l1,aE a1,-List.getElem_map];refine aD.aW c1 rfl ?_;simp -implicitDefEqProofs [-aA,-gval];refine aD.aW hu rfl ?_;simp -implicitDefEqProofs [-aA,-gval,aB]
     ·rcases eqCases x.k 6 with k6 | k6
      ·have pos:=(r4 (by omega) (by omega)).1;have a0:=fM N pos;have l0:(0:Int)<(x.args.length:Int):=by omega
       obtain⟨_,c0⟩:=sub 0 pos;have qk:¬ 6=kd:=by omega
       have e1:R0=seL t.limits kd all n (aJ x 0):=by rw[←hR0];simp[seL,hx,k6,qk]
       rw[←e1]at c0;rcases hof with⟨rfl,rfl,rfl⟩ | ⟨rfl,rfl,rfl⟩
       all_goals
        simp -implicitDefEqProofs [-aA,-gval,hil,hiI,aE hx,Nd.row,k6,-List.getElem_map];refine aD.tree p91 rfl ?_;simp -implicitDefEqProofs [-aA,-gval,pos,aE a0,-List.getElem_map]
        try(refine aD.tree p17 rfl ?_;simp -implicitDefEqProofs [-aA,-gval,pos,aE a0,-List.getElem_map])
        refine aD.aW c0 rfl ?_;simp -implicitDefEqProofs [-aA,-gval,aB]
      ·rcases eqCases x.k 7 with k7 | k7
       ·have pos:=(r4 (by omega) (by omega)).1;have a0:=fM N pos;have l0:(0:Int)<(x.args.length:Int):=by omega
        obtain⟨_,c0⟩:=sub 0 pos;have qk:¬ 7=kd:=by omega
        have e1:R0=seL t.limits kd all n (aJ x 0):=by rw[←hR0];simp[seL,hx,k7,qk]
        rw[←e1]at c0;rcases hof with⟨rfl,rfl,rfl⟩ | ⟨rfl,rfl,rfl⟩
        all_goals
         simp -implicitDefEqProofs [-aA,-gval,hil,hiI,aE hx,Nd.row,k7,-List.getElem_map];refine aD.tree p91 rfl ?_;simp -implicitDefEqProofs [-aA,-gval,pos,aE a0,-List.getElem_map]
         try(refine aD.tree p17 rfl ?_;simp -implicitDefEqProofs [-aA,-gval,pos,aE a0,-List.getElem_map])
         refine aD.aW c0 rfl ?_;simp -implicitDefEqProofs [-aA,-gval,aB]
       ·have e1:R0=all:=by rw[←hR0];simp[seL,hx,k2d,k4,k5,k6,k7]
        clear hR0 sub ih;subst e1;rcases hof with⟨rfl,rfl,rfl⟩ | ⟨rfl,rfl,rfl⟩
        ·simp -implicitDefEqProofs [-aA,-gval,hil,hiI,aE hx,Nd.row,-List.getElem_map];refine aD.tree p91 rfl ?_;simp -implicitDefEqProofs [-aA,-gval,k2,k3,k4,k5,k6,k7,aB,spans,spr]
        ·generalize alpha t.name=al at*;simp -implicitDefEqProofs [-aA,-gval,hil,hiI,aE hx,Nd.row,-List.getElem_map];refine aD.tree p91 rfl ?_;simp -implicitDefEqProofs [-aA,-gval];refine aD.tree p17 rfl ?_;simp -implicitDefEqProofs [-aA,-gval,k2,k3,k4,k5,k6,k7,aB]
end
section
attribute [local simp] bD aN aS aG aU aO aZ tyC fdC vlC ndC aL D.cK D.pt
def lW(t:Ty):List Sp:=if t.limits.length==0 then[(0,bX t.kind)] else seR t.limits 2 [(0,bX t.kind)] t.limits.length (t.limits.length - 1)
def lJ(t:Ty):List Sp:=if t.limits.length==0 then alpha t.name else seR t.limits 3 (alpha t.name) t.limits.length (t.limits.length - 1)
def lK(t:Ty):List Sp:=if t.limits.length==0 then mZ t else nuR t.limits t.limits.length (cJ t.limits)
attribute [local simp] c93 in
theorem P93(t:Ty)(hl:t.limits.length≤40)(c:t.limits.length≠0→PSp prog 134 [.one (.t (aG t.limits)),.one (.t (I ((t.limits.length - 1:Nat):Int))),.agg [.t (I 2),.t (spans [(0,bX t.kind)])]] (.one (.t (spans (seR t.limits 2 [(0,bX t.kind)] t.limits.length (t.limits.length - 1)))))):
  PSp prog 93 [.agg (tyC t)] (.one (.t (spans (lW t)))):=by
 have aK0:PSp prog 133 [.one (.t (I t.kind))] (.one (.t (I (bX t.kind)))):=aQK t.kind;refine k93.aI (by simp) (by simp[D.closed,A.closed]) rfl ?_
 by_cases z:t.limits.length=0
 ·have zl:t.limits=[]:=List.length_eq_zero_iff.1 z;have e:lW t=[(0,bX t.kind)]:=by simp[lW,z]
  rw[e];simp -implicitDefEqProofs [-aA,-gval,zl];refine aD.tree aK0 rfl ?_;simp -implicitDefEqProofs [-aA,-gval,aB,spans,spr]
 ·have zI:((t.limits.length:Int)==0)=false:=by simpa using z
  have hw:IntKind.i64.wrap ((t.limits.length:Int) - 1)=((t.limits.length - 1:Nat):Int):=by rw[wrap_i64 (by omega) (by omega)];omega
  have e:lW t=seR t.limits 2 [(0,bX t.kind)] t.limits.length (t.limits.length - 1):=by simp[lW,z]
  have c:=c z;rw[←e]at c;rw[show spans [(0,bX t.kind)]= .rows 2 [[I 0,I (bX t.kind)]] from rfl]at c;generalize lW t=R at*;generalize t.limits.length - 1=m at*;have zl:¬ t.limits=[]:=fun e=>z (by rw[e];rfl)
  simp -implicitDefEqProofs [-aA,-gval];refine aD.tree aK0 rfl ?_;simp -implicitDefEqProofs [-aA,-gval,zl,hw];refine aD.pure c ?_ ?_ ?_
  ·simp
  ·simp
  simp -implicitDefEqProofs [-aA,-gval,aB]
attribute [local simp] c97 in
theorem P97(t:Ty)(hl:t.limits.length≤40)(c:t.limits.length≠0→PSp prog 134 [.one (.t (aG t.limits)),.one (.t (I ((t.limits.length - 1:Nat):Int))),.agg [.t (I 3),.t (spans (alpha t.name))]] (.one (.t (spans (seR t.limits 3 (alpha t.name) t.limits.length (t.limits.length - 1)))))):
  PSp prog 97 [.agg (tyC t)] (.one (.t (spans (lJ t)))):=by
 have p18:=P18 t.name;refine k97.aI (by simp) (by simp[D.closed,A.closed]) rfl ?_
 by_cases z:t.limits.length=0
 ·have zl:t.limits=[]:=List.length_eq_zero_iff.1 z;have e:lJ t=alpha t.name:=by simp[lJ,z]
  rw[e];simp -implicitDefEqProofs [-aA,-gval,zl];refine aD.tree p18 rfl ?_;simp -implicitDefEqProofs [-aA,-gval,aB]
 ·have zI:((t.limits.length:Int)==0)=false:=by simpa using z
  have hw:IntKind.i64.wrap ((t.limits.length:Int) - 1)=((t.limits.length - 1:Nat):Int):=by rw[wrap_i64 (by omega) (by omega)];omega
  have e:lJ t=seR t.limits 3 (alpha t.name) t.limits.length (t.limits.length - 1):=by simp[lJ,z]
  have c:=c z;rw[←e]at c;generalize lJ t=R at*;generalize alpha t.name=al at*;generalize t.limits.length - 1=m at*;simp -implicitDefEqProofs [-aA,-gval,zI,hw];refine aD.aW p18 rfl ?_;simp -implicitDefEqProofs [-aA,-gval];refine aD.aW c rfl ?_;simp -implicitDefEqProofs [-aA,-gval,aB]
attribute [local simp] c94 in
theorem P94(t:Ty){bg:List Nat}(T:eC t.limits bg)(hok:∀ x∈t.limits,x.ok=true)(hl:t.limits.length≤20)(c31:t.limits.length=0→PSp prog 31 [.agg (tyC t)] (.one (.t (spans (mZ t)))))
  (c83:t.limits.length≠0→PSp prog 83 [.one (.t (aG t.limits)),.one (.t (I ((cJ t.limits:Nat):Int)))] (.one (.t (spans (nuR t.limits t.limits.length (cJ t.limits)))))):
  PSp prog 94 [.agg (tyC t)] (.one (.t (spans (lK t)))):=by
 refine k94.aI (by simp) (by simp[D.closed,A.closed]) rfl ?_
 by_cases z:t.limits.length=0
 ·have e:lK t=mZ t:=by simp[lK,z]
  have zI:((t.limits.length:Int)==0)=true:=by simpa using z
  have c:=c31 z;rw[←e]at c;generalize lK t=R at*;simp -implicitDefEqProofs [-aA,-gval,zI];refine aD.tree c rfl ?_;simp -implicitDefEqProofs [-aA,-gval,aB]
 ·have zI:((t.limits.length:Int)==0)=false:=by simpa using z
  have e:lK t=nuR t.limits t.limits.length (cJ t.limits):=by simp[lK,z]
  have c:=c83 z;have p78:=P78 T hok hl z;rw[←e]at c;generalize lK t=R at*;generalize cJ t.limits=r at*;simp -implicitDefEqProofs [-aA,-gval,zI];refine aD.aW p78 rfl ?_;simp -implicitDefEqProofs [-aA,-gval];refine aD.aW c rfl ?_;simp -implicitDefEqProofs [-aA,-gval,aB]
def pG(l:List Sp):Sp×Bool:=if l.length==0 then((0,0),false)else(((l.headD (0,0)).1,(l.getD (l.length - 1) (0,0)).2),true)
attribute [local simp] c95 in
theorem P95(l:List Sp)(hs:l.length≤1000):PSp prog 95 [.one (.t (spans l))] (.tup [.agg (cell (pG l).1),.one (.t (.bool (pG l).2))]):=by
 refine k95.aI (by simp) rfl rfl ?_
 by_cases z:l.length=0
 ·have zl:l=[]:=List.length_eq_zero_iff.1 z;subst zl;simp -implicitDefEqProofs [-aA,-gval,pG,spans,cell,aB]
 ·obtain⟨m,hm⟩:∃ m:Nat,l.length=m+1:=⟨l.length - 1,by omega⟩;obtain⟨x,hx⟩:∃ x,l[0]? =some x:=⟨_,gE9 (by omega)⟩;obtain⟨y,hy⟩:∃ y,l[m]? =some y:=⟨_,gE9 (by omega)⟩
  have e:pG l=((x.1,y.2),true):=by
   have e1:l.headD (0,0)=x:=by
    cases l with
    | nil=>cases hx
    | cons a r=>simpa using hx
   have e2:l.getD (l.length - 1) (0,0)=y:=by
    rw[hm,Nat.add_sub_cancel,List.getD_eq_getElem?_getD,hy];rfl
   have e3:(l.length==0)=false:=by simpa using z
   rw[pG,e1,e2,e3];rfl
  rw[e];have zI:((l.length:Int)==0)=false:=by simpa using z
  have h0:0<l.length:=by omega
  have h0I:(0:Int)<(l.length:Int):=by omega
  have hw:IntKind.i64.wrap ((l.length:Int) - 1)=(m:Int):=by rw[wrap_i64 (by omega) (by omega)];omega
  have hmI:(m:Int)<(l.length:Int):=by omega
  have hmN:m<l.length:=by omega
  simp -implicitDefEqProofs [-aA,-gval,zI,spans,hw,h0,hmI,hmN,aE hx,aE hy,spr,cell,aB,-List.getElem_map]
attribute [local simp] c96 in
theorem P96(t:Ty)(hl:t.limits.length≤40):PSp prog 96 [.agg (tyC t)] (.one (.t (.bool (gK t.limits).2))):=by
 refine k96.aI (by simp) (by simp[D.closed,A.closed]) rfl ?_
 by_cases z:t.limits.length=0
 ·have zl:t.limits=[]:=List.length_eq_zero_iff.1 z;simp -implicitDefEqProofs [-aA,-gval,zl,gK,aB]
 ·obtain⟨m,hm⟩:∃ m:Nat,t.limits.length=m+1:=⟨t.limits.length - 1,by omega⟩;obtain⟨x,hx⟩:∃ x,t.limits[m]? =some x:=⟨_,gE9 (by omega)⟩;have zI:0<(t.limits.length:Int):=by omega
  have zN:0<t.limits.length:=by omega
  have zl:¬ t.limits=[]:=fun e=>z (by rw[e];rfl)
  have hw:IntKind.i64.wrap ((t.limits.length:Int) - 1)=(m:Int):=by rw[wrap_i64 (by omega) (by omega)];omega
  have hmI:(m:Int)<(t.limits.length:Int):=by omega
  have hmN:m<t.limits.length:=by omega
  have e:(gK t.limits).2=(x.k==7):=by
   have:(t.limits.length==0)=false:=by simpa using z
   rw[gK,this,hm,Nat.add_sub_cancel];simp only[hx];rfl
  obtain⟨b,eb⟩:∃ b,(x.k==7)=b:=⟨_,rfl⟩;rw[e,eb];simp -implicitDefEqProofs [-aA,-gval,zN,hw,hmI,hmN,aE hx,Nd.row,eb,aB,-List.getElem_map]
end
section
attribute [local simp] bD aN aS aG aU aO aZ tyC fdC vlC ndC aL D.cK D.pt
def pH(k:Int):Bool:=(k==6||k==4||k==5)||(k==11||k==12)
def aC3(has:Bool)(t:Ty)(l:List Sp):Sp×Bool×Int:=if has then gL t l else((0,0),false,4)
def oE(t:Ty):List Sp:=if t.limits.length==0 then[(0,bX t.kind)] else seL t.limits 2 [(0,bX t.kind)] t.limits.length (t.limits.length - 1)
def hZ(t:Ty):Sp×Bool×Int:=if(dF t).2 != 0 then((0,0),false,(dF t).2)else aC3 (pH t.kind) t (oE t)
theorem aC4(e:Int)(k:Bool):bU [e,if k then 0 else 4]=if e != 0 then e else if k then 0 else 4:=by
 simp only[bW,cZ]
 by_cases q:e=0
 ·cases k<;>simp[q]
 ·simp[q]
attribute [local simp] c44 in
theorem P44(t:Ty)(hn:t.narrow=true)(hs:(dF t).2=0→(oE t).length≤1000)(c92:(dF t).2=0→pH t.kind=true→t.limits.length≠0→PSp prog 92 [.agg (tyC t),.one (.t (I ((t.limits.length - 1:Nat):Int))),.one (.t (.bool false))] (.one (.t (spans (oE t))))):
  PSp prog 44 [.agg (tyC t)] (.tup [.agg (cell (hZ t).1),.one (.t (.bool (hZ t).2.1)),.one (.t (I (hZ t).2.2))]):=by
 have p80:=P80 t hn;have p60:=P60 t.kind;have p61:=P61 t.kind;have p91:=P91 t
 have right:(dF t).2=0→∃bg,eC t.limits bg∧(∀x∈t.limits,x.ok=true)∧t.limits.length≤20:=fun h=>by
  have ht:=dP t (lI h).1;obtain⟨hlen,bg,T⟩:=bL ht;exact⟨bg,T,iR ht,hlen⟩
 obtain⟨R,hR⟩:∃ R,hZ t=R:=⟨_,rfl⟩;rw[hR];rw[hZ]at hR;obtain⟨a,ea⟩:∃ a,(t.kind==6||t.kind==4||t.kind==5)=a:=⟨_,rfl⟩;obtain⟨b,eb⟩:∃ b,(t.kind==11||t.kind==12)=b:=⟨_,rfl⟩;have ek:pH t.kind=(a||b):=by rw[pH,ea,eb]
 rw[ek]at hR c92;rw[ea]at p60;rw[eb]at p61;generalize (dF t).2=e at*;have p79:=P79 [e,if(a||b)then 0 else 4] (by simp[short]);rw[aC4]at p79;have p81:=P81 (a||b) 4;obtain⟨k,hk⟩:∃ k,(a||b)=k:=⟨_,rfl⟩;rw[hk]at p79 p81 hR c92;refine k44.aI (by simp) (by simp[D.closed,A.closed]) rfl ?_
 have tail:∀ E,(if e != 0 then e else if k then 0 else 4)=E→(E=0→e=0∧k=true)∧(E≠0→R=((0,0),false,E)):=fun E hE=>by
  by_cases q:e=0
  ·cases k
   ·simp[q]at hE;subst hE;refine⟨fun h=>(by cases h),fun _=>?_⟩;rw[←hR,q];rfl
   ·simp[q]at hE;subst hE;exact⟨fun _=>(⟨q,rfl⟩:e=0∧true=true),fun h=>absurd rfl h⟩
  ·have qb:(e != 0)=true:=by simpa using q
   rw[if_pos qb]at hE hR;subst hE;exact⟨fun h=>absurd h q,fun _=>hR.symm⟩
 obtain⟨E,hE⟩:∃ E,(if e != 0 then e else if k then 0 else 4)=E:=⟨_,rfl⟩;obtain⟨t1,t2⟩:=tail E hE;rw[hE]at p79;clear tail;simp -implicitDefEqProofs [-aA,-gval];refine aD.aW p80 rfl ?_;simp -implicitDefEqProofs [-aA,-gval];refine aD.aW p60 rfl ?_;cases a
 all_goals
  first
   | (have hb:b=k:=(by rw[←hk];rfl);subst hb;simp -implicitDefEqProofs [-aA,-gval];refine aD.aW p61 rfl ?_)
   | (have hb:true=k:=(by rw[←hk];rfl);subst hb)
  simp -implicitDefEqProofs [-aA,-gval];refine aD.aW p81 rfl ?_;simp -implicitDefEqProofs [-aA,-gval];refine aD.draw p79 (by simp) (by simp) (.inl rfl) ?_;rcases eqCases E 0 with z | z
  ·obtain⟨z1,z2⟩:=t1 z;obtain⟨bg,T,hok,hl⟩:=right z1;have hR:R=gL t (oE t):=by rw[←hR,z1,z2];rfl
   by_cases q:t.limits.length=0
   ·have ql:t.limits=[]:=List.length_eq_zero_iff.1 q
    have hR:R=((0,bX t.kind),false,0):=by
     have:(t.limits.length==0)=true:=by simpa using q
     rw[hR,oE,this];simp[gL,gK,q]
    subst hR;simp only[tyC,aG,ql,List.map_nil]at p91;simp -implicitDefEqProofs [-aA,-gval,z,ql];refine aD.tree p91 rfl ?_;simp -implicitDefEqProofs [-aA,-gval,cell,aB]
   ·have c:=c92 z1 z2 q;have p89:=P89 t T hok hl (oE t) (hs z1);rw[←hR]at p89;generalize oE t=S at*;have ql:¬ t.limits=[]:=fun e=>q (by rw[e];rfl)
    have hw:IntKind.i64.wrap ((t.limits.length:Int) - 1)=((t.limits.length - 1:Nat):Int):=by rw[wrap_i64 (by omega) (by omega)];omega
    generalize t.limits.length - 1=m at*;simp -implicitDefEqProofs [-aA,-gval,z,ql,hw];refine aD.aW c rfl ?_;simp -implicitDefEqProofs [-aA,-gval];refine aD.aW p89 rfl ?_;simp -implicitDefEqProofs [-aA,-gval,cell,aB]
  ·have hR:=t2 z.2.1;subst hR;simp -implicitDefEqProofs [-aA,-gval,z,cell,aB]
def nC(t:Ty):List Sp:=if t.limits.length==0 then alpha t.name else seL t.limits 3 (alpha t.name) t.limits.length (t.limits.length - 1)
def lL(t:Ty):List Sp×Int:=if(dF t).2 != 0 then([],(dF t).2)else if t.kind==6 then(if(nC t).length==0 then([],23)else(nC t,0))else([],4)
attribute [local simp] c45 in
theorem P45(t:Ty)(hn:t.narrow=true)(c92:(dF t).2=0→t.kind=6→t.limits.length≠0→PSp prog 92 [.agg (tyC t),.one (.t (I ((t.limits.length - 1:Nat):Int))),.one (.t (.bool true))] (.one (.t (spans (nC t))))):
  PSp prog 45 [.agg (tyC t)] (.tup [.one (.t (spans (lL t).1)),.one (.t (I (lL t).2))]):=by
 have p80:=P80 t hn;have p17:=P17 t.name;have hlen:(dF t).2=0→t.limits.length≤20:=fun h=>(bL (dP t (lI h).1)).1
 obtain⟨R,hR⟩:∃ R,lL t=R:=⟨_,rfl⟩;rw[hR];rw[lL]at hR;obtain⟨k,hk⟩:∃ k,(t.kind==6)=k:=⟨_,rfl⟩;rw[hk]at hR;have c92:(dF t).2=0→k=true→_:=fun h e=>c92 h (by rw[e]at hk;simpa using hk)
 generalize (dF t).2=e at*;generalize (if fG t.name then(0:Int)else 7)=e17 at*;have p79:=P79 [e,if k then 0 else 4] (by simp[short]);rw[aC4]at p79;have p81:=P81 k 4;obtain⟨E,hE⟩:∃ E,(if e != 0 then e else if k then 0 else 4)=E:=⟨_,rfl⟩
 obtain⟨t1,t2⟩:(E=0→e=0∧k=true)∧(E≠0→R=([],E)):=by
  by_cases q:e=0
  ·cases k
   ·simp[q]at hE;subst hE;refine⟨fun h=>(by cases h),fun _=>?_⟩;rw[←hR,q];rfl
   ·simp[q]at hE;subst hE;exact⟨fun _=>(⟨q,rfl⟩:e=0∧true=true),fun h=>absurd rfl h⟩
  ·have qb:(e != 0)=true:=by simpa using q
   rw[if_pos qb]at hE hR;subst hE;exact⟨fun h=>absurd h q,fun _=>hR.symm⟩
 rw[hE]at p79;refine k45.aI (by simp) (by simp[D.closed,A.closed]) rfl ?_;simp -implicitDefEqProofs [-aA,-gval];refine aD.aW p80 rfl ?_;simp -implicitDefEqProofs [-aA,-gval,hk];refine aD.aW p81 rfl ?_;simp -implicitDefEqProofs [-aA,-gval];refine aD.draw p79 (by simp) (by simp) (.inl rfl) ?_;rcases eqCases E 0 with z | z
 ·obtain⟨z1,z2⟩:=t1 z;have hl:=hlen z1;have hR:R=if(nC t).length==0 then([],23)else(nC t,0):=by rw[←hR,z1,z2];rfl
  by_cases q:t.limits.length=0
  ·have ql:t.limits=[]:=List.length_eq_zero_iff.1 q;have e1:nC t=alpha t.name:=by simp[nC,q]
   rw[e1]at hR;generalize alpha t.name=S at*
   by_cases s0:S.length=0
   ·have sl:S=[]:=List.length_eq_zero_iff.1 s0;subst sl;subst hR;simp -implicitDefEqProofs [-aA,-gval,z];refine aD.tree p17 rfl ?_;simp -implicitDefEqProofs [-aA,-gval,ql,spans,aB]
   ·have sb:(S.length==0)=false:=by simpa using s0
    have sl:¬ S=[]:=fun e=>s0 (by rw[e];rfl)
    rw[sb]at hR;subst hR;simp -implicitDefEqProofs [-aA,-gval,z];refine aD.tree p17 rfl ?_;simp -implicitDefEqProofs [-aA,-gval,ql,spans,sl,aB]
  ·have c:=c92 z1 z2 q;have ql:0<t.limits.length:=by omega
   have ql':¬ t.limits=[]:=fun e=>q (by rw[e];rfl)
   have hw:IntKind.i64.wrap ((t.limits.length:Int) - 1)=((t.limits.length - 1:Nat):Int):=by rw[wrap_i64 (by omega) (by omega)];omega
   generalize nC t=S at*;generalize t.limits.length - 1=m at*
   by_cases s0:S.length=0
   ·have sl:S=[]:=List.length_eq_zero_iff.1 s0;subst sl;subst hR;simp -implicitDefEqProofs [-aA,-gval,z];refine aD.tree p17 rfl ?_;simp -implicitDefEqProofs [-aA,-gval,ql,ql',hw];refine aD.tree c rfl ?_;simp -implicitDefEqProofs [-aA,-gval,spans,aB]
   ·have sb:(S.length==0)=false:=by simpa using s0
    have sl:¬ S=[]:=fun e=>s0 (by rw[e];rfl)
    rw[sb]at hR;subst hR;simp -implicitDefEqProofs [-aA,-gval,z];refine aD.tree p17 rfl ?_;simp -implicitDefEqProofs [-aA,-gval,ql,ql',hw];refine aD.tree c rfl ?_;simp -implicitDefEqProofs [-aA,-gval,spans,sl,aB]
 ·have hR:=t2 z.2.1;subst hR;simp -implicitDefEqProofs [-aA,-gval,z,spans,aB]
end
section
attribute [local simp] bD aN aS aG aU aO aZ tyC fdC vlC ndC aL D.cK D.pt
theorem aE7(t:Ty)(l:List Sp):(l=[]∧gL t l=((0,0),false,23)∧pG l=((0,0),false))∨(l≠[]∧gL t l=((pG l).1,(gK t.limits).2,0)∧(pG l).2=true):=by
 by_cases q:l=[]
 ·exact .inl ⟨q,by rw[q];rfl,by rw[q];rfl⟩
 ·have:(l.length==0)=false:=by simpa using q
  exact .inr ⟨q,by rw[gL,pG,this];rfl,by rw[pG,this];rfl⟩
attribute [local simp] c47 in
theorem P47(t:Ty)(hl:t.limits.length≤40)(has:Bool)(what:Int)(l:List Sp)(hs:l.length≤1000)(c93:has=true→what=1→PSp prog 93 [.agg (tyC t)] (.one (.t (spans l))))(c94:has=true→¬what=1→PSp prog 94 [.agg (tyC t)] (.one (.t (spans l)))):
  PSp prog 47 [.agg (cell (aC3 has t l).1),.agg ([.t (.bool has),.t (.bool (aC3 has t l).2.1),.t (I (aC3 has t l).2.2)]++tyC t++[.t (I what)])] (.one (.t (.bool true))):=by
 have p95:=P95 l hs;have p96:=P96 t hl;have hc:=aE7 t l;refine k47.aI (by simp) (by simp[D.closed,A.closed,cell]) rfl ?_;cases has
 ·simp -implicitDefEqProofs [-aA,-gval,aC3,cell,aB]
 ·have e:aC3 true t l=gL t l:=rfl;rw[e];generalize gL t l=w at*;generalize pG l=hu at*;generalize (gK t.limits).2=o at*;obtain⟨⟨w1,w2⟩,w3,w4⟩:=w;obtain⟨⟨u1,u2⟩,u3⟩:=hu;simp only[cell]at p95;rcases eqCases what 1 with q | q
  ·have c:=c93 rfl q;rcases hc with⟨rfl,h1,h2⟩ | ⟨hne,h1,h2⟩
   ·simp only[Prod.mk.injEq]at h1 h2;obtain⟨⟨rfl,rfl⟩,rfl,rfl⟩:=h1;obtain⟨⟨rfl,rfl⟩,rfl⟩:=h2;simp -implicitDefEqProofs [-aA,-gval,q,cell];refine aD.tree c rfl ?_;simp -implicitDefEqProofs [-aA,-gval];refine aD.tree p95 rfl ?_;simp -implicitDefEqProofs [-aA,-gval,aB]
   ·simp only[Prod.mk.injEq]at h1 h2;obtain⟨⟨rfl,rfl⟩,rfl,rfl⟩:=h1;subst h2;simp -implicitDefEqProofs [-aA,-gval,q,cell];refine aD.tree c rfl ?_;simp -implicitDefEqProofs [-aA,-gval];refine aD.tree p95 rfl ?_;simp -implicitDefEqProofs [-aA,-gval];refine aD.aW p96 rfl ?_;simp -implicitDefEqProofs [-aA,-gval,aB]
  ·have c:=c94 rfl q.2.1;rcases hc with⟨rfl,h1,h2⟩ | ⟨hne,h1,h2⟩
   ·simp only[Prod.mk.injEq]at h1 h2;obtain⟨⟨rfl,rfl⟩,rfl,rfl⟩:=h1;obtain⟨⟨rfl,rfl⟩,rfl⟩:=h2;simp -implicitDefEqProofs [-aA,-gval,q,cell];refine aD.tree c rfl ?_;simp -implicitDefEqProofs [-aA,-gval];refine aD.tree p95 rfl ?_;simp -implicitDefEqProofs [-aA,-gval,aB]
   ·simp only[Prod.mk.injEq]at h1 h2;obtain⟨⟨rfl,rfl⟩,rfl,rfl⟩:=h1;subst h2;simp -implicitDefEqProofs [-aA,-gval,q,cell];refine aD.tree c rfl ?_;simp -implicitDefEqProofs [-aA,-gval];refine aD.tree p95 rfl ?_;simp -implicitDefEqProofs [-aA,-gval];refine aD.aW p96 rfl ?_;simp -implicitDefEqProofs [-aA,-gval,aB]
def sQ(is6:Bool)(l:List Sp):List Sp×Int:=if is6 then(if l.length==0 then([],23)else(l,0))else([],4)
attribute [local simp] c48 in
theorem P48(t:Ty)(l:List Sp)(hs:l.length≤1000)(c97:t.kind=6→PSp prog 97 [.agg (tyC t)] (.one (.t (spans l)))):
  PSp prog 48 [.one (.t (spans (sQ (t.kind==6) l).1)),.one (.t (I (sQ (t.kind==6) l).2)),.agg (tyC t)] (.one (.t (.bool true))):=by
 have p20:=P20 l l (by omega);simp only[decide_true]at p20;refine k48.aI (by simp) (by simp[D.closed,A.closed]) rfl ?_;rcases eqCases t.kind 6 with q | q
 ·have c:=c97 q
  by_cases s0:l=[]
  ·subst s0;have e:sQ (t.kind==6) []=([],23):=by simp[sQ,q]
   rw[e];simp only[tyC,q]at c;simp -implicitDefEqProofs [-aA,-gval,q];refine aD.tree c rfl ?_;simp -implicitDefEqProofs [-aA,-gval,spans,aB]
  ·have e:sQ (t.kind==6) l=(l,0):=by simp[sQ,q,s0]
   rw[e];simp only[tyC,q]at c;simp -implicitDefEqProofs [-aA,-gval,q];refine aD.tree c rfl ?_;simp -implicitDefEqProofs [-aA,-gval,spans,s0];refine aD.tree p20 rfl ?_;simp -implicitDefEqProofs [-aA,-gval,aB]
 ·have e:sQ (t.kind==6) l=([],4):=by simp[sQ,q]
  rw[e];simp -implicitDefEqProofs [-aA,-gval,q,spans,aB]
end
section
attribute [local simp] bD aN aS aG aU aO aZ tyC fdC vlC ndC aL D.cK D.pt
theorem aE8{t:Ty}{bg:List Nat}{P3 P4 Q:Nat→Prop}(H:aID t bg P3 P4 Q):
  (∀n i,i<n→i<t.limits.length→P3 i∨P4 i→PSp prog 90 [.one (.t (aG t.limits)),.one (.t (I ((i:Nat):Int)))] (.one (.t (spans (spL t.limits n i)))))∧
  (∀n i,i<n→i<t.limits.length→P3 i∨P4 i→PSp prog 83 [.one (.t (aG t.limits)),.one (.t (I ((i:Nat):Int)))] (.one (.t (spans (nuR t.limits n i))))):=by
 have key:∀ n i,i<n→i<t.limits.length→P3 i∨P4 i→spL t.limits n i=nuR t.limits n i∧In2 (nuR t.limits n i):=fun n i h1 h2 h3=>by
  obtain⟨a,b⟩:=sP H n i h1 h2;rcases h3 with h | h
  ·exact⟨(a h).1,(a h).2.1⟩
  ·exact b h
 have txt:∀ p x,t.limits[p]? =some x→P3 p∨P4 p→x.k=1→x.s.size≤200:=fun p x hx hp k1=>by
  rcases hp with h | h
  ·exact absurd k1 (H.n3 p x hx h).1
  ·exact((H.n4 p x hx h).2.2.2 k1).1
 have edge:∀ p x,t.limits[p]? =some x→P3 p∨P4 p→∀c:Nat,(c:Int)∈x.args→P3 c∨P4 c:=fun p x hx hp c hc=>by
  rcases hp with h | h
  ·exact .inl (H.e3 p x hx h c hc)
  ·exact .inr (H.e4 p x hx h c hc)
 constructor
 ·exact Q90 ⟨H.tree,H.few,H.ok,fun n i h1 h2 h3=>by
   obtain⟨a,b⟩:=key n i h1 h2 h3;have:=b.len;rw[a]
   exact⟨b.1,b.good,by omega⟩,txt,edge⟩
 ·exact Q83 ⟨H.tree,H.few,H.ok,fun n i h1 h2 h3=>by
   obtain⟨a,b⟩:=key n i h1 h2 h3;have:=b.len
   exact⟨b.1,b.good,by omega⟩,txt,edge⟩
theorem aL7(k:Int):In2 [(0,bX k)]:=by
 have:=aAV k;exact⟨⟨this.1,by simp,trivial⟩,by simp;omega⟩
theorem nW{t:Ty}(h:(dF t).2=0):oE t=lW t∧In2 (lW t)∧(t.limits.length≠0→PSp prog 92 [.agg (tyC t),.one (.t (I ((t.limits.length - 1:Nat):Int))),.one (.t (.bool false))] (.one (.t (spans (oE t)))))∧PSp prog 93 [.agg (tyC t)] (.one (.t (spans (lW t)))):=by
 by_cases q:t.limits.length=0
 ·have e:(t.limits.length==0)=true:=by simpa using q
  refine⟨by rw[oE,lW,e];rfl,by rw[lW,e];exact aL7 _,fun h=>absurd q h,P93 t (by omega) fun h=>absurd q h⟩
 ·obtain⟨bg,P3,P4,Q,H⟩:=aAW h q;obtain⟨c90,c83⟩:=aE8 H;have hA:=aL7 t.kind;have hl:=H.few;obtain⟨s1,s2⟩:=pW H 2 _ hA (.inl ⟨rfl,rfl⟩) t.limits.length (t.limits.length - 1) (by omega) (by omega) H.last;have e:(t.limits.length==0)=false:=by simpa using q
  have e1:oE t=seL t.limits 2 [(0,bX t.kind)] t.limits.length (t.limits.length - 1):=by rw[oE,e];rfl
  have e2:lW t=seR t.limits 2 [(0,bX t.kind)] t.limits.length (t.limits.length - 1):=by rw[lW,e];rfl
  refine⟨by rw[e1,e2,s1],by rw[e2];exact s2,fun _=>?_,P93 t (by omega) fun _=>aSY H 2 _ hA (.inl ⟨rfl,rfl⟩) c83 _ _ (by omega) (by omega) H.last⟩;rw[e1];exact P92 H false 2 _ (.inl ⟨rfl,rfl,rfl⟩) hA c90 _ _ (by omega) (by omega) H.last
theorem rD{t:Ty}(h:(dF t).2=0):nC t=lJ t∧In2 (lJ t)∧(t.limits.length≠0→PSp prog 92 [.agg (tyC t),.one (.t (I ((t.limits.length - 1:Nat):Int))),.one (.t (.bool true))] (.one (.t (spans (nC t)))))∧PSp prog 97 [.agg (tyC t)] (.one (.t (spans (lJ t)))):=by
 by_cases q:t.limits.length=0
 ·have e:(t.limits.length==0)=true:=by simpa using q
  refine⟨by rw[nC,lJ,e];rfl,by rw[lJ,e];exact aE6 _,fun h=>absurd q h,P97 t (by omega) fun h=>absurd q h⟩
 ·obtain⟨bg,P3,P4,Q,H⟩:=aAW h q;obtain⟨c90,c83⟩:=aE8 H;have hA:=aE6 t.name;have hl:=H.few;obtain⟨s1,s2⟩:=pW H 3 _ hA (.inr rfl) t.limits.length (t.limits.length - 1) (by omega) (by omega) H.last;have e:(t.limits.length==0)=false:=by simpa using q
  have e1:nC t=seL t.limits 3 (alpha t.name) t.limits.length (t.limits.length - 1):=by rw[nC,e];rfl
  have e2:lJ t=seR t.limits 3 (alpha t.name) t.limits.length (t.limits.length - 1):=by rw[lJ,e];rfl
  refine⟨by rw[e1,e2,s1],by rw[e2];exact s2,fun _=>?_,P97 t (by omega) fun _=>aSY H 3 _ hA (.inr rfl) c83 _ _ (by omega) (by omega) H.last⟩;rw[e1];exact P92 H true 3 _ (.inr ⟨rfl,rfl,rfl⟩) hA c90 _ _ (by omega) (by omega) H.last
theorem kN{t:Ty}(h:(dF t).2=0)(hk:t.kind=2):(if t.limits.length==0 then kA t else spL t.limits t.limits.length (cJ t.limits))=lK t∧(lK t).length≤1000∧
  (t.limits.length=0→PSp prog 82 [.agg (tyC t)] (.one (.t (spans (kA t)))))∧
  (t.limits.length≠0→(spL t.limits t.limits.length (cJ t.limits)).length≤1000∧PSp prog 90 [.one (.t (aG t.limits)),.one (.t (I ((cJ t.limits:Nat):Int)))] (.one (.t (spans (spL t.limits t.limits.length (cJ t.limits))))))∧
  PSp prog 94 [.agg (tyC t)] (.one (.t (spans (lK t)))):=by
 have ht:=dP t (lI h).1;obtain⟨hlen,bg',T'⟩:=bL ht
 by_cases q:t.limits.length=0
 ·have e:(t.limits.length==0)=true:=by simpa using q
  have e1:kA t=jP:=by simp[kA,q,hk]
  have e2:lK t=jP:=by simp[lK,mZ,q,hk]
  refine⟨by rw[e,e2];exact e1,by rw[e2];simp[jP],fun _=>P82 t (by omega) fun h=>absurd q h,fun h=>absurd q h,P94 t T' (iR ht) hlen (fun _=>P31 t (by omega) (fun h=>absurd q h) fun h=>absurd q h) fun h=>absurd q h⟩
 ·obtain⟨bg,P,Q,T,hl,hok,hn,he,_,_,hP,_⟩:=aFX h q (.inl hk);have bP:=aKX T hok P hn he;have hr:=aE2 T hok q
  have pr:P (cJ t.limits):=by
   have hx:t.limits[t.limits.length - 1]? =some (t.limits[t.limits.length - 1]'(by omega)):=gE9 _;generalize t.limits[t.limits.length - 1]'(by omega)=x at hx;rw[cJ,hx]
   by_cases q7:x.k=7
   ·simp only[q7,beq_self_eq_true,if_true];obtain⟨_,_,_,r4⟩:=eL (hok x (gM9 hx));obtain⟨m1,_,_⟩:=dG (T.node _ x hx) (k:=0) (r4 (by omega) (by omega)).1;exact he _ x hx (hP hk) _ m1
   ·have:(x.k==7)=false:=by simpa using q7
    simp only[this,Bool.false_eq_true,if_false];exact hP hk
  have b:=bP t.limits.length (cJ t.limits) hr hr pr
  have few:∀ n i,i<n→i<t.limits.length→P i→(spL t.limits n i).length≤150:=fun n i h1 h2 h3=>by
   have:=(bP n i h1 h2 h3).few;omega
  have c90:=Q90 (l:=t.limits) (bg:=bg) (V:=P) ⟨T,hl,hok,fun n i h1 h2 h3=>⟨(bP n i h1 h2 h3).gap,(bP n i h1 h2 h3).good,few n i h1 h2 h3⟩,fun p x hx hp k1=>absurd k1 (hn p x hx hp).1,he⟩ _ _ hr hr pr
  have c83:=Q83 (l:=t.limits) (bg:=bg) (V:=P) ⟨T,hl,hok,fun n i h1 h2 h3=>by
   have e:=(bP n i h1 h2 h3).eq;rw[←e]
   exact⟨(bP n i h1 h2 h3).gap,(bP n i h1 h2 h3).good,few n i h1 h2 h3⟩,fun p x hx hp k1=>absurd k1 (hn p x hx hp).1,he⟩ _ _ hr hr pr
  have e:(t.limits.length==0)=false:=by simpa using q
  have e2:lK t=nuR t.limits t.limits.length (cJ t.limits):=by rw[lK,e];rfl
  have fr:=few _ _ hr hr pr;refine⟨by rw[e,e2];exact b.eq,by rw[e2,←b.eq];omega,fun h=>absurd h q,fun _=>⟨by omega,c90⟩,P94 t T hok hl (fun h=>absurd h q) fun _=>c83⟩
end
section
attribute [local simp] bD aN aS aG aU aO aZ tyC fdC vlC ndC aL D.cK D.pt
theorem aE9{l:List Nd}{bg:List Nat}{P Q:Nat→Prop}(H:aL5 l bg P Q):∀ n i,i<n→i<l.length→P i→(spL l n i).length≤1000∧PSp prog 90 [.one (.t (aG l)),.one (.t (I ((i:Nat):Int)))] (.one (.t (spans (spL l n i)))):=fun n i h1 h2 h3=>
 ⟨by have:=(aE5 H n i h1 h2 h3).2.2;omega,Q90 ⟨H.tree,H.few,H.ok,fun n i a b c=>by
  obtain⟨x,y,z⟩:=aE5 H n i a b c
  exact⟨x,y,by omega⟩,fun p x hx hp k1=>((H.node p x hx hp).2.2.2 k1).1,H.edge⟩ n i h1 h2 h3⟩
theorem aL8(t:Ty)(hn:t.narrow=true)(v:Vl)(hv:v.fine)(hvs:v.s.size≤1000000):
  PSp prog 22 [.agg (tyC t),.agg (vlC v)] (.tup [.one (.t (.bool (eB t v==0&&aNM t v))),.one (.t (I (eB t v)))])∧
  PSp prog 24 [.agg (tyC t),.agg (vlC v)] (.tup [.one (.t (.bool (eB t v==0&&aNN t v))),.one (.t (I (eB t v)))]):=by
 have c71:=P71 t hn v hv hvs fun h=>(aIC h).1
 refine⟨P22 t v c71 fun h hl=>?_,P24 t v c71 fun h=>?_⟩
 ·obtain⟨h1,_,_⟩:=val_zero h;obtain⟨bg,P,Q,H⟩:=aAT h1 hl;exact⟨H.few,P72 H.tree H.ok v hvs P Q H.from_ (aE9 H) _ _ (by omega) (by omega) H.last⟩
 ·obtain⟨h1,_,_⟩:=val_zero h;have ht:=dP t (lI h1).1;obtain⟨hlen,bg,T⟩:=bL ht;refine⟨⟨bg,T⟩,iR ht,hlen,fun hl=>?_⟩;obtain⟨bg,P,Q,H⟩:=aAT h1 hl;have hr:=aE2 H.tree H.ok hl;exact P72 H.tree H.ok v hvs P Q H.from_ (aE9 H) _ _ hr hr (aNO H hl)
end
section
attribute [local simp] bD aN aS aG aU aO aZ tyC fdC vlC ndC aL D.cK D.pt
def exT:Ty:= .mk 2 (bs []) [] [] false 0 [] [⟨0,1,5,bs [],[]⟩,⟨0,8,8,bs [],[]⟩,⟨7,0,0,bs [],[0,1]⟩]
def exV:Vl:= .mk 2 8 0 (bs []) [] []
attribute [local simp] c56r0 c56r1 c56 in
theorem P56:PSp prog 56 [] (.agg (tyC exT)):=by
 refine k56.aI (by simp) (by simp[]) rfl ?_;simp -implicitDefEqProofs [-aA,-gval,exT,tyC,aB];and_intros<;>rfl
attribute [local simp] c40 in
theorem P40(n:Int):PSp prog 40 [.one (.t (I n))] (.agg (vlC (.mk 2 n 0 (bs []) [] []))):=by
 refine k40.aI (by simp) (by simp[D.closed,A.closed]) rfl ?_;simp -implicitDefEqProofs [-aA,-gval,vlC,aB];and_intros<;>rfl
theorem aL9:exT.narrow=true∧exV.fine∧eB exT exV=0∧aNM exT exV=true∧aNN exT exV=false∧gM exT=((1,5),true,0):=by
 refine⟨by kernel_rfl,Vl.tI _ (by kernel_rfl),by kernel_rfl,by kernel_rfl,by kernel_rfl,by kernel_rfl⟩
theorem aNQ:(spL exT.limits exT.limits.length (cJ exT.limits)).length≤1000∧PSp prog 90 [.one (.t (aG exT.limits)),.one (.t (I ((cJ exT.limits:Nat):Int)))] (.one (.t (spans (spL exT.limits exT.limits.length (cJ exT.limits))))):=by
 have ht:bQ exT.limits=true:=by kernel_rfl
 obtain⟨hlen,bg,T⟩:=bL ht;have e0:cJ exT.limits=0:=by kernel_rfl
 have e1:∀ n,0<n→spL exT.limits n 0=[(1,5)]:=fun n hn=>by
  obtain⟨m,rfl⟩:∃ m,n=m+1:=⟨n - 1,by omega⟩;rfl
 have e2:∀ p x,exT.limits[p]? =some x→p=0→x=⟨0,1,5,bs [],[]⟩:=fun p x hx hp=>by
  subst hp;exact(Option.some.inj hx).symm
 have H:aSW exT.limits bg (· =0):=⟨T,hlen,iR ht,fun n i h1 _ h3=>by
  subst h3;rw[e1 n h1]
  exact⟨⟨by decide,by simp,trivial⟩,by decide,by decide⟩,fun p x hx hp k1=>(by rw[e2 p x hx hp]at k1;cases k1),fun p x hx hp c hc=>(by rw[e2 p x hx hp]at hc;cases hc)⟩
 rw[e0];exact⟨by rw[e1 _ (by decide)];decide,Q90 H _ 0 (by decide) (by decide) rfl⟩
attribute [local simp] c12 in
theorem aQ0:PSp prog 12 [] (.one (.t (.bool true))):=by
 obtain⟨hn,hv,e1,e2,e3,e4⟩:=aL9;obtain⟨p22,p24⟩:=aL8 exT hn exV hv (by decide);have p43:=P43 exT hn (fun _ _ h=>absurd h (by decide)) fun _ _ _=>aNQ
 rw[e1,e2]at p22;rw[e1,e3]at p24;rw[e4]at p43;have p56:=P56;have p40:PSp prog 40 [.one (.t (I 8))] (.agg (vlC exV)):=P40 8;generalize exT=t at*;generalize exV=v at*;refine k12.aI (by simp) (by simp[]) rfl ?_;simp -implicitDefEqProofs [-aA,-gval];refine aD.tree p56 rfl ?_;simp -implicitDefEqProofs [-aA,-gval];refine aD.tree p40 rfl ?_;simp -implicitDefEqProofs [-aA,-gval];refine aD.tree p22 rfl ?_;simp -implicitDefEqProofs [-aA,-gval];refine aD.tree p56 rfl ?_;simp -implicitDefEqProofs [-aA,-gval];refine aD.tree p40 rfl ?_;simp -implicitDefEqProofs [-aA,-gval];refine aD.tree p24 rfl ?_;simp -implicitDefEqProofs [-aA,-gval];refine aD.tree p56 rfl ?_;simp -implicitDefEqProofs [-aA,-gval];refine aD.tree p43 rfl ?_;simp -implicitDefEqProofs [-aA,-gval,cell,aB]
end
section
attribute [local simp] bD aN aS aG aU aO aZ tyC fdC vlC ndC aL D.cK D.pt cell
theorem aLA(t:Ty)(hn:t.narrow=true):PSp prog 43 [.agg (tyC t)] (.tup [.agg (cell (gM t).1),.one (.t (.bool (gM t).2.1)),.one (.t (I (gM t).2.2))])∧
  PSp prog 44 [.agg (tyC t)] (.tup [.agg (cell (hZ t).1),.one (.t (.bool (hZ t).2.1)),.one (.t (I (hZ t).2.2))])∧
  PSp prog 45 [.agg (tyC t)] (.tup [.one (.t (spans (lL t).1)),.one (.t (I (lL t).2))]):=by
 refine⟨P43 t hn (fun h hk=>(kN h hk).2.2.1) fun h hk=>(kN h hk).2.2.2.1,P44 t hn (fun h=>?_) fun h _=>(nW h).2.2.1,P45 t hn fun h _=>(rD h).2.2.1⟩;obtain⟨a,b,_⟩:=nW h;have:=b.len;rw[a];omega
theorem aLB{t:Ty}(h:(dF t).2≠0):gM t=((0,0),false,(dF t).2)∧hZ t=((0,0),false,(dF t).2)∧lL t=([],(dF t).2):=by
 have q:((dF t).2 != 0)=true:=by simpa using h
 have e:iT t=(dF t).2:=by rw[iT,aC4,if_pos q]
 exact⟨by rw[gM,e,if_pos q],by rw[hZ,if_pos q],by rw[lL,if_pos q]⟩
theorem aIE{t:Ty}(h:(dF t).2=0):gM t=aC3 (t.kind==2) t (lK t)∧hZ t=aC3 (pH t.kind) t (lW t)∧lL t=sQ (t.kind==6) (lJ t):=by
 have q:((dF t).2 != 0)=false:=by simpa using h
 refine⟨?_,?_,?_⟩
 ·have e:iT t=if t.kind==2 then 0 else 4:=by rw[iT,aC4,q];rfl
  rw[gM,e,aC3];rcases eqCases t.kind 2 with k | k
  ·have:=(kN h k).1;simp only[k,beq_self_eq_true,if_true,bne_self_eq_false,Bool.false_eq_true,if_false];rw[this]
  ·simp[k]
 ·rw[hZ,q,(nW h).1];rfl
 ·rw[lL,q,(rD h).1];rfl
attribute [local simp] c8t3 c8t6 c8t13 c8t16 c8t17 c8t18 c8t19 c8t20 c8t21 c8t22 c8 in
theorem P8(t:Ty)(ht:t.fine):PSp prog 8 [.agg (tyC t)] (.one (.t (.bool true))):=by
 have p13:=P13 t ht
 have nar:t.tiny=true→t.narrow=true:=fun h=>by
  rw[Ty.tiny,Bool.and_eq_true]at h;exact h.2
 generalize t.tiny=b at*;refine k8.aI (by simp) (by simp[D.closed,A.closed]) rfl ?_;simp -implicitDefEqProofs [-aA,-gval];refine aD.tree aQ0 rfl ?_;simp -implicitDefEqProofs [-aA,-gval];refine aD.tree p13 rfl ?_;cases b
 ·simp -implicitDefEqProofs [-aA,-gval,aB]
 ·have hn:=nar rfl;obtain⟨p43,p44,p45⟩:=aLA t hn;have p29:=P29 t hn;rw[←aDP]at p29;have p15:=P15 t hn
  by_cases h:(dF t).2=0
  ·obtain⟨g1,g2,g3⟩:=aIE h;obtain⟨_,s2,_,s4⟩:=nW h;obtain⟨_,h2,_,h4⟩:=rD h;have hl:t.limits.length≤40:=((Ty.aV t).1 hn).2.2.2.2.1
   have a1:PSp prog 47 [.agg (cell (gM t).1),.agg ([.t (.bool (t.kind==2)),.t (.bool (gM t).2.1),.t (I (gM t).2.2)]++tyC t++[.t (I 0)])] (.one (.t (.bool true))):=by
    rw[g1]
    by_cases k:t.kind=2
    ·obtain⟨_,n2,_,_,n5⟩:=kN h k;exact P47 t hl _ 0 _ n2 (fun _ e=>by cases e) fun _ _=>n5
    ·have e:(t.kind==2)=false:=by simpa using k
     have:=P47 t hl false 0 [] (by simp) (fun e=>by cases e) fun e=>by cases e
     rw[e];exact this
   have a2:PSp prog 47 [.agg (cell (hZ t).1),.agg ([.t (.bool (pH t.kind)),.t (.bool (hZ t).2.1),.t (I (hZ t).2.2)]++tyC t++[.t (I 1)])] (.one (.t (.bool true))):=by
    rw[g2];exact P47 t hl _ 1 _ (by have:=s2.len;omega) (fun _ _=>s4) fun _ e=>absurd rfl e
   have a3:=P48 t (lJ t) (by have:=h2.len;omega) fun _=>h4
   rw[←g3]at a3;clear g1 g2 g3;have p30:=P30 t.kind;have p46:=P46 [4,5,6] t.kind (by simp[short])
   have es:pH t.kind=((t.kind==11||t.kind==12)||[4,5,6].any fun x=>x==t.kind):=by
    rw[pH,Bool.or_comm];congr 1;rw[Bool.eq_iff_iff];simp only[List.any_cons,List.any_nil,Bool.or_false,Bool.or_eq_true,beq_iff_eq];omega
   obtain⟨il,e1⟩:∃ b,(t.kind==11||t.kind==12)=b:=⟨_,rfl⟩;obtain⟨h3,e3⟩:∃ b,([4,5,6].any fun x=>x==t.kind)=b:=⟨_,rfl⟩;obtain⟨k2,e2⟩:∃ b,(t.kind==2)=b:=⟨_,rfl⟩;rw[e1,e3]at es;rw[e1]at p30;rw[e3]at p46;rw[es]at a2;rw[e2]at a1;generalize gM t=r1 at*;generalize hZ t=r2 at*;generalize lL t=r3 at*;obtain⟨x1,o1,f1⟩:=r1;obtain⟨x2,o2,f2⟩:=r2;obtain⟨l3,f3⟩:=r3;rw[h]at p29;simp -implicitDefEqProofs [-aA,-gval];refine aD.tree p29 rfl ?_;simp -implicitDefEqProofs [-aA,-gval];refine aD.tree p15 rfl ?_;simp -implicitDefEqProofs [-aA,-gval];refine aD.tree p43 rfl ?_;simp -implicitDefEqProofs [-aA,-gval];refine aD.tree p15 rfl ?_;simp -implicitDefEqProofs [-aA,-gval];refine aD.tree p44 rfl ?_;simp -implicitDefEqProofs [-aA,-gval];refine aD.tree p15 rfl ?_;simp -implicitDefEqProofs [-aA,-gval];refine aD.tree p45 rfl ?_;simp -implicitDefEqProofs [-aA,-gval];refine aD.tree p30 rfl ?_;cases il
   ·simp -implicitDefEqProofs [-aA,-gval];refine aD.pure p46 ?_ ?_ ?_
    ·simp
    ·simp[ints]
    simp -implicitDefEqProofs [-aA,-gval,e2];refine aD.tree a1 rfl ?_;simp -implicitDefEqProofs [-aA,-gval];refine aD.tree a2 rfl ?_;simp -implicitDefEqProofs [-aA,-gval];refine aD.tree a3 rfl ?_;simp -implicitDefEqProofs [-aA,-gval,aB]
   ·simp -implicitDefEqProofs [-aA,-gval,e2];refine aD.tree a1 rfl ?_;simp -implicitDefEqProofs [-aA,-gval];refine aD.tree a2 rfl ?_;simp -implicitDefEqProofs [-aA,-gval];refine aD.tree a3 rfl ?_;simp -implicitDefEqProofs [-aA,-gval,aB]
  ·obtain⟨g1,g2,g3⟩:=aLB h;have q:=eqCases (dF t).2 0;rw[g1]at p43;rw[g2]at p44;rw[g3]at p45;generalize (dF t).2=e at*;have q:=q.resolve_left h;simp -implicitDefEqProofs [-aA,-gval];refine aD.tree p29 rfl ?_;simp -implicitDefEqProofs [-aA,-gval];refine aD.tree p15 rfl ?_;simp -implicitDefEqProofs [-aA,-gval];refine aD.tree p43 rfl ?_;simp -implicitDefEqProofs [-aA,-gval];refine aD.tree p15 rfl ?_;simp -implicitDefEqProofs [-aA,-gval];refine aD.tree p44 rfl ?_;simp -implicitDefEqProofs [-aA,-gval];refine aD.tree p15 rfl ?_;simp -implicitDefEqProofs [-aA,-gval];refine aD.tree p45 rfl ?_;simp -implicitDefEqProofs [-aA,-gval,q,spans,aB]
end
end Go.Proofs.YtdpbobkcbakpfaaGreatDoor
