/- Texts of this proof. -/
import Derived.Test.YtdpbobkcbakpfaaGreatDoorProg
import Derived.Test.YtdpbobkcbakpfaaGreatDoorMrzI
namespace Go.Proofs.YtdpbobkcbakpfaaGreatDoor
open Go Go.Ab
open Go.Proofs.Tryz
set_option maxRecDepth 100000
set_option maxHeartbeats 4000000
def In2(c:List Sp):Prop:=Gap c∧∀y∈c,0≤y.1∧y.2≤255
theorem In2.len{c:List Sp}(h:In2 c):c.length≤128:=by
 have:=aC1 c 0 255 h.1 h.2 (by omega);omega
theorem In2.good{c:List Sp}(h:In2 c):∀ y∈c,bad y=false:=fun y hy=>(kP y).2 ⟨h.1.valid y hy,by have:=h.2 y hy;omega,by have:=h.2 y hy;omega⟩
theorem In2.mem{c:List Sp}(h:In2 c){m:Int}(hm:inS c m=true):0≤m∧m≤255:=by
 obtain⟨y,hy,h1,h2⟩:=eA.1 hm;have:=h.2 y hy;omega
theorem In2.of{c:List Sp}(g:Gap c)(h:∀ m,inS c m=true→0≤m∧m≤255):In2 c:=⟨g,fun y hy=>by
 have hv:=g.valid y hy
 exact⟨(h y.1 (eA.2 ⟨y,hy,by omega,hv⟩)).1,(h y.2 (eA.2 ⟨y,hy,hv,by omega⟩)).2⟩⟩
def aE2(out:List Sp)(c:Int):List Sp:=fJ 0 out [(c,c)] [] (dU (out++[(c,c)]))
theorem aE3:∀ (S:List Int) (out:List Sp),Gap out→Gap (S.foldl aE2 out)∧∀m,inS (S.foldl aE2 out) m=(inS out m||S.any fun c=>c==m)
 | [],out,h=>⟨h,fun m=>by simp⟩
 | c::r,out,h=>by
  obtain⟨q1,q2⟩:=gU 0 out [(c,c)];obtain⟨i1,i2⟩:=aE3 r (aE2 out c) q1;refine⟨i1,fun m=>?_⟩
  have e:inS [((c,c):Sp)] m=(c==m):=by
   rw[Bool.eq_iff_iff];simp[inS];omega
  rw[List.foldl_cons,i2,aE2,q2,e,List.any_cons];simp[fK,Bool.or_assoc]
theorem aC3{l:List Nd}{bg:List Nat}(T:eB l bg)(hok:∀ x∈l,x.ok=true)(P:Nat→Prop)
  (hn:∀ p x,l[p]? =some x→P p→x.k≠2∧x.k≠3∧(x.k=0→x.lo≤x.hi)) (he:∀ p x,l[p]? =some x→P p→∀c:Nat,(c:Int)∈x.args→P c):
  ∀n i,i<n→i<l.length→P i→Gap (nuR l n i)∧∀m,inS (nuR l n i) m=cA l n i m:=by
 intro n
 induction n with
 | zero=>intro i hi;omega
 | succ n ih=>
  intro i hin hil hP;have hx:l[i]? =some (l[i]'hil):=gE9 _;generalize l[i]'hil=x at hx;have N:=T.node i x hx;obtain⟨k2,k3,k0⟩:=hn i x hx hP;obtain⟨r1,r2,r3,r4⟩:=dE (hok x (gM9 hx))
  have sub:∀ k,k<x.args.length→∀m,inS (nuR l n (aG x k)) m=cA l n (aG x k) m:=fun k hk=>by
   obtain⟨m1,m2,m3⟩:=cK N hk;exact(ih _ (by omega) (by omega) (he i x hx hP _ m1)).2
  by_cases q0:x.k=0
  ·have e1:nuR l (n+1) i=[(x.lo,x.hi)]:=by simp[nuR,hx,q0]
   rw[e1];refine⟨⟨k0 q0,by simp,trivial⟩,fun m=>?_⟩;simp[cA,hx,q0,inS]
  ·by_cases q1:x.k=1
   ·have e1:nuR l (n+1) i=(chars x.s).foldl aE2 []:=by simp only[nuR,hx,q1];rfl
    obtain⟨g1,g2⟩:=aE3 (chars x.s) [] trivial;rw[e1];refine⟨g1,fun m=>?_⟩;have e2:cA l (n+1) i m=(chars x.s).any (fun c=>c==m):=by simp[cA,hx,q1]
    rw[e2,g2];simp[inS]
   ·obtain⟨pos,aHA⟩:=r4 q0 q1;have a2:=sub 0 pos
    by_cases one:x.args.length=1
    ·have n5:x.k≠5:=fun e=>by have:=r3 (.inr (.inl e));omega
     have n6:x.k≠6:=fun e=>by have:=r3 (.inr (.inr e));omega
     have e1:nuR l (n+1) i=nuR l n (aG x 0):=by simp[nuR,hx,q0,q1,one]
     obtain⟨m1,m2,m3⟩:=cK N pos;rw[e1];refine⟨(ih _ (by omega) (by omega) (he i x hx hP _ m1)).1,fun m=>?_⟩;have e2:cA l (n+1) i m=cA l n (aG x 0) m:=by simp[cA,hx,q0,q1,n5,n6,one]
     rw[e2,a2]
    ·have b2:=sub 1 (by omega);have two':1<x.args.length:=by omega
     have e1:nuR l (n+1) i=fJ (opN x.k) (nuR l n (aG x 0)) (nuR l n (aG x 1)) [] (dU (nuR l n (aG x 0)++nuR l n (aG x 1))):=by simp[nuR,hx,q0,q1,one]
     obtain⟨g1,g2⟩:=gU (opN x.k) (nuR l n (aG x 0)) (nuR l n (aG x 1));rw[e1];refine⟨g1,fun m=>?_⟩;rw[g2,a2,b2]
     by_cases q5:x.k=5
     ·have e2:cA l (n+1) i m=(cA l n (aG x 0) m&&cA l n (aG x 1) m):=by simp[cA,hx,q5]
      rw[e2];simp[fK,opN,q5]
     ·by_cases q6:x.k=6
      ·have e2:cA l (n+1) i m=(cA l n (aG x 0) m&& !cA l n (aG x 1) m):=by simp[cA,hx,q6]
       rw[e2];simp[fK,opN,q6]
      ·have e2:cA l (n+1) i m=(cA l n (aG x 0) m||cA l n (aG x 1) m):=by simp[cA,hx,q0,q1,q5,q6,two']
       rw[e2];simp[fK,opN,q5,q6]
theorem cD{l:List Nd}{bg:List Nat}(T:eB l bg)(hok:∀ x∈l,x.ok=true)(P:Nat→Prop)(B:Int)(hB:B≤255)
  (hn:∀ p x,l[p]? =some x→P p→x.k≠2∧x.k≠3∧(x.k=0→0≤x.lo∧x.lo≤x.hi∧x.hi≤B)∧(x.k=1→∀c∈chars x.s,c≤B)) (he:∀ p x,l[p]? =some x→P p→∀c:Nat,(c:Int)∈x.args→P c):
  ∀n i,i<n→i<l.length→P i→spL l n i=nuR l n i∧In2 (nuR l n i)∧∀m,inS (nuR l n i) m=true→0≤m∧m≤B:=by
 have hn':∀ p x,l[p]? =some x→P p→x.k≠2∧x.k≠3∧(x.k=0→x.lo≤x.hi):=fun p x hx hp=>by
  obtain⟨a,b,c,_⟩:=hn p x hx hp;exact⟨a,b,fun q=>(c q).2.1⟩
 intro n i h1 h2 h3;obtain⟨a1,a2⟩:=aC2 T hok P hn' he n i h1 h2 h3;obtain⟨b1,b2⟩:=aC3 T hok P hn' he n i h1 h2 h3
 have key:∀ m,inS (nuR l n i) m=true→0≤m∧m≤B:=fun m hm=>by
  rw[b2]at hm;exact aGQ T hok P B (fun p x hx hp=>⟨fun q=>⟨((hn p x hx hp).2.2.1 q).1,((hn p x hx hp).2.2.1 q).2.2⟩,(hn p x hx hp).2.2.2⟩) he n i m h2 h3 hm
 exact⟨nW a1 b1 fun m=>by rw[a2,b2],In2.of b1 fun m hm=>by have:=key m hm;omega,key⟩
def seL(l:List Nd)(kd:Int)(all:List Sp):Nat→Nat→List Sp
 | 0,_=>[]
 | n+1,i=>match l[i]? with
  | none=>[]
  | some x=>if x.k==kd then(if kd==2 then spL l n (aG x 0)else bK (cI all (spL l n (aG x 0))))
   else if x.k==4 then bK (seL l kd all n (aG x 0)++seL l kd all n (aG x 1))else if x.k==5 then bK (cI (seL l kd all n (aG x 0)) (seL l kd all n (aG x 1)))
   else if x.k==6||x.k==7 then seL l kd all n (aG x 0)else all
def seR(l:List Nd)(kd:Int)(all:List Sp):Nat→Nat→List Sp
 | 0,_=>[]
 | n+1,i=>match l[i]? with
  | none=>[]
  | some x=>if x.k==kd then fJ 1 all (nuR l n (aG x 0)) [] (dU (all++nuR l n (aG x 0)))
   else if x.k==4 then fJ 0 (seR l kd all n (aG x 0)) (seR l kd all n (aG x 1)) [] (dU (seR l kd all n (aG x 0)++seR l kd all n (aG x 1)))
   else if x.k==5 then fJ 1 (seR l kd all n (aG x 0)) (seR l kd all n (aG x 1)) [] (dU (seR l kd all n (aG x 0)++seR l kd all n (aG x 1)))
   else if x.k==6||x.k==7 then seR l kd all n (aG x 0)else all
structure aE4 (t:Ty) (bg:List Nat) (P3 P4 Q:Nat→Prop):Prop where
 tree:eB t.limits bg
 few:t.limits.length≤20
 ok:∀ x∈t.limits,x.ok=true
 n3:∀ p x,t.limits[p]? =some x→P3 p→x.k≠1∧x.k≠2∧x.k≠3∧(x.k=0→0≤x.lo∧x.lo≤x.hi∧x.hi≤cB t.kind)
 n4:∀ p x,t.limits[p]? =some x→P4 p→x.k≠2∧x.k≠3∧(x.k=0→0≤x.lo∧x.lo≤x.hi∧x.hi≤127)∧(x.k=1→x.s.size≤200∧∀c∈chars x.s,c≤127)
 e3:∀ p x,t.limits[p]? =some x→P3 p→∀c:Nat,(c:Int)∈x.args→P3 c
 e4:∀ p x,t.limits[p]? =some x→P4 p→∀c:Nat,(c:Int)∈x.args→P4 c
 eq:∀ p x,t.limits[p]? =some x→Q p→∀c:Nat,(c:Int)∈x.args→if x.k=2 then P3 c else if x.k=3 then P4 c else Q c
 last:Q (t.limits.length - 1)
theorem aAV(k:Int):0≤cB k∧cB k≤200:=by unfold cB;split<;>omega
theorem qB{t:Ty}(h:(dM t).2=0)(hl:t.limits.length≠0):∃ bg,∃P3 P4 Q:Nat→Prop,aE4 t bg P3 P4 Q:=by
 obtain⟨ht,L,h1,h2,h3⟩:=pH h hl;obtain⟨hlen,bg,T⟩:=bO ht
 have n3:∀ p x,t.limits[p]? =some x→L p=3→x.k≠1∧x.k≠2∧x.k≠3∧(x.k=0→0≤x.lo∧x.lo≤x.hi∧x.hi≤cB t.kind):=fun p x hx ha=>by
  obtain⟨r,hr⟩:=h3 p x hx;obtain⟨s1,s2⟩:=iM hr;rw[ha]at s1 s2;refine⟨fun e=>?_,fun e=>?_,fun e=>?_,fun e=>?_⟩
  ·rw[e]at s1;simp[cQ]at s1
  ·rw[e]at s1;simp[cQ]at s1
  ·rw[e]at s1;simp[cQ]at s1
  ·have:=s2 e;simp only[kC,Bool.and_eq_true,decide_eq_true_eq]at this;have e:gW t.kind 3=(0,cB t.kind):=rfl;rw[e]at this;exact⟨this.1.2,this.1.1,this.2⟩
 have n4:∀ p x,t.limits[p]? =some x→L p=4→x.k≠2∧x.k≠3∧(x.k=0→0≤x.lo∧x.lo≤x.hi∧x.hi≤127)∧(x.k=1→x.s.size≤200∧∀c∈chars x.s,c≤127):=fun p x hx ha=>by
  obtain⟨r,hr⟩:=h3 p x hx;obtain⟨s1,s2⟩:=iM hr;rw[ha]at s1 s2;refine⟨fun e=>?_,fun e=>?_,fun e=>?_,fun e=>?_⟩
  ·rw[e]at s1;simp[cQ]at s1
  ·rw[e]at s1;simp[cQ]at s1
  ·have:=s2 e;simp only[kC,Bool.and_eq_true,decide_eq_true_eq]at this;have e:gW t.kind 4=(0,127):=rfl;rw[e]at this;exact⟨this.1.2,this.1.1,this.2⟩
  ·obtain⟨t1,t2⟩:=aAT hr e;refine⟨t2,fun c hc=>?_⟩;rw[ha]at t1;have t3:(!bL x.s (bs [])&& !(chars x.s).any (fun c=>decide (127<c)))=true:=by simpa[bW]using t1
   rw[Bool.and_eq_true,Bool.not_eq_true',Bool.not_eq_true',List.any_eq_false]at t3;have:=t3.2 c hc;simpa using this
 refine⟨bg,fun p=>L p=3,fun p=>L p=4,fun p=>L p≠3∧L p≠4,T,hlen,jH ht,n3,n4,fun p x hx ha c hc=>?_,fun p x hx ha c hc=>?_,fun p x hx ha c hc=>?_,?_⟩
 ·have hp:=(gS9.1 hx).1;obtain⟨_,k2,k3,_⟩:=n3 p x hx ha;show L c=3;rw[h2.edge p x (Nat.zero_le _) (by omega) hx c hc];simpa[fN,k2,k3]using ha
 ·have hp:=(gS9.1 hx).1;obtain⟨k2,k3,_⟩:=n4 p x hx ha;show L c=4;rw[h2.edge p x (Nat.zero_le _) (by omega) hx c hc];simpa[fN,k2,k3]using ha
 ·have hp:=(gS9.1 hx).1;have e:=h2.edge p x (Nat.zero_le _) (by omega) hx c hc
  by_cases k2:x.k=2
  ·rw[if_pos k2];show L c=3;rw[e];simp[fN,k2]
  ·rw[if_neg k2]
   by_cases k3:x.k=3
   ·rw[if_pos k3];show L c=4;rw[e];simp[fN,k3]
   ·rw[if_neg k3];show L c≠3∧L c≠4;rw[e];simpa[fN,k2,k3]using ha
 ·show L (t.limits.length - 1)≠3∧L (t.limits.length - 1)≠4;rw[h1];rcases tT h hl with q | q | q | q | q | q<;>rw[q]<;>decide
theorem xR{t:Ty}{bg:List Nat}{P3 P4 Q:Nat→Prop}(H:aE4 t bg P3 P4 Q)(n i:Nat)(h1:i<n)(h2:i<t.limits.length):
  (P3 i→spL t.limits n i=nuR t.limits n i∧In2 (nuR t.limits n i)∧∀m,inS (nuR t.limits n i) m=true→0≤m∧m≤cB t.kind)∧
  (P4 i→spL t.limits n i=nuR t.limits n i∧In2 (nuR t.limits n i)):=by
 refine⟨fun h=>cD H.tree H.ok P3 _ (by have:=aAV t.kind;omega) (fun p x hx hp=>?_) H.e3 n i h1 h2 h,fun h=>?_⟩
 ·obtain⟨a,b,c,d⟩:=H.n3 p x hx hp;exact⟨b,c,d,fun e=>absurd e a⟩
 ·obtain⟨a,b,_⟩:=cD H.tree H.ok P4 127 (by omega) (fun p x hx hp=>by
   obtain⟨a,b,c,d⟩:=H.n4 p x hx hp
   exact⟨a,b,c,fun e=>(d e).2⟩) H.e4 n i h1 h2 h
  exact⟨a,b⟩
theorem aE5(s:ByteArray):In2 (alpha s):=by
 unfold alpha;split
 ·exact⟨by simp[Gap],by simp⟩
 ·split
  ·exact⟨by simp[Gap],by simp⟩
  ·split
   ·exact⟨by simp[Gap],by simp⟩
   ·split
    ·exact⟨by simp[Gap],by simp⟩
    ·exact⟨trivial,by simp⟩
theorem aC4{a b:List Sp}(ha:In2 a)(hb:In2 b):bK (cI a b)=fJ 1 a b [] (dU (a++b))∧In2 (fJ 1 a b [] (dU (a++b))):=by
 obtain⟨c1,c2,_⟩:=aC0 1 ha.1 hb.1 ha.good hb.good (bK (cI a b)) (by simp) (by simp);obtain⟨q1,q2⟩:=gU 1 a b;exact⟨c1,In2.of q1 fun m hm=>by rw[q2]at hm;simp[fK]at hm;exact ha.mem hm.1⟩
theorem aLB{a b:List Sp}(ha:In2 a)(hb:In2 b):bK (a++b)=fJ 0 a b [] (dU (a++b))∧In2 (fJ 0 a b [] (dU (a++b))):=by
 obtain⟨c1,c2,_⟩:=aC0 0 ha.1 hb.1 ha.good hb.good (bK (a++b)) (by simp) (by simp);obtain⟨q1,q2⟩:=gU 0 a b;refine⟨c1,In2.of q1 fun m hm=>?_⟩;rw[q2]at hm;simp[fK]at hm;rcases hm with h | h
 ·exact ha.mem h
 ·exact hb.mem h
theorem tV{t:Ty}{bg:List Nat}{P3 P4 Q:Nat→Prop}(H:aE4 t bg P3 P4 Q)(kd:Int)(all:List Sp)(hA:In2 all)(hk:(kd=2∧all=[(0,cB t.kind)])∨kd=3):
  ∀n i,i<n→i<t.limits.length→Q i→seL t.limits kd all n i=seR t.limits kd all n i∧In2 (seR t.limits kd all n i):=by
 intro n
 induction n with
 | zero=>intro i hi;omega
 | succ n ih=>
  intro i hin hil hQ;have hx:t.limits[i]? =some (t.limits[i]'hil):=gE9 _;generalize t.limits[i]'hil=x at hx;have N:=H.tree.node i x hx;obtain⟨r1,r2,r3,r4⟩:=dE (H.ok x (gM9 hx))
  by_cases q:x.k=kd
  ·have k23:x.k=2∨x.k=3:=by rcases hk with⟨e,_⟩ | e<;>omega
   have one:=r2 k23;obtain⟨m1,m2,m3⟩:=cK N (k:=0) (by omega);obtain⟨s3,s4⟩:=xR H n (aG x 0) (by omega) (by omega);have hc:=H.eq i x hx hQ _ m1;have e2:seR t.limits kd all (n+1) i=fJ 1 all (nuR t.limits n (aG x 0)) [] (dU (all++nuR t.limits n (aG x 0))):=by simp[seR,hx,q]
   rw[e2];rcases hk with⟨rfl,rfl⟩ | rfl
   ·rw[if_pos q]at hc;obtain⟨a,b,c⟩:=s3 hc;have e1:seL t.limits 2 [(0,cB t.kind)] (n+1) i=spL t.limits n (aG x 0):=by simp[seL,hx,q]
    obtain⟨q1,q2⟩:=gU 1 [(0,cB t.kind)] (nuR t.limits n (aG x 0));rw[e1,a];refine⟨nW b.1 q1 fun m=>?_,(aC4 hA b).2⟩;rw[q2];cases hm:inS (nuR t.limits n (aG x 0)) m
    ·simp[fK]
    ·have:=c m hm;simp[fK,inS];exact this
   ·rw[if_neg (by omega),if_pos q]at hc;obtain⟨a,b⟩:=s4 hc;have e1:seL t.limits 3 all (n+1) i=bK (cI all (spL t.limits n (aG x 0))):=by simp[seL,hx,q]
    rw[e1,a];exact aC4 hA b
  ·have sub:x.k≠2→x.k≠3→∀k,k<x.args.length→seL t.limits kd all n (aG x k)=seR t.limits kd all n (aG x k)∧In2 (seR t.limits kd all n (aG x k)):=fun n2 n3 k hk=>by
    obtain⟨m1,m2,m3⟩:=cK N hk;have:=H.eq i x hx hQ _ m1;rw[if_neg n2,if_neg n3]at this;exact ih _ (by omega) (by omega) this
   by_cases q4:x.k=4
   ·have two:=r3 (.inl q4);obtain⟨a1,a2⟩:=sub (by omega) (by omega) 0 (by omega);obtain⟨b1,b2⟩:=sub (by omega) (by omega) 1 (by omega);have qk:¬ 4=kd:=by omega
    have e1:seL t.limits kd all (n+1) i=bK (seL t.limits kd all n (aG x 0)++seL t.limits kd all n (aG x 1)):=by simp[seL,hx,q4,qk]
    have e2:seR t.limits kd all (n+1) i=fJ 0 (seR t.limits kd all n (aG x 0)) (seR t.limits kd all n (aG x 1)) [] (dU (seR t.limits kd all n (aG x 0)++seR t.limits kd all n (aG x 1))):=by simp[seR,hx,q4,qk]
    rw[e1,e2,a1,b1];exact aLB a2 b2
   ·by_cases q5:x.k=5
    ·have two:=r3 (.inr (.inl q5));obtain⟨a1,a2⟩:=sub (by omega) (by omega) 0 (by omega);obtain⟨b1,b2⟩:=sub (by omega) (by omega) 1 (by omega);have qk:¬ 5=kd:=by omega
     have e1:seL t.limits kd all (n+1) i=bK (cI (seL t.limits kd all n (aG x 0)) (seL t.limits kd all n (aG x 1))):=by simp[seL,hx,q5,qk]
     have e2:seR t.limits kd all (n+1) i=fJ 1 (seR t.limits kd all n (aG x 0)) (seR t.limits kd all n (aG x 1)) [] (dU (seR t.limits kd all n (aG x 0)++seR t.limits kd all n (aG x 1))):=by simp[seR,hx,q5,qk]
     rw[e1,e2,a1,b1];exact aC4 a2 b2
    ·by_cases q67:x.k=6∨x.k=7
     ·obtain⟨a1,a2⟩:=sub (by omega) (by omega) 0 (r4 (by omega) (by omega)).1;have e1:seL t.limits kd all (n+1) i=seL t.limits kd all n (aG x 0):=by simp[seL,hx,q,q4,q5,q67]
      have e2:seR t.limits kd all (n+1) i=seR t.limits kd all n (aG x 0):=by simp[seR,hx,q,q4,q5,q67]
      rw[e1,e2];exact⟨a1,a2⟩
     ·have e1:seL t.limits kd all (n+1) i=all:=by simp[seL,hx,q,q4,q5,q67]
      have e2:seR t.limits kd all (n+1) i=all:=by simp[seR,hx,q,q4,q5,q67]
      rw[e1,e2];exact⟨rfl,hA⟩
section
attribute [local simp] bB aN aS aI aU aO aX tyC fdC vlC ndC aL D.cO D.pt
structure aT0 (l:List Nd) (bg:List Nat) (V:Nat→Prop):Prop where
 tree:eB l bg
 few:l.length≤20
 ok:∀ x∈l,x.ok=true
 set:∀ n i,i<n→i<l.length→V i→Gap (spL l n i)∧(∀y∈spL l n i,bad y=false)∧(spL l n i).length≤150
 txt:∀ p x,l[p]? =some x→V p→x.k=1→x.s.size≤200
 edge:∀ p x,l[p]? =some x→V p→∀c:Nat,(c:Int)∈x.args→V c
def aT1(d:D)(h:Hp)(nx:Nat)(acc:List Sp):Prop:=
 (acc=[]∧d= .one (.tt 2 []))∨(acc≠[]∧∃id ver,id<nx∧d= .one (.ref id ver 0 acc.length 2 false)∧alive h id ver∧h.rows id=acc.map cell∧h.sz id=2∧h.shut id=false)
attribute [local simp] c90b12 c90 in
theorem Q90{l:List Nd}{bg:List Nat}{V:Nat→Prop}(H:aT0 l bg V):∀ n i,i<n→i<l.length→V i→PSp prog 90 [.one (.t (aI l)),.one (.t (I i))] (.one (.t (spans (spL l n i)))):=by
 intro n
 induction n with
 | zero=>intro i hi;omega
 | succ n ih=>
  intro i hin hil hW;have hx:l[i]? =some (l[i]'hil):=gE9 _;generalize l[i]'hil=x at hx;have N:=H.tree.node i x hx;have hiI:(i:Int)<(l.length:Int):=by omega
  have hr:=H.ok x (gM9 hx);simp only[Nd.ok,Bool.and_eq_true]at hr;have hr:=hr.1.1
  have sub:∀ k,k<x.args.length→aG x k<n∧aG x k<l.length∧V (aG x k):=fun k hk=>by
   obtain⟨m1,m2,m3⟩:=cK N hk;exact⟨by omega,by omega,H.edge i x hx hW _ m1⟩
  obtain⟨R0,hR0⟩:∃ R,spL l (n+1) i=R:=⟨_,rfl⟩;rw[hR0];refine k90.aJ (by simp) rfl rfl ?_;rcases eqCases x.k 0 with k0 | k0
  ·have e1:R0=[(x.lo,x.hi)]:=by rw[←hR0];simp[spL,hx,k0]
   subst e1;simp -implicitDefEqProofs [-aA,-gval,hil,hiI,aE hx,Nd.row,k0,aC,spans,spr,-List.getElem_map]
  ·rcases eqCases x.k 1 with q1 | q1
   ·have e1:R0=bK ((chars x.s).map fun c=>(c,c)):=by rw[←hR0];simp[spL,hx,q1]
    have hs:=H.txt i x hx hW q1;obtain⟨S,hS⟩:∃ S,chars x.s=S:=⟨_,rfl⟩;have hSl:S.length≤200:=by rw[←hS,cW];exact hs
    have hSc:∀ c∈S,0≤c∧c≤255:=fun c hc=>by have:=jC (s:=x.s) (c:=c) (by rw[hS];exact hc);omega
    have hb:dV (D.one (A.t (T.str x.s))).str=S.map fun c=>[T.int .u8 c]:=by rw[←hS];simp[dV,chars,D.str]
    rw[hS]at e1
    have pN:=vH (S.map fun c=>((c,c):Sp)) (by simp;omega) fun y hy=>by
     obtain⟨c,hc,rfl⟩:=List.mem_map.1 hy;have:=hSc c hc;exact(kP _).2 ⟨Int.le_refl _,by simp only;omega,by simp only;omega⟩
    rw[←e1]at pN;clear hR0 e1;simp -implicitDefEqProofs [-aA,-gval,hil,hiI,aE hx,Nd.row,q1,hb,-List.getElem_map];refine W.dO (fun k st=>∃ i:Nat,k=S.length - i∧i≤S.length∧st.tmps 29= .one (.t (.rows 1 (S.map fun c=>[T.int .u8 c])))∧st.tmps 30= .one (.t (I S.length))∧st.tmps 31= .one (.t (I i))∧aT1 (st.tmps 6) st.heap st.nx ((S.map fun c=>((c,c):Sp)).take i)) S.length ⟨0,by simp,by simp,by simp,by simp,by simp,by simp[aT1]⟩ ?_;rintro k st ⟨j,hk,hj,h29,h30,h31,h6⟩;rcases Nat.lt_or_ge j S.length with hlt | hge
    ·have gF:(j:Int)<(S.length:Int):=by omega
     obtain⟨c,hc⟩:∃ c,S[j]? =some c:=⟨_,gE9 hlt⟩;have cb:=hSc c (gM9 hc);have hw:IntKind.i64.wrap ((j:Int)+1)=((j+1:Nat):Int):=aH _ (by omega) (by omega);have hwc:IntKind.i64.wrap c=c:=wrap_i64 (by omega) (by omega);have hg:∀ hh,(S.map fun c=>[T.int .u8 c])[j]'hh=[T.int .u8 c]:=fun hh=>aE hc hh
     have et:(S.map fun c=>((c,c):Sp)).take (j+1)=(S.map fun c=>((c,c):Sp)).take j++[(c,c)]:=by rw[List.take_add_one,List.getElem?_map,hc];rfl
     have en:((S.map fun c=>((c,c):Sp)).take j).length≤200:=by simp;omega
     generalize (S.map fun c=>((c,c):Sp)).take j=acc at*;rcases h6 with⟨rfl,h6⟩ | ⟨hne',id,ver,hid,h6,r1,r2,r3,r4⟩
     ·simp -implicitDefEqProofs [-aA,-gval,h29,h30,h31,h6,hlt,gF,hg,hw,hwc,D.cT,D.isInt];refine⟨S.length - (j+1),by omega,j+1,rfl,by omega,by simp,?_⟩;rw[et];refine .inr ⟨by simp,_,0,by omega,rfl,by simp,?_,by simp,by simp⟩;rw[dW,if_pos rfl];simp[cell]
     ·have xO:(st.heap.rows id).length=acc.length:=by rw[r2];simp
      simp -implicitDefEqProofs [-aA,-gval,h29,h30,h31,h6,hlt,gF,hg,hw,hwc,r1,r3,r4,xO,D.cT,D.isInt];refine⟨by omega,S.length - (j+1),by omega,j+1,rfl,by omega,by simp,?_⟩;rw[et];refine .inr ⟨by simp,id,ver+1,by omega,by simp,by simp,?_,by simp,by simp⟩;rw[dW,if_pos rfl,r2];simp[cell]
    ·have hj':j=S.length:=by omega
     subst hj';have gF:¬ (S.length:Int)<(S.length:Int):=by omega
     rw[List.take_of_length_le (by simp)]at h6;generalize S.map (fun c=>((c,c):Sp))=acc at*;simp -implicitDefEqProofs [-aA,-gval,h30,h31];rcases h6 with⟨rfl,h6⟩ | ⟨_,id,ver,_,h6,r1,r2,r3,r4⟩
     ·rw[h6];refine aD.pure pN (by simp) (by simp[spans]) ?_;simp -implicitDefEqProofs [-aA,-gval,aC,spans]
     ·have e1:(acc.map spr).length=acc.length:=by simp
      rw[h6,←e1];have r2':st.heap.rows id=(acc.map spr).map (·.map .t):=by rw[r2,List.map_map];rfl
      refine aD.pure pN (by simpa using jZ r1 r3 r2') (by simp only[List.map_cons,List.map_nil,D.frz,mS r2',spans]) ?_;simp -implicitDefEqProofs [-aA,-gval,aC,spans]
   ·have hk1:=q1.2.1;have q1:=q1.1
    have pos:0<x.args.length:=by
     unfold Nd.right at hr;simp only[k0,hk1,or_self,if_false]at hr;split at hr
     ·have:=of_decide_eq_true hr;omega
     ·split at hr
      ·have:=of_decide_eq_true hr;omega
      ·split at hr
       ·have:=of_decide_eq_true hr;omega
       ·cases hr
    have a0:=aL4 N pos;obtain⟨s1,s2,s3⟩:=sub 0 pos;have c0:=ih (aG x 0) s1 s2 s3;have l0:(0:Int)<(x.args.length:Int):=by omega
    rcases eqCases x.k 2 with k2 | k2
    ·have e1:R0=spL l n (aG x 0):=by rw[←hR0];simp[spL,hx,k2]
     subst e1;simp -implicitDefEqProofs [-aA,-gval,hil,hiI,aE hx,Nd.row,k2,pos,aE a0,-List.getElem_map];refine aD.tree c0 rfl ?_;simp -implicitDefEqProofs [-aA,-gval,aC]
    ·by_cases one:x.args.length=1
     ·have e1:R0=spL l n (aG x 0):=by rw[←hR0];simp[spL,hx,k0,hk1,k2,one]
      subst e1;have l2:(x.args.length:Int)<2:=by omega
      have l3:¬ (2:Int)≤(x.args.length:Int):=by omega
      simp -implicitDefEqProofs [-aA,-gval,hil,hiI,aE hx,Nd.row,k0,q1,k2,pos,aE a0,-List.getElem_map];refine aD.tree c0 rfl ?_;simp -implicitDefEqProofs [-aA,-gval,l2,l3,aC]
     ·have one':1<x.args.length:=by omega
      have a1:=aL4 N one';obtain⟨t1,t2,t3⟩:=sub 1 one';have c1:=ih (aG x 1) t1 t2 t3;have l2:¬ (x.args.length:Int)<2:=by omega
      have l3:(2:Int)≤(x.args.length:Int):=by omega
      have l1:(1:Int)<(x.args.length:Int):=by omega
      obtain⟨gA,okA,nA⟩:=H.set n _ s1 s2 s3;obtain⟨gB,okB,nB⟩:=H.set n _ t1 t2 t3;have va:=gA.valid;have vb:=gB.valid
      have eR:R0=if x.k==5 then bK (cI (spL l n (aG x 0)) (spL l n (aG x 1)))else if x.k==6 then bK (bE (spL l n (aG x 0)) (spL l n (aG x 1)))else bK (spL l n (aG x 0)++spL l n (aG x 1)):=by
       rw[←hR0];have q:¬ x.args.length<2:=by omega
       simp[spL,hx,k0,hk1,k2,q]
      clear hR0;generalize spL l n (aG x 0)=A at*;generalize spL l n (aG x 1)=B at*;simp -implicitDefEqProofs [-aA,-gval,hil,hiI,aE hx,Nd.row,k0,q1,k2,pos,aE a0,-List.getElem_map];refine aD.tree c0 rfl ?_;simp -implicitDefEqProofs [-aA,-gval,l2,l3,one',l1,aE a1,-List.getElem_map];refine aD.tree c1 rfl ?_;rcases eqCases x.k 5 with k5 | k5
      ·have:R0=bK (cI A B):=by rw[eR];simp[k5]
       subst this;simp -implicitDefEqProofs [-aA,-gval,k5];refine aD.tree (aL1 A B (by have:=mV A B gA gB;omega) (by omega) (by omega) okA okB) rfl ?_;simp -implicitDefEqProofs [-aA,-gval,aC]
      ·rcases eqCases x.k 6 with k6 | k6
       ·have:R0=bK (bE A B):=by rw[eR];simp[k6]
        subst this;simp -implicitDefEqProofs [-aA,-gval,k6];refine aD.tree (aL2 A B (by have:=(gT (b:=B) (a:=A) gA.asc vb).2.1;omega) (by omega) (by omega) gA.asc okA okB) rfl ?_;simp -implicitDefEqProofs [-aA,-gval,aC]
       ·have:R0=bK (A++B):=by rw[eR];simp[k5,k6]
        subst this;simp -implicitDefEqProofs [-aA,-gval,k5,k6];refine aD.tree (aL3 A B (by omega) okA okB) rfl ?_;simp -implicitDefEqProofs [-aA,-gval,aC]
end
section
attribute [local simp] bB aN aS aI aU aO aX tyC fdC vlC ndC aL D.cO D.pt
def iT(t:Ty)(l:List Sp):Sp×Bool×Int:=if l.length==0 then((0,0),false,23)else(((l.headD (0,0)).1,(l.getD (l.length - 1) (0,0)).2),(iN t.limits).2,0)
attribute [local simp] c89 in
theorem P89(t:Ty){bg:List Nat}(T:eB t.limits bg)(hok:∀ x∈t.limits,x.ok=true)(hl:t.limits.length≤20)(l:List Sp)(hs:l.length≤1000):
  PSp prog 89 [.agg (tyC t),.one (.t (spans l))] (.tup [.agg (cell (iT t l).1),.one (.t (.bool (iT t l).2.1)),.one (.t (I (iT t l).2.2))]):=by
 have p74:=P74 T hok hl;obtain⟨r1,hr1⟩:∃ x,(iN t.limits).1=x:=⟨_,rfl⟩;obtain⟨r2,hr2⟩:∃ x,(iN t.limits).2=x:=⟨_,rfl⟩;rw[hr1,hr2]at p74;refine k89.aJ (by simp) (by simp[D.closed,A.closed]) rfl ?_
 by_cases z:l.length=0
 ·have zl:l=[]:=List.length_eq_zero_iff.1 z;subst zl;simp -implicitDefEqProofs [-aA,-gval,iT,spans,cell,aC]
 ·obtain⟨m,hm⟩:∃ m:Nat,l.length=m+1:=⟨l.length - 1,by omega⟩;obtain⟨x,hx⟩:∃ x,l[0]? =some x:=⟨_,gE9 (by omega)⟩;obtain⟨y,hy⟩:∃ y,l[m]? =some y:=⟨_,gE9 (by omega)⟩
  have e:iT t l=((x.1,y.2),r2,0):=by
   have e1:l.headD (0,0)=x:=by
    cases l with
    | nil=>cases hx
    | cons a r=>simpa using hx
   have e2:l.getD (l.length - 1) (0,0)=y:=by
    rw[hm,Nat.add_sub_cancel,List.getD_eq_getElem?_getD,hy];rfl
   have e3:(l.length==0)=false:=by simpa using z
   rw[iT,e1,e2,hr2,e3];rfl
  rw[e];have zI:((l.length:Int)==0)=false:=by simpa using z
  have h0:0<l.length:=by omega
  have h0I:(0:Int)<(l.length:Int):=by omega
  have hw:IntKind.i64.wrap ((l.length:Int) - 1)=(m:Int):=by rw[wrap_i64 (by omega) (by omega)];omega
  have hmI:(m:Int)<(l.length:Int):=by omega
  have hmN:m<l.length:=by omega
  simp -implicitDefEqProofs [-aA,-gval,zI,spans];refine aD.tree p74 rfl ?_;simp -implicitDefEqProofs [-aA,-gval,hw,h0,hmI,hmN,aE hx,aE hy,spr,cell,aC,-List.getElem_map]
def kT(t:Ty):Int:=bT [(dM t).2,if t.kind==2 then 0 else 4]
def kG(t:Ty):Sp×Bool×Int:=if kT t != 0 then((0,0),false,kT t)else iT t (if t.limits.length==0 then kA t else spL t.limits t.limits.length (cJ t.limits))
attribute [local simp] c43 in
theorem P43(t:Ty)(hn:t.narrow=true)(h82:(dM t).2=0→t.kind=2→t.limits.length=0→PSp prog 82 [.agg (tyC t)] (.one (.t (spans (kA t)))))
  (h90:(dM t).2=0→t.kind=2→t.limits.length≠0→(spL t.limits t.limits.length (cJ t.limits)).length≤1000∧PSp prog 90 [.one (.t (aI t.limits)),.one (.t (I ((cJ t.limits:Nat):Int)))] (.one (.t (spans (spL t.limits t.limits.length (cJ t.limits)))))):
  PSp prog 43 [.agg (tyC t)] (.tup [.agg (cell (kG t).1),.one (.t (.bool (kG t).2.1)),.one (.t (I (kG t).2.2))]):=by
 have p80:=P80 t hn
 have right:(dM t).2=0→∃bg,eB t.limits bg∧(∀x∈t.limits,x.ok=true)∧t.limits.length≤20:=fun h=>by
  have ht:=dQ t (gL h).1;obtain⟨hlen,bg,T⟩:=bO ht;exact⟨bg,T,jH ht,hlen⟩
 obtain⟨R,hR⟩:∃ R,kG t=R:=⟨_,rfl⟩;obtain⟨k,hk⟩:∃ k,(t.kind==2)=k:=⟨_,rfl⟩;have eE:kT t=bT [(dM t).2,if k then 0 else 4]:=by rw[kT,hk]
 rw[hR];rw[kG,eE]at hR;generalize (dM t).2=e at*;have p79:=P79 [e,if k then 0 else 4] (by simp[short])
 have hz:bT [e,if k then 0 else 4]=0→e=0∧k=true:=fun h=>by
  simp only[bI,dC]at h
  by_cases q:e=0
  ·cases k
   ·simp[q]at h
   ·exact⟨q,rfl⟩
  ·simp[q]at h
 generalize bT [e,if k then 0 else 4]=E at*;refine k43.aJ (by simp) (by simp[D.closed,A.closed]) rfl ?_;simp -implicitDefEqProofs [-aA,-gval];refine aD.bF p80 rfl ?_;simp -implicitDefEqProofs [-aA,-gval,hk];refine aD.bF (P81 k 4) rfl ?_;simp -implicitDefEqProofs [-aA,-gval];refine aD.draw p79 (by simp) (by simp) (.inl rfl) ?_;rcases eqCases E 0 with z | z
 ·obtain⟨z1,z2⟩:=hz z;obtain⟨bg,T,hok,hl⟩:=right z1;subst z2;have k2:t.kind=2:=by simpa using hk
  have p74:=P74 T hok hl
  by_cases q:t.limits.length=0
  ·have c:=h82 z1 k2 q;have ql:t.limits=[]:=List.length_eq_zero_iff.1 q;have e1:(iN t.limits).1= -1:=by simp[iN,ql]
   have hR:R=iT t (kA t):=by rw[←hR,z,ql];rfl
   have p89:=P89 t T hok hl (kA t) (by simp[kA,ql,k2,jN]);rw[←hR]at p89;generalize kA t=S at*;rw[e1]at p74;simp -implicitDefEqProofs [-aA,-gval,z];refine aD.tree p74 rfl ?_;simp -implicitDefEqProofs [-aA,-gval];refine aD.bF c rfl ?_;simp -implicitDefEqProofs [-aA,-gval];refine aD.bF p89 rfl ?_;simp -implicitDefEqProofs [-aA,-gval,cell,aC]
  ·obtain⟨c1,c2⟩:=h90 z1 k2 q;have qN:(t.limits.length==0)=false:=by simpa using q
   have e1:(iN t.limits).1=((cJ t.limits:Nat):Int):=by simp[iN,qN]
   have hR:R=iT t (spL t.limits t.limits.length (cJ t.limits)):=by rw[←hR,z,qN];rfl
   have p89:=P89 t T hok hl _ c1;rw[←hR]at p89;generalize spL t.limits t.limits.length (cJ t.limits)=S at*;have nn:¬ ((cJ t.limits:Nat):Int)<0:=by omega
   have nn2:(0:Int)≤((cJ t.limits:Nat):Int):=by omega
   rw[e1]at p74;generalize cJ t.limits=r at*;simp -implicitDefEqProofs [-aA,-gval,z];refine aD.tree p74 rfl ?_;simp -implicitDefEqProofs [-aA,-gval,nn];refine aD.bF c2 rfl ?_;simp -implicitDefEqProofs [-aA,-gval];refine aD.bF p89 rfl ?_;simp -implicitDefEqProofs [-aA,-gval,cell,aC]
 ·have hR:R=((0,0),false,E):=by rw[←hR,if_pos z.2.2.2.2.1]
  subst hR;simp -implicitDefEqProofs [-aA,-gval,z,cell,aC]
end
section
attribute [local simp] bB aN aS aI aU aO aX tyC fdC vlC ndC aL D.cO D.pt nL D.mD
end
def c44:aB:=zs 0 4 [zX 1 8 0,zo 2 (.alloc [za,za]),zW 3 false,zM 4 0] (.seq (.seq (.region 1 true 14 [zA 6 8 1,zq 7 80 [6],zf 8 0 1,zl 9 8,zq 10 60 [9],zv 11 10,.br 11 false [zg 12 (zF 0 1) 11 false,zg 13 (zy 12) 11 false,.mk (some 14) (zw 61 [13]) (some (11,false))],zQ 15 11 14,zc 16 81 [.tmp 15,zi 4],zo 17 (.bslice 1 2 [za,za] [(0,(1,.tmp 7)),(1,(1,.tmp 16))]),zq 18 79 [17],zv 5 18]) (zs 2 2 [zv 19 5,zK 20 .neq 19 0] (zd 20 (zs 3 5 [zo 21 (.build [za,za] []),zv 22 5,zS 2 2 21,zW 3 false,zv 4 22] .ret) .skip))) (.seq (zs 4 4 [zf 23 7 1,zl 24 23,zL 25 24,zK 26 .eql 25 0] (zd 26 (zs 5 6 [zA 27 8 1,zq 28 91 [27],zo 29 (.build [za,za] [(1,(1,.tmp 28))]),zS 2 2 29,zW 3 false,zM 4 0] .ret) .skip)) (.seq (.region 6 true 14 [zA 30 8 1,zA 31 8 1,zf 32 7 1,zl 33 32,zL 34 33,zK 35 .sub 34 1,zc 36 92 [.tmp 31,.tmp 35,zb false],zq 37 89 [30,36],zE 38 0 37,zE 39 1 37,zE 40 2 37,zS 2 2 38,zv 3 39,zv 4 40]) .ret)))
theorem k44:Compiled prog 44 41 [.cell 2 2 true,.tmp 3,.tmp 4] c44:=kMk [] func44
def c45:aB:=zs 0 3 [zX 1 8 0,zo 2 (.mv (.con (.one (.tt 2 [])))),zM 3 0] (.seq (.seq (.region 1 true 9 [zA 7 8 1,zq 8 80 [7],zf 9 0 1,zl 10 9,zK 11 .eql 10 6,zc 12 81 [.tmp 11,zi 4],zo 13 (.bslice 1 2 [za,za] [(0,(1,.tmp 8)),(1,(1,.tmp 12))]),zq 14 79 [13],zv 4 14]) (zs 2 2 [zv 15 4,zK 16 .neq 15 0] (zd 16 (zs 3 3 [zv 17 4,zo 2 (.mv (.con (.one (.tt 2 [])))),zv 3 17] .ret) .skip))) (zs 4 8 [zf 19 1 1,zl 20 19,zq 21 17 [20],zv 18 21,zE 22 0 18,zE 23 1 18,zv 5 22,zv 6 23] (.seq (zs 5 4 [zf 24 7 1,zl 25 24,zL 26 25,zK 27 .gtr 26 0] (zd 27 (zr 6 7 [zA 28 8 1,zf 29 7 1,zl 30 29,zL 31 30,zK 32 .sub 31 1,zc 33 92 [.tmp 28,.tmp 32,zb true],zv 5 33]) .skip)) (.seq (zs 7 3 [zv 34 5,zL 35 34,zK 36 .eql 35 0] (zd 36 (zs 8 2 [zo 2 (.mv (.con (.one (.tt 2 [])))),zM 3 23] .ret) .skip)) (zs 9 3 [zv 37 5,zv 2 37,zM 3 0] .ret)))))
theorem k45:Compiled prog 45 38 [.tmp 2,.tmp 3] c45:=kMk [] func45
def c92:aB:=zs 0 2 [zX 3 8 0,zo 6 (.mv (.con (.one (.tt 2 []))))] (zs 1 7 [zf 9 7 3,zl 10 9,zv 11 1,zI 12 5 10 11,zA 13 5 12,zo 7 (.alloc [za,za,za,.t (.str (bs [])),.tt 1 []]),zS 5 7 13] (zs 2 5 [zA 14 8 3,zq 15 91 [14],zo 16 (.build [za,za] [(1,(1,.tmp 15))]),zo 17 (.bslice 2 1 [za,za] [(0,(2,.tmp 16))]),zv 8 17] (.seq (zs 3 1 [zv 18 2] (zd 18 (zr 4 7 [zf 20 1 3,zl 21 20,zq 22 17 [21],zv 19 22,zE 23 0 19,zE 24 1 19,zv 8 23]) .skip)) (.seq (zs 5 2 [zf 25 0 7,zl 26 25] (.block 0 (zs 6 2 [zK 28 .eql 26 2,zv 27 28] (zd 27 (.seq (zs 7 1 [zv 29 2] (zd 29 (zs 8 2 [zv 30 8,zv 6 30] .ret) .skip)) (.seq (.region 9 true 8 [zf 31 7 3,zl 32 31,zf 33 4 7,zl 34 33,zj 35 1 34 0,zl 36 35,zq 37 90 [32,36],zv 6 37]) .ret)) (zs 10 2 [zK 39 .eql 26 3,zv 38 39] (zd 38 (.seq (zs 11 1 [zv 40 2] (zd 40 (.seq (.region 12 true 10 [zv 41 8,zf 42 7 3,zl 43 42,zf 44 4 7,zl 45 44,zj 46 1 45 0,zl 47 46,zq 48 90 [43,47],zq 49 132 [41,48],zv 6 49]) .ret) .skip)) (zs 13 2 [zv 50 8,zv 6 50] .ret)) (zs 14 2 [zK 52 .eql 26 4,zv 51 52] (zd 51 (.seq (.region 15 true 16 [zA 53 8 3,zf 54 4 7,zl 55 54,zj 56 1 55 0,zl 57 56,zv 58 2,zq 59 92 [53,57,58],zA 60 8 3,zf 61 4 7,zl 62 61,zj 63 1 62 1,zl 64 63,zv 65 2,zq 66 92 [60,64,65],zc 67 86 [zi 0,.tmp 59,.tmp 66],zv 6 67]) .ret) (zs 16 2 [zK 69 .eql 26 5,zv 68 69] (zd 68 (.seq (.region 17 true 16 [zA 70 8 3,zf 71 4 7,zl 72 71,zj 73 1 72 0,zl 74 73,zv 75 2,zq 76 92 [70,74,75],zA 77 8 3,zf 78 4 7,zl 79 78,zj 80 1 79 1,zl 81 80,zv 82 2,zq 83 92 [77,81,82],zq 84 132 [76,83],zv 6 84]) .ret) (.seq (zs 18 2 [zK 86 .eql 26 6,zv 85 86] (zd 85 .skip (zr 19 2 [zK 87 .eql 26 7,zv 85 87]))) (zd 85 (.seq (.region 20 true 8 [zA 88 8 3,zf 89 4 7,zl 90 89,zj 91 1 90 0,zl 92 91,zv 93 2,zq 94 92 [88,92,93],zv 6 94]) .ret) .skip)))))))))))) (zs 21 2 [zv 95 8,zv 6 95] .ret)))))
theorem k92:Compiled prog 92 96 [.tmp 6] c92:=kMk [] func92
def c9t3:aB:=zd 17 (zs 2 1 [zW 4 false] .ret) .skip
def c9t6:aB:=zd 37 (zs 4 1 [zW 4 true] .ret) .skip
def c9t10:aB:=zd 47 (zs 7 1 [zW 4 false] .ret) .skip
def c9t13:aB:=zd 49 (zs 9 1 [zW 4 true] .ret) .skip
def c9t17:aB:=zd 52 (zs 11 11 [zA 54 8 2,zq 55 15 [54],zq 56 43 [55],zv 53 56,zE 57 0 53,zE 58 1 53,zE 59 2 53,zo 7 (.alloc [za,za]),zS 2 7 57,zv 8 58,zv 9 59] (zs 12 12 [zv 60 9,zK 61 .eql 60 0,zv 62 61,.br 62 true [zg 63 (zF 1 3) 62 true,zg 64 (zy 63) 62 true,zg 65 (zF 0 7) 62 true,zg 66 (zy 65) 62 true,zg 67 (zF 1 7) 62 true,zg 68 (zy 67) 62 true,.mk (some 69) (zw 37 [64,66,68]) (some (62,true))],zP 70 62 69,zv 4 70] .ret)) .skip
def c9t21:aB:=zd 89 (zs 15 1 [zW 4 false] .ret) .skip
def c9t24:aB:=zd 92 (zs 17 1 [zW 4 true] .ret) .skip
def c9t28:aB:=zd 103 .skip (.exit 0)
def c9t31:aB:=zd 117 (zs 23 1 [zW 4 false] .ret) .skip
def c9t33:aB:= .seq (.block 1 (zs 22 12 [zv 106 14,zK 107 .neq 106 0,zv 108 107,.br 108 false [zg 109 (zm 13) 108 false,zg 110 (zF 3 3) 108 false,zg 111 (zy 110) 108 false,zg 112 (zm 15) 108 false,zg 113 (.ixs (.tmp 111) (.tmp 112)) 108 false,zg 114 (.cT .i64 (.tmp 113)) 108 false,.mk (some 115) (zw 41 [109,114]) (some (108,false)),zg 116 (zV 115) 108 false],zQ 117 108 116] c9t31)) (zr 21 3 [zv 104 15,zK 105 .add 104 1,zv 15 105])
def c9b34:aB:= .seq (zs 20 5 [zv 99 15,zf 100 3 3,zl 101 100,zp 102 101,zB 103 .lss 99 102] c9t28) c9t33
def c9t35:aB:= .block 0 (.loop c9b34)
def c9t37:aB:= .seq (zs 19 1 [zM 15 0] c9t35) (zs 24 1 [zW 4 true] .ret)
def c9t38:aB:=zs 18 8 [zA 94 8 2,zq 95 15 [94],zq 96 45 [95],zv 93 96,zE 97 0 93,zE 98 1 93,zv 13 97,zv 14 98] c9t37
def c9t39:aB:= .seq (zs 16 3 [zf 90 0 2,zl 91 90,zK 92 .neq 91 6] c9t24) c9t38
def c9t40:aB:= .seq (.seq (.region 14 true 12 [zv 78 12,zK 79 .neq 78 0,zv 80 79,.br 80 false [zg 81 (zt 6 3) 80 false,.mk (some 82) (zw 50 [81]) (some (80,false)),zg 83 (zF 0 10) 80 false,zg 84 (zy 83) 80 false,zg 85 (zF 1 10) 80 false,zg 86 (zy 85) 80 false,.mk (some 87) (zw 37 [82,84,86]) (some (80,false)),zg 88 (zV 87) 80 false],zQ 89 80 88]) c9t21) c9t39
def c9t41:aB:=zs 13 11 [zA 72 8 2,zq 73 15 [72],zq 74 44 [73],zv 71 74,zE 75 0 71,zE 76 1 71,zE 77 2 71,zo 10 (.alloc [za,za]),zS 2 10 75,zv 11 76,zv 12 77] c9t40
def c9t42:aB:= .seq (zs 10 3 [zf 50 0 2,zl 51 50,zK 52 .eql 51 2] c9t17) c9t41
def c9t43:aB:= .seq (zs 8 2 [zv 48 5,zN 49 48] c9t13) c9t42
def c9t44:aB:= .seq (zs 6 2 [zv 46 6,zK 47 .neq 46 0] c9t10) c9t43
def c9t45:aB:= .seq (.region 5 true 10 [zA 39 8 2,zq 40 15 [39],zA 41 6 3,zq 42 23 [41],zq 43 24 [40,42],zv 38 43,zE 44 0 38,zE 45 1 38,zv 5 44,zv 6 45]) c9t44
def c9t46:aB:= .seq (zs 3 20 [zA 18 8 2,zq 19 13 [18],zN 20 19,zv 21 20,.br 21 false [zg 22 (zt 6 3) 21 false,.mk (some 23) (zw 21 [22]) (some (21,false)),zg 24 (zV 23) 21 false],zQ 25 21 24,zv 26 25,.br 26 false [zg 27 (zt 8 2) 26 false,zg 28 (zt 6 3) 26 false,.mk (some 29) (zw 25 [27,28]) (some (26,false)),zg 30 (zU .neq 29 0) 26 false],zQ 31 26 30,zv 32 31,.br 32 false [zg 33 (zF 0 2) 32 false,zg 34 (zy 33) 32 false,.mk (some 35) (zw 49 [34]) (some (32,false)),zg 36 (zU .eql 35 0) 32 false],zQ 37 32 36] c9t6) c9t45
def c9t47:aB:= .seq (zs 1 2 [zc 16 12 [],zN 17 16] c9t3) c9t46
def c9:aB:=zs 0 3 [zX 2 8 0,zX 3 6 1,zW 4 false] c9t47
theorem k9:Compiled prog 9 118 [.tmp 4] c9:=kMk [] func9
section
attribute [local simp] bB aN aS aI aU aO aX tyC fdC vlC ndC aL D.cO D.pt
end
section
attribute [local simp] bB aN aS aI aU aO aX tyC fdC vlC ndC aL D.cO D.pt
attribute [local simp] c92 in
theorem P92{t:Ty}{bg:List Nat}{P3 P4 Q:Nat→Prop}(H:aE4 t bg P3 P4 Q)(of:Bool)(kd:Int)(all:List Sp)(hof:(of=false∧kd=2∧all=[(0,cB t.kind)])∨(of=true∧kd=3∧all=alpha t.name))(hA:In2 all)
  (c90:∀ n i,i<n→i<t.limits.length→P3 i∨P4 i→PSp prog 90 [.one (.t (aI t.limits)),.one (.t (I ((i:Nat):Int)))] (.one (.t (spans (spL t.limits n i))))):
  ∀n i,i<n→i<t.limits.length→Q i→PSp prog 92 [.agg (tyC t),.one (.t (I ((i:Nat):Int))),.one (.t (.bool of))] (.one (.t (spans (seL t.limits kd all n i)))):=by
 have p91:=P91 t;have p17:=P17 t.name;generalize (if fD t.name then(0:Int)else 7)=e17 at*;intro n
 induction n with
 | zero=>intro i hi;omega
 | succ n ih=>
  intro i hin hil hQ;have hx:t.limits[i]? =some (t.limits[i]'hil):=gE9 _;generalize t.limits[i]'hil=x at hx;have N:=H.tree.node i x hx;have hiI:(i:Int)<(t.limits.length:Int):=by omega
  obtain⟨r1,r2,r3,r4⟩:=dE (H.ok x (gM9 hx))
  have hk:(kd=2∧all=[(0,cB t.kind)])∨kd=3:=by
   rcases hof with⟨_,a,b⟩ | ⟨_,a,_⟩
   ·exact .inl ⟨a,b⟩
   ·exact .inr a
  have sub:x.k≠2→x.k≠3→∀k,k<x.args.length→In2 (seL t.limits kd all n (aG x k))∧PSp prog 92 [.agg (tyC t),.one (.t (I ((aG x k:Nat):Int))),.one (.t (.bool of))] (.one (.t (spans (seL t.limits kd all n (aG x k))))):=fun n2 n3 k hk'=>by
   obtain⟨m1,m2,m3⟩:=cK N hk';have:=H.eq i x hx hQ _ m1;rw[if_neg n2,if_neg n3]at this;obtain⟨a,b⟩:=tV H kd all hA hk n _ (by omega) (by omega) this;exact⟨by rw[a];exact b,ih _ (by omega) (by omega) this⟩
  obtain⟨R0,hR0⟩:∃ R,seL t.limits kd all (n+1) i=R:=⟨_,rfl⟩;rw[hR0];refine k92.aJ (by simp) (by simp[D.closed,A.closed]) rfl ?_;rcases eqCases x.k 2 with k2 | k2
  ·have one:=r2 (.inl k2);have pos:0<x.args.length:=by omega
   have a0:=kF N pos;have l0:(0:Int)<(x.args.length:Int):=by omega
   obtain⟨m1,m2,m3⟩:=cK N pos;have hp:=H.eq i x hx hQ _ m1;rw[if_pos k2]at hp;have c:=c90 n _ (by omega) (by omega) (.inl hp);rcases hof with⟨rfl,rfl,rfl⟩ | ⟨rfl,rfl,rfl⟩
   ·have e1:R0=spL t.limits n (aG x 0):=by rw[←hR0];simp[seL,hx,k2]
    rw[←e1]at c;simp -implicitDefEqProofs [-aA,-gval,hil,hiI,aE hx,Nd.row,k2,-List.getElem_map];refine aD.tree p91 rfl ?_;simp -implicitDefEqProofs [-aA,-gval,pos,aE a0,-List.getElem_map];refine aD.bF c rfl ?_;simp -implicitDefEqProofs [-aA,-gval,aC]
   ·have e1:R0=alpha t.name:=by rw[←hR0];simp[seL,hx,k2]
    subst e1;generalize alpha t.name=al at*;simp -implicitDefEqProofs [-aA,-gval,hil,hiI,aE hx,Nd.row,k2,-List.getElem_map];refine aD.tree p91 rfl ?_;simp -implicitDefEqProofs [-aA,-gval];refine aD.tree p17 rfl ?_;simp -implicitDefEqProofs [-aA,-gval,aC]
  ·rcases eqCases x.k 3 with k3 | k3
   ·have one:=r2 (.inr k3);have pos:0<x.args.length:=by omega
    have a0:=kF N pos;have l0:(0:Int)<(x.args.length:Int):=by omega
    obtain⟨m1,m2,m3⟩:=cK N pos;have hp:=H.eq i x hx hQ _ m1;rw[if_neg k2.2.1,if_pos k3]at hp;obtain⟨s1,s2⟩:=(xR H n (aG x 0) (by omega) (by omega)).2 hp;have c:=c90 n _ (by omega) (by omega) (.inr hp);rw[←s1]at s2;rcases hof with⟨rfl,rfl,rfl⟩ | ⟨rfl,rfl,rfl⟩
    ·have e1:R0=[(0,cB t.kind)]:=by rw[←hR0];simp[seL,hx,k3]
     subst e1;simp -implicitDefEqProofs [-aA,-gval,hil,hiI,aE hx,Nd.row,k3,-List.getElem_map];refine aD.tree p91 rfl ?_;simp -implicitDefEqProofs [-aA,-gval,aC,spans,spr]
    ·have e1:R0=bK (cI (alpha t.name) (spL t.limits n (aG x 0))):=by rw[←hR0];simp[seL,hx,k3]
     subst e1;have la:=hA.len;have lb:=s2.len;have hb:=aL1 (alpha t.name) (spL t.limits n (aG x 0)) (by have:=mV _ _ hA.1 s2.1;omega) (by omega) (by omega) hA.good s2.good;clear la lb hA s1 s2 hR0 sub;generalize alpha t.name=al at*;generalize spL t.limits n (aG x 0)=S at*;simp -implicitDefEqProofs [-aA,-gval,hil,hiI,aE hx,Nd.row,k3,-List.getElem_map];refine aD.tree p91 rfl ?_;simp -implicitDefEqProofs [-aA,-gval];refine aD.tree p17 rfl ?_;simp -implicitDefEqProofs [-aA,-gval,pos,aE a0,-List.getElem_map];refine aD.bF c rfl ?_;simp -implicitDefEqProofs [-aA,-gval];refine aD.bF hb rfl ?_;simp -implicitDefEqProofs [-aA,-gval,aC]
   ·have sub:=sub k2.2.1 k3.2.1;have k2d:¬ x.k=kd:=by rcases hk with⟨e,_⟩ | e<;>omega
    rcases eqCases x.k 4 with k4 | k4
    ·have two:=r3 (.inl k4);have pos:0<x.args.length:=by omega
     have aG2:1<x.args.length:=by omega
     have a0:=kF N pos;have a1:=kF N aG2;have l0:(0:Int)<(x.args.length:Int):=by omega
     have l1:(1:Int)<(x.args.length:Int):=by omega
     obtain⟨i0,c0⟩:=sub 0 pos;obtain⟨i1,c1⟩:=sub 1 aG2;have qk:¬ 4=kd:=by omega
     have e1:R0=bK (seL t.limits kd all n (aG x 0)++seL t.limits kd all n (aG x 1)):=by rw[←hR0];simp[seL,hx,k4,qk]
     have hu:=aL3 _ _ (by have:=i0.len;have:=i1.len;omega) i0.good i1.good;rw[←e1]at hu;clear hR0 e1 sub i0 i1 ih;generalize seL t.limits kd all n (aG x 0)=A at*;generalize seL t.limits kd all n (aG x 1)=B at*;rcases hof with⟨rfl,rfl,rfl⟩ | ⟨rfl,rfl,rfl⟩
     all_goals
      simp -implicitDefEqProofs [-aA,-gval,hil,hiI,aE hx,Nd.row,k4,-List.getElem_map];refine aD.tree p91 rfl ?_;simp -implicitDefEqProofs [-aA,-gval,pos,aE a0,-List.getElem_map]
      try(refine aD.tree p17 rfl ?_;simp -implicitDefEqProofs [-aA,-gval,pos,aE a0,-List.getElem_map])
      refine aD.bF c0 rfl ?_;simp -implicitDefEqProofs [-aA,-gval,aG2,l1,aE a1,-List.getElem_map];refine aD.bF c1 rfl ?_;simp -implicitDefEqProofs [-aA,-gval];refine aD.bF hu rfl ?_;simp -implicitDefEqProofs [-aA,-gval,aC]
    ·rcases eqCases x.k 5 with k5 | k5
     ·have two:=r3 (.inr (.inl k5));have pos:0<x.args.length:=by omega
      have aG2:1<x.args.length:=by omega
      have a0:=kF N pos;have a1:=kF N aG2;have l0:(0:Int)<(x.args.length:Int):=by omega
      have l1:(1:Int)<(x.args.length:Int):=by omega
      obtain⟨i0,c0⟩:=sub 0 pos;obtain⟨i1,c1⟩:=sub 1 aG2;have qk:¬ 5=kd:=by omega
      have e1:R0=bK (cI (seL t.limits kd all n (aG x 0)) (seL t.limits kd all n (aG x 1))):=by rw[←hR0];simp[seL,hx,k5,qk]
      have hu:=aL1 _ _ (by have:=mV _ _ i0.1 i1.1;have:=i0.len;have:=i1.len;omega) (by have:=i0.len;omega) (by have:=i1.len;omega) i0.good i1.good;rw[←e1]at hu;clear hR0 e1 sub i0 i1 ih;generalize seL t.limits kd all n (aG x 0)=A at*;generalize seL t.limits kd all n (aG x 1)=B at*;rcases hof with⟨rfl,rfl,rfl⟩ | ⟨rfl,rfl,rfl⟩
      all_goals
       simp -implicitDefEqProofs [-aA,-gval,hil,hiI,aE hx,Nd.row,k5,-List.getElem_map];refine aD.tree p91 rfl ?_;simp -implicitDefEqProofs [-aA,-gval,pos,aE a0,-List.getElem_map]
       try(refine aD.tree p17 rfl ?_;simp -implicitDefEqProofs [-aA,-gval,pos,aE a0,-List.getElem_map])
       refine aD.bF c0 rfl ?_;simp -implicitDefEqProofs [-aA,-gval,aG2,l1,aE a1,-List.getElem_map];refine aD.bF c1 rfl ?_;simp -implicitDefEqProofs [-aA,-gval];refine aD.bF hu rfl ?_;simp -implicitDefEqProofs [-aA,-gval,aC]
     ·rcases eqCases x.k 6 with k6 | k6
      ·have pos:=(r4 (by omega) (by omega)).1;have a0:=kF N pos;have l0:(0:Int)<(x.args.length:Int):=by omega
       obtain⟨_,c0⟩:=sub 0 pos;have qk:¬ 6=kd:=by omega
       have e1:R0=seL t.limits kd all n (aG x 0):=by rw[←hR0];simp[seL,hx,k6,qk]
       rw[←e1]at c0;rcases hof with⟨rfl,rfl,rfl⟩ | ⟨rfl,rfl,rfl⟩
       all_goals
        simp -implicitDefEqProofs [-aA,-gval,hil,hiI,aE hx,Nd.row,k6,-List.getElem_map];refine aD.tree p91 rfl ?_;simp -implicitDefEqProofs [-aA,-gval,pos,aE a0,-List.getElem_map]
        try(refine aD.tree p17 rfl ?_;simp -implicitDefEqProofs [-aA,-gval,pos,aE a0,-List.getElem_map])
        refine aD.bF c0 rfl ?_;simp -implicitDefEqProofs [-aA,-gval,aC]
      ·rcases eqCases x.k 7 with k7 | k7
       ·have pos:=(r4 (by omega) (by omega)).1;have a0:=kF N pos;have l0:(0:Int)<(x.args.length:Int):=by omega
        obtain⟨_,c0⟩:=sub 0 pos;have qk:¬ 7=kd:=by omega
        have e1:R0=seL t.limits kd all n (aG x 0):=by rw[←hR0];simp[seL,hx,k7,qk]
        rw[←e1]at c0;rcases hof with⟨rfl,rfl,rfl⟩ | ⟨rfl,rfl,rfl⟩
        all_goals
         simp -implicitDefEqProofs [-aA,-gval,hil,hiI,aE hx,Nd.row,k7,-List.getElem_map];refine aD.tree p91 rfl ?_;simp -implicitDefEqProofs [-aA,-gval,pos,aE a0,-List.getElem_map]
         try(refine aD.tree p17 rfl ?_;simp -implicitDefEqProofs [-aA,-gval,pos,aE a0,-List.getElem_map])
         refine aD.bF c0 rfl ?_;simp -implicitDefEqProofs [-aA,-gval,aC]
       ·have e1:R0=all:=by rw[←hR0];simp[seL,hx,k2d,k4,k5,k6,k7]
        clear hR0 sub ih;subst e1;rcases hof with⟨rfl,rfl,rfl⟩ | ⟨rfl,rfl,rfl⟩
        ·simp -implicitDefEqProofs [-aA,-gval,hil,hiI,aE hx,Nd.row,-List.getElem_map];refine aD.tree p91 rfl ?_;simp -implicitDefEqProofs [-aA,-gval,k2,k3,k4,k5,k6,k7,aC,spans,spr]
        ·generalize alpha t.name=al at*;simp -implicitDefEqProofs [-aA,-gval,hil,hiI,aE hx,Nd.row,-List.getElem_map];refine aD.tree p91 rfl ?_;simp -implicitDefEqProofs [-aA,-gval];refine aD.tree p17 rfl ?_;simp -implicitDefEqProofs [-aA,-gval,k2,k3,k4,k5,k6,k7,aC]
end
section
attribute [local simp] bB aN aS aI aU aO aX tyC fdC vlC ndC aL D.cO D.pt
def pJ(t:Ty):List Sp:=if t.limits.length==0 then[(0,cB t.kind)] else seR t.limits 2 [(0,cB t.kind)] t.limits.length (t.limits.length - 1)
def mX(t:Ty):List Sp:=if t.limits.length==0 then alpha t.name else seR t.limits 3 (alpha t.name) t.limits.length (t.limits.length - 1)
def mY(t:Ty):List Sp:=if t.limits.length==0 then aL5 t else nuR t.limits t.limits.length (cJ t.limits)
end
section
attribute [local simp] bB aN aS aI aU aO aX tyC fdC vlC ndC aL D.cO D.pt
def tW(k:Int):Bool:=(k==6||k==4||k==5)||(k==11||k==12)
def aNS(has:Bool)(t:Ty)(l:List Sp):Sp×Bool×Int:=if has then iT t l else((0,0),false,4)
def oI(t:Ty):List Sp:=if t.limits.length==0 then[(0,cB t.kind)] else seL t.limits 2 [(0,cB t.kind)] t.limits.length (t.limits.length - 1)
def lJ(t:Ty):Sp×Bool×Int:=if(dM t).2 != 0 then((0,0),false,(dM t).2)else aNS (tW t.kind) t (oI t)
theorem aG3(e:Int)(k:Bool):bT [e,if k then 0 else 4]=if e != 0 then e else if k then 0 else 4:=by
 simp only[bI,dC]
 by_cases q:e=0
 ·cases k<;>simp[q]
 ·simp[q]
attribute [local simp] c44 in
theorem P44(t:Ty)(hn:t.narrow=true)(hs:(dM t).2=0→(oI t).length≤1000)(c92:(dM t).2=0→tW t.kind=true→t.limits.length≠0→PSp prog 92 [.agg (tyC t),.one (.t (I ((t.limits.length - 1:Nat):Int))),.one (.t (.bool false))] (.one (.t (spans (oI t))))):
  PSp prog 44 [.agg (tyC t)] (.tup [.agg (cell (lJ t).1),.one (.t (.bool (lJ t).2.1)),.one (.t (I (lJ t).2.2))]):=by
 have p80:=P80 t hn;have p60:=P60 t.kind;have p61:=P61 t.kind;have p91:=P91 t
 have right:(dM t).2=0→∃bg,eB t.limits bg∧(∀x∈t.limits,x.ok=true)∧t.limits.length≤20:=fun h=>by
  have ht:=dQ t (gL h).1;obtain⟨hlen,bg,T⟩:=bO ht;exact⟨bg,T,jH ht,hlen⟩
 obtain⟨R,hR⟩:∃ R,lJ t=R:=⟨_,rfl⟩;rw[hR];rw[lJ]at hR;obtain⟨a,ea⟩:∃ a,(t.kind==6||t.kind==4||t.kind==5)=a:=⟨_,rfl⟩;obtain⟨b,eb⟩:∃ b,(t.kind==11||t.kind==12)=b:=⟨_,rfl⟩;have ek:tW t.kind=(a||b):=by rw[tW,ea,eb]
 rw[ek]at hR c92;rw[ea]at p60;rw[eb]at p61;generalize (dM t).2=e at*;have p79:=P79 [e,if(a||b)then 0 else 4] (by simp[short]);rw[aG3]at p79;have p81:=P81 (a||b) 4;obtain⟨k,hk⟩:∃ k,(a||b)=k:=⟨_,rfl⟩;rw[hk]at p79 p81 hR c92;refine k44.aJ (by simp) (by simp[D.closed,A.closed]) rfl ?_
 have tail:∀ E,(if e != 0 then e else if k then 0 else 4)=E→(E=0→e=0∧k=true)∧(E≠0→R=((0,0),false,E)):=fun E hE=>by
  by_cases q:e=0
  ·cases k
   ·simp[q]at hE;subst hE;refine⟨fun h=>(by cases h),fun _=>?_⟩;rw[←hR,q];rfl
   ·simp[q]at hE;subst hE;exact⟨fun _=>(⟨q,rfl⟩:e=0∧true=true),fun h=>absurd rfl h⟩
  ·have qb:(e != 0)=true:=by simpa using q
   rw[if_pos qb]at hE hR;subst hE;exact⟨fun h=>absurd h q,fun _=>hR.symm⟩
 obtain⟨E,hE⟩:∃ E,(if e != 0 then e else if k then 0 else 4)=E:=⟨_,rfl⟩;obtain⟨t1,t2⟩:=tail E hE;rw[hE]at p79;clear tail;simp -implicitDefEqProofs [-aA,-gval];refine aD.bF p80 rfl ?_;simp -implicitDefEqProofs [-aA,-gval];refine aD.bF p60 rfl ?_;cases a
 all_goals
  first
   | (have hb:b=k:=(by rw[←hk];rfl);subst hb;simp -implicitDefEqProofs [-aA,-gval];refine aD.bF p61 rfl ?_)
   | (have hb:true=k:=(by rw[←hk];rfl);subst hb)
  simp -implicitDefEqProofs [-aA,-gval];refine aD.bF p81 rfl ?_;simp -implicitDefEqProofs [-aA,-gval];refine aD.draw p79 (by simp) (by simp) (.inl rfl) ?_;rcases eqCases E 0 with z | z
  ·obtain⟨z1,z2⟩:=t1 z;obtain⟨bg,T,hok,hl⟩:=right z1;have hR:R=iT t (oI t):=by rw[←hR,z1,z2];rfl
   by_cases q:t.limits.length=0
   ·have ql:t.limits=[]:=List.length_eq_zero_iff.1 q
    have hR:R=((0,cB t.kind),false,0):=by
     have:(t.limits.length==0)=true:=by simpa using q
     rw[hR,oI,this];simp[iT,iN,q]
    subst hR;simp only[tyC,aI,ql,List.map_nil]at p91;simp -implicitDefEqProofs [-aA,-gval,z,ql];refine aD.tree p91 rfl ?_;simp -implicitDefEqProofs [-aA,-gval,cell,aC]
   ·have c:=c92 z1 z2 q;have p89:=P89 t T hok hl (oI t) (hs z1);rw[←hR]at p89;generalize oI t=S at*;have ql:¬ t.limits=[]:=fun e=>q (by rw[e];rfl)
    have hw:IntKind.i64.wrap ((t.limits.length:Int) - 1)=((t.limits.length - 1:Nat):Int):=by rw[wrap_i64 (by omega) (by omega)];omega
    generalize t.limits.length - 1=m at*;simp -implicitDefEqProofs [-aA,-gval,z,ql,hw];refine aD.bF c rfl ?_;simp -implicitDefEqProofs [-aA,-gval];refine aD.bF p89 rfl ?_;simp -implicitDefEqProofs [-aA,-gval,cell,aC]
  ·have hR:=t2 z.2.1;subst hR;simp -implicitDefEqProofs [-aA,-gval,z,cell,aC]
def mZ(t:Ty):List Sp:=if t.limits.length==0 then alpha t.name else seL t.limits 3 (alpha t.name) t.limits.length (t.limits.length - 1)
def jI(t:Ty):List Sp×Int:=if(dM t).2 != 0 then([],(dM t).2)else if t.kind==6 then(if(mZ t).length==0 then([],23)else(mZ t,0))else([],4)
attribute [local simp] c45 in
theorem P45(t:Ty)(hn:t.narrow=true)(c92:(dM t).2=0→t.kind=6→t.limits.length≠0→PSp prog 92 [.agg (tyC t),.one (.t (I ((t.limits.length - 1:Nat):Int))),.one (.t (.bool true))] (.one (.t (spans (mZ t))))):
  PSp prog 45 [.agg (tyC t)] (.tup [.one (.t (spans (jI t).1)),.one (.t (I (jI t).2))]):=by
 have p80:=P80 t hn;have p17:=P17 t.name;have hlen:(dM t).2=0→t.limits.length≤20:=fun h=>(bO (dQ t (gL h).1)).1
 obtain⟨R,hR⟩:∃ R,jI t=R:=⟨_,rfl⟩;rw[hR];rw[jI]at hR;obtain⟨k,hk⟩:∃ k,(t.kind==6)=k:=⟨_,rfl⟩;rw[hk]at hR;have c92:(dM t).2=0→k=true→_:=fun h e=>c92 h (by rw[e]at hk;simpa using hk)
 generalize (dM t).2=e at*;generalize (if fD t.name then(0:Int)else 7)=e17 at*;have p79:=P79 [e,if k then 0 else 4] (by simp[short]);rw[aG3]at p79;have p81:=P81 k 4;obtain⟨E,hE⟩:∃ E,(if e != 0 then e else if k then 0 else 4)=E:=⟨_,rfl⟩
 obtain⟨t1,t2⟩:(E=0→e=0∧k=true)∧(E≠0→R=([],E)):=by
  by_cases q:e=0
  ·cases k
   ·simp[q]at hE;subst hE;refine⟨fun h=>(by cases h),fun _=>?_⟩;rw[←hR,q];rfl
   ·simp[q]at hE;subst hE;exact⟨fun _=>(⟨q,rfl⟩:e=0∧true=true),fun h=>absurd rfl h⟩
  ·have qb:(e != 0)=true:=by simpa using q
   rw[if_pos qb]at hE hR;subst hE;exact⟨fun h=>absurd h q,fun _=>hR.symm⟩
 rw[hE]at p79;refine k45.aJ (by simp) (by simp[D.closed,A.closed]) rfl ?_;simp -implicitDefEqProofs [-aA,-gval];refine aD.bF p80 rfl ?_;simp -implicitDefEqProofs [-aA,-gval,hk];refine aD.bF p81 rfl ?_;simp -implicitDefEqProofs [-aA,-gval];refine aD.draw p79 (by simp) (by simp) (.inl rfl) ?_;rcases eqCases E 0 with z | z
 ·obtain⟨z1,z2⟩:=t1 z;have hl:=hlen z1;have hR:R=if(mZ t).length==0 then([],23)else(mZ t,0):=by rw[←hR,z1,z2];rfl
  by_cases q:t.limits.length=0
  ·have ql:t.limits=[]:=List.length_eq_zero_iff.1 q;have e1:mZ t=alpha t.name:=by simp[mZ,q]
   rw[e1]at hR;generalize alpha t.name=S at*
   by_cases s0:S.length=0
   ·have sl:S=[]:=List.length_eq_zero_iff.1 s0;subst sl;subst hR;simp -implicitDefEqProofs [-aA,-gval,z];refine aD.tree p17 rfl ?_;simp -implicitDefEqProofs [-aA,-gval,ql,spans,aC]
   ·have sb:(S.length==0)=false:=by simpa using s0
    have sl:¬ S=[]:=fun e=>s0 (by rw[e];rfl)
    rw[sb]at hR;subst hR;simp -implicitDefEqProofs [-aA,-gval,z];refine aD.tree p17 rfl ?_;simp -implicitDefEqProofs [-aA,-gval,ql,spans,sl,aC]
  ·have c:=c92 z1 z2 q;have ql:0<t.limits.length:=by omega
   have ql':¬ t.limits=[]:=fun e=>q (by rw[e];rfl)
   have hw:IntKind.i64.wrap ((t.limits.length:Int) - 1)=((t.limits.length - 1:Nat):Int):=by rw[wrap_i64 (by omega) (by omega)];omega
   generalize mZ t=S at*;generalize t.limits.length - 1=m at*
   by_cases s0:S.length=0
   ·have sl:S=[]:=List.length_eq_zero_iff.1 s0;subst sl;subst hR;simp -implicitDefEqProofs [-aA,-gval,z];refine aD.tree p17 rfl ?_;simp -implicitDefEqProofs [-aA,-gval,ql,ql',hw];refine aD.tree c rfl ?_;simp -implicitDefEqProofs [-aA,-gval,spans,aC]
   ·have sb:(S.length==0)=false:=by simpa using s0
    have sl:¬ S=[]:=fun e=>s0 (by rw[e];rfl)
    rw[sb]at hR;subst hR;simp -implicitDefEqProofs [-aA,-gval,z];refine aD.tree p17 rfl ?_;simp -implicitDefEqProofs [-aA,-gval,ql,ql',hw];refine aD.tree c rfl ?_;simp -implicitDefEqProofs [-aA,-gval,spans,sl,aC]
 ·have hR:=t2 z.2.1;subst hR;simp -implicitDefEqProofs [-aA,-gval,z,spans,aC]
end
section
attribute [local simp] bB aN aS aI aU aO aX tyC fdC vlC ndC aL D.cO D.pt
def aLC(is6:Bool)(l:List Sp):List Sp×Int:=if is6 then(if l.length==0 then([],23)else(l,0))else([],4)
end
section
attribute [local simp] bB aN aS aI aU aO aX tyC fdC vlC ndC aL D.cO D.pt
theorem aNT{t:Ty}{bg:List Nat}{P3 P4 Q:Nat→Prop}(H:aE4 t bg P3 P4 Q):
  (∀n i,i<n→i<t.limits.length→P3 i∨P4 i→spL t.limits n i=nuR t.limits n i∧In2 (nuR t.limits n i))∧(∀p x,t.limits[p]? =some x→P3 p∨P4 p→x.k=1→x.s.size≤200)∧
  (∀p x,t.limits[p]? =some x→P3 p∨P4 p→∀c:Nat,(c:Int)∈x.args→P3 c∨P4 c):=by
 refine⟨fun n i h1 h2 h3=>?_,fun p x hx hp k1=>?_,fun p x hx hp c hc=>?_⟩
 ·obtain⟨a,b⟩:=xR H n i h1 h2;rcases h3 with h | h
  ·exact⟨(a h).1,(a h).2.1⟩
  ·exact b h
 ·rcases hp with h | h
  ·exact absurd k1 (H.n3 p x hx h).1
  ·exact((H.n4 p x hx h).2.2.2 k1).1
 ·rcases hp with h | h
  ·exact .inl (H.e3 p x hx h c hc)
  ·exact .inr (H.e4 p x hx h c hc)
theorem aLD{t:Ty}{bg:List Nat}{P3 P4 Q:Nat→Prop}(H:aE4 t bg P3 P4 Q):∀ n i,i<n→i<t.limits.length→P3 i∨P4 i→PSp prog 90 [.one (.t (aI t.limits)),.one (.t (I ((i:Nat):Int)))] (.one (.t (spans (spL t.limits n i)))):=by
 obtain⟨key,txt,edge⟩:=aNT H
 exact Q90 ⟨H.tree,H.few,H.ok,fun n i h1 h2 h3=>by
   obtain⟨a,b⟩:=key n i h1 h2 h3;have:=b.len;rw[a]
   exact⟨b.1,b.good,by omega⟩,txt,edge⟩
theorem aLE(k:Int):In2 [(0,cB k)]:=by
 have:=aAV k;exact⟨⟨this.1,by simp,trivial⟩,by simp;omega⟩
theorem nZ{t:Ty}(h:(dM t).2=0):oI t=pJ t∧In2 (pJ t)∧(t.limits.length≠0→PSp prog 92 [.agg (tyC t),.one (.t (I ((t.limits.length - 1:Nat):Int))),.one (.t (.bool false))] (.one (.t (spans (oI t))))):=by
 by_cases q:t.limits.length=0
 ·have e:(t.limits.length==0)=true:=by simpa using q
  refine⟨by rw[oI,pJ,e];rfl,by rw[pJ,e];exact aLE _,fun h=>absurd q h⟩
 ·obtain⟨bg,P3,P4,Q,H⟩:=qB h q;have c90:=aLD H;have hA:=aLE t.kind;have hl:=H.few;obtain⟨s1,s2⟩:=tV H 2 _ hA (.inl ⟨rfl,rfl⟩) t.limits.length (t.limits.length - 1) (by omega) (by omega) H.last;have e:(t.limits.length==0)=false:=by simpa using q
  have e1:oI t=seL t.limits 2 [(0,cB t.kind)] t.limits.length (t.limits.length - 1):=by rw[oI,e];rfl
  have e2:pJ t=seR t.limits 2 [(0,cB t.kind)] t.limits.length (t.limits.length - 1):=by rw[pJ,e];rfl
  refine⟨by rw[e1,e2,s1],by rw[e2];exact s2,fun _=>?_⟩;rw[e1];exact P92 H false 2 _ (.inl ⟨rfl,rfl,rfl⟩) hA c90 _ _ (by omega) (by omega) H.last
theorem rI{t:Ty}(h:(dM t).2=0):mZ t=mX t∧In2 (mX t)∧(t.limits.length≠0→PSp prog 92 [.agg (tyC t),.one (.t (I ((t.limits.length - 1:Nat):Int))),.one (.t (.bool true))] (.one (.t (spans (mZ t))))):=by
 by_cases q:t.limits.length=0
 ·have e:(t.limits.length==0)=true:=by simpa using q
  refine⟨by rw[mZ,mX,e];rfl,by rw[mX,e];exact aE5 _,fun h=>absurd q h⟩
 ·obtain⟨bg,P3,P4,Q,H⟩:=qB h q;have c90:=aLD H;have hA:=aE5 t.name;have hl:=H.few;obtain⟨s1,s2⟩:=tV H 3 _ hA (.inr rfl) t.limits.length (t.limits.length - 1) (by omega) (by omega) H.last;have e:(t.limits.length==0)=false:=by simpa using q
  have e1:mZ t=seL t.limits 3 (alpha t.name) t.limits.length (t.limits.length - 1):=by rw[mZ,e];rfl
  have e2:mX t=seR t.limits 3 (alpha t.name) t.limits.length (t.limits.length - 1):=by rw[mX,e];rfl
  refine⟨by rw[e1,e2,s1],by rw[e2];exact s2,fun _=>?_⟩;rw[e1];exact P92 H true 3 _ (.inr ⟨rfl,rfl,rfl⟩) hA c90 _ _ (by omega) (by omega) H.last
theorem oA{t:Ty}(h:(dM t).2=0)(hk:t.kind=2):(if t.limits.length==0 then kA t else spL t.limits t.limits.length (cJ t.limits))=mY t∧(mY t).length≤1000∧
  (t.limits.length=0→PSp prog 82 [.agg (tyC t)] (.one (.t (spans (kA t)))))∧
  (t.limits.length≠0→(spL t.limits t.limits.length (cJ t.limits)).length≤1000∧PSp prog 90 [.one (.t (aI t.limits)),.one (.t (I ((cJ t.limits:Nat):Int)))] (.one (.t (spans (spL t.limits t.limits.length (cJ t.limits)))))):=by
 have ht:=dQ t (gL h).1;obtain⟨hlen,bg',T'⟩:=bO ht
 by_cases q:t.limits.length=0
 ·have e:(t.limits.length==0)=true:=by simpa using q
  have e1:kA t=jN:=by simp[kA,q,hk]
  have e2:mY t=jN:=by simp[mY,aL5,q,hk]
  refine⟨by rw[e,e2];exact e1,by rw[e2];simp[jN],fun _=>P82 t (by omega) fun h=>absurd q h,fun h=>absurd q h⟩
 ·obtain⟨bg,P,Q,T,hl,hok,hn,he,_,_,hP,_⟩:=xP h q (.inl hk);have bP:=aKY T hok P hn he;have hr:=sP T hok q
  have pr:P (cJ t.limits):=by
   have hx:t.limits[t.limits.length - 1]? =some (t.limits[t.limits.length - 1]'(by omega)):=gE9 _;generalize t.limits[t.limits.length - 1]'(by omega)=x at hx;rw[cJ,hx]
   by_cases q7:x.k=7
   ·simp only[q7,beq_self_eq_true,if_true];obtain⟨_,_,_,r4⟩:=dE (hok x (gM9 hx));obtain⟨m1,_,_⟩:=cK (T.node _ x hx) (k:=0) (r4 (by omega) (by omega)).1;exact he _ x hx (hP hk) _ m1
   ·have:(x.k==7)=false:=by simpa using q7
    simp only[this,Bool.false_eq_true,if_false];exact hP hk
  have b:=bP t.limits.length (cJ t.limits) hr hr pr
  have few:∀ n i,i<n→i<t.limits.length→P i→(spL t.limits n i).length≤150:=fun n i h1 h2 h3=>by
   have:=(bP n i h1 h2 h3).few;omega
  have c90:=Q90 (l:=t.limits) (bg:=bg) (V:=P) ⟨T,hl,hok,fun n i h1 h2 h3=>⟨(bP n i h1 h2 h3).gap,(bP n i h1 h2 h3).good,few n i h1 h2 h3⟩,fun p x hx hp k1=>absurd k1 (hn p x hx hp).1,he⟩ _ _ hr hr pr;have e:(t.limits.length==0)=false:=by simpa using q
  have e2:mY t=nuR t.limits t.limits.length (cJ t.limits):=by rw[mY,e];rfl
  have fr:=few _ _ hr hr pr;refine⟨by rw[e,e2];exact b.eq,by rw[e2,←b.eq];omega,fun h=>absurd h q,fun _=>⟨by omega,c90⟩⟩
end
theorem aAW{t:Ty}(h:(dM t).2=0):∀ p x,t.limits[p]? =some x→x.k=7→p+1=t.limits.length:=fun p x hx h7=>by
 obtain⟨h1,h2⟩:=gL h;have hp:=(gS9.1 hx).1
 have h3:(cY (kJ t (lk (cM t)))).2=0:=by
  simp only[xB]at h2;have e:(t.limits.length==0)=false:=by rw[beq_eq_false_iff_ne];omega
  rw[e]at h2;simp only[Bool.false_eq_true,if_false]at h2;split at h2
  ·cases h2
  ·exact h2
 have he:(kJ t (lk (cM t)))[p]? =some (lF t x (p+1==t.limits.length) (lk (cM t) p)):=by
  simp[kJ,List.getElem?_mapIdx,hx]
 have h4:=nY h3 _ (gM9 he);cases hr:(p+1==t.limits.length)
 ·rw[hr]at h4;simp[lF,h7,bI]at h4
 ·simpa using hr
theorem aID{l:List Nd}{bg:List Nat}(T:eB l bg)(hok:∀ x∈l,x.ok=true):∀ n k i m,i<n→i<k→i<l.length→cA l n i m=cA l k i m:=by
 intro n
 induction n with
 | zero=>intro k i m h;omega
 | succ n ih=>
  intro k i m hn hk hil;obtain⟨j,rfl⟩:∃ j,k=j+1:=⟨k - 1,by omega⟩;have hx:l[i]? =some (l[i]'hil):=gE9 _;generalize l[i]'hil=x at hx;have N:=T.node i x hx;obtain⟨r1,r2,r3,r4⟩:=dE (hok x (gM9 hx))
  have sub:∀ q,q<x.args.length→cA l n (aG x q) m=cA l j (aG x q) m:=fun q hq=>by
   obtain⟨m1,m2,m3⟩:=cK N hq;exact ih j _ m (by omega) (by omega) (by omega)
  by_cases q0:x.k=0
  ·simp[cA,hx,q0]
  ·by_cases q1:x.k=1
   ·simp[cA,hx,q1]
   ·have a:=sub 0 (r4 q0 q1).1
    by_cases two:1<x.args.length
    ·have b:=sub 1 two;simp[cA,hx,a,b]
    ·have n5:x.k≠5:=fun e=>by have:=r3 (.inr (.inl e));omega
     have n6:x.k≠6:=fun e=>by have:=r3 (.inr (.inr e));omega
     simp[cA,hx,a,two,n5,n6]
theorem aNU{l:List Nd}{bg:List Nat}(T:eB l bg)(hok:∀ x∈l,x.ok=true)(P:Nat→Prop)(hn:∀ p x,l[p]? =some x→P p→x.k≠1∧x.k≠2∧x.k≠3)(he:∀ p x,l[p]? =some x→P p→∀c:Nat,(c:Int)∈x.args→P c)(vn:Int)(vs:ByteArray)(sz:Int):
  ∀n i,i<l.length→P i→saR l vn vs sz n i=cA l n i vn:=by
 intro n
 induction n with
 | zero=>intro i _ _;rfl
 | succ n ih=>
  intro i hil hP;have hx:l[i]? =some (l[i]'hil):=gE9 _;generalize l[i]'hil=x at hx;have N:=T.node i x hx;obtain⟨n1,n2,n3⟩:=hn i x hx hP;obtain⟨r1,r2,r3,r4⟩:=dE (hok x (gM9 hx))
  have sub:∀ q,q<x.args.length→saR l vn vs sz n (aG x q)=cA l n (aG x q) vn:=fun q hq=>by
   obtain⟨m1,m2,m3⟩:=cK N hq;exact ih _ (by omega) (he i x hx hP _ m1)
  by_cases q0:x.k=0
  ·simp[saR,cA,hx,q0]
  ·have a:=sub 0 (r4 q0 n1).1
   by_cases two:1<x.args.length
   ·have b:=sub 1 two;simp[saR,cA,hx,a,b,q0,n1,n2,n3]
   ·have n5:x.k≠5:=fun e=>by have:=r3 (.inr (.inl e));omega
    have n6:x.k≠6:=fun e=>by have:=r3 (.inr (.inr e));omega
    simp[saR,cA,hx,a,q0,n1,n2,n3,two,n5,n6]
theorem aE6{t:Ty}{bg:List Nat}{P3 P4 Q:Nat→Prop}(H:aE4 t bg P3 P4 Q)(hm:∀ p x,t.limits[p]? =some x→x.k=7→p+1=t.limits.length)(kd:Int)(all:List Sp)(vn:Int)(vs:ByteArray)(sz m:Int)(hA:inS all m=true)
  (hk:(kd=2∧m=sz)∨(kd=3∧m∈chars vs)):
  ∀n k i,i<n→i<k→i<t.limits.length→Q i→(∀x,t.limits[i]? =some x→x.k≠7)→saR t.limits vn vs sz n i=true→inS (seR t.limits kd all k i) m=true:=by
 intro n
 induction n with
 | zero=>intro k i h;omega
 | succ n ih=>
  intro k i hn hk' hil hQ h7 hs;obtain⟨j,rfl⟩:∃ j,k=j+1:=⟨k - 1,by omega⟩;have hx:t.limits[i]? =some (t.limits[i]'hil):=gE9 _;generalize t.limits[i]'hil=x at hx;have N:=H.tree.node i x hx;have h7:=h7 x hx;obtain⟨r1,r2,r3,r4⟩:=dE (H.ok x (gM9 hx))
  by_cases q:x.k=kd
  ·have k23:x.k=2∨x.k=3:=by rcases hk with⟨e,_⟩ | ⟨e,_⟩<;>omega
   have one:=r2 k23;obtain⟨m1,m2,m3⟩:=cK N (k:=0) (by omega);have hc:=H.eq i x hx hQ _ m1;have e2:seR t.limits kd all (j+1) i=fJ 1 all (nuR t.limits j (aG x 0)) [] (dU (all++nuR t.limits j (aG x 0))):=by simp[seR,hx,q]
   rw[e2,(gU 1 _ _).2,hA]
   have mem:∀ P:Nat→Prop,(∀p x,t.limits[p]? =some x→P p→x.k≠2∧x.k≠3∧(x.k=0→x.lo≤x.hi))→(∀p x,t.limits[p]? =some x→P p→∀c:Nat,(c:Int)∈x.args→P c)→P (aG x 0)→cA t.limits n (aG x 0) m=true→inS (nuR t.limits j (aG x 0)) m=true:=fun P hn he hP hs=>by
    rw[(aC3 H.tree H.ok P hn he j _ (by omega) (by omega) hP).2,←aID H.tree H.ok n j _ m (by omega) (by omega) (by omega)];exact hs
   have key:inS (nuR t.limits j (aG x 0)) m=true:=by
    rcases hk with⟨rfl,rfl⟩ | ⟨rfl,hm'⟩
    ·rw[if_pos q]at hc;have e1:saR t.limits vn vs m (n+1) i=cA t.limits n (aG x 0) m:=by simp[saR,hx,q]
     rw[e1]at hs;exact mem P3 (fun p x hx hp=>⟨(H.n3 p x hx hp).2.1,(H.n3 p x hx hp).2.2.1,fun e=>((H.n3 p x hx hp).2.2.2 e).2.1⟩) H.e3 hc hs
    ·rw[if_neg (by omega),if_pos q]at hc;have e1:saR t.limits vn vs sz (n+1) i=(chars vs).all (fun c=>cA t.limits n (aG x 0) c):=by simp only[saR,hx];simp[q]
     rw[e1,List.all_eq_true]at hs;exact mem P4 (fun p x hx hp=>⟨(H.n4 p x hx hp).1,(H.n4 p x hx hp).2.1,fun e=>((H.n4 p x hx hp).2.2.1 e).2.1⟩) H.e4 hc (hs m hm')
   rw[key];rfl
  ·have sub:x.k≠2→x.k≠3→∀q,q<x.args.length→saR t.limits vn vs sz n (aG x q)=true→inS (seR t.limits kd all j (aG x q)) m=true:=fun n2 n3 q hq hs=>by
    obtain⟨m1,m2,m3⟩:=cK N hq;have:=H.eq i x hx hQ _ m1;rw[if_neg n2,if_neg n3]at this;exact ih j _ (by omega) (by omega) (by omega) this (fun y hy e=>by have:=hm _ y hy e;omega) hs
   by_cases q4:x.k=4
   ·have two:=r3 (.inl q4);have qk:¬ 4=kd:=by omega
    have e1:saR t.limits vn vs sz (n+1) i=(saR t.limits vn vs sz n (aG x 0)||saR t.limits vn vs sz n (aG x 1)):=by simp[saR,hx,q4,two]
    have e2:seR t.limits kd all (j+1) i=fJ 0 (seR t.limits kd all j (aG x 0)) (seR t.limits kd all j (aG x 1)) [] (dU (seR t.limits kd all j (aG x 0)++seR t.limits kd all j (aG x 1))):=by simp[seR,hx,q4,qk]
    rw[e1,Bool.or_eq_true]at hs;rw[e2,(gU 0 _ _).2];rcases hs with hs | hs
    ·rw[sub (by omega) (by omega) 0 (by omega) hs];simp[fK]
    ·rw[sub (by omega) (by omega) 1 (by omega) hs];simp[fK]
   ·by_cases q5:x.k=5
    ·have two:=r3 (.inr (.inl q5));have qk:¬ 5=kd:=by omega
     have e1:saR t.limits vn vs sz (n+1) i=(saR t.limits vn vs sz n (aG x 0)&&saR t.limits vn vs sz n (aG x 1)):=by simp[saR,hx,q5]
     have e2:seR t.limits kd all (j+1) i=fJ 1 (seR t.limits kd all j (aG x 0)) (seR t.limits kd all j (aG x 1)) [] (dU (seR t.limits kd all j (aG x 0)++seR t.limits kd all j (aG x 1))):=by simp[seR,hx,q5,qk]
     rw[e1,Bool.and_eq_true]at hs;rw[e2,(gU 1 _ _).2,sub (by omega) (by omega) 0 (by omega) hs.1,sub (by omega) (by omega) 1 (by omega) hs.2];rfl
    ·by_cases q6:x.k=6
     ·have two:=r3 (.inr (.inr q6));have qk:¬ 6=kd:=by omega
      have e1:saR t.limits vn vs sz (n+1) i=(saR t.limits vn vs sz n (aG x 0)&& !saR t.limits vn vs sz n (aG x 1)):=by simp[saR,hx,q6]
      have e2:seR t.limits kd all (j+1) i=seR t.limits kd all j (aG x 0):=by simp[seR,hx,q6,qk]
      rw[e1,Bool.and_eq_true]at hs;rw[e2];exact sub (by omega) (by omega) 0 (by omega) hs.1
     ·have e2:seR t.limits kd all (j+1) i=all:=by simp[seR,hx,q,q4,q5,q6,h7]
      rw[e2];exact hA
theorem aAX{t:Ty}{bg:List Nat}{P3 P4 Q:Nat→Prop}(H:aE4 t bg P3 P4 Q)(hl:t.limits.length≠0)(hm:∀ p x,t.limits[p]? =some x→x.k=7→p+1=t.limits.length)(kd:Int)(all:List Sp)(vn:Int)(vs:ByteArray)(sz m:Int)(hA:inS all m=true)
  (hk:(kd=2∧m=sz)∨(kd=3∧m∈chars vs)) (hs:saR t.limits vn vs sz t.limits.length (cJ t.limits)=true):inS (seR t.limits kd all t.limits.length (t.limits.length - 1)) m=true:=by
 have hx:t.limits[t.limits.length - 1]? =some (t.limits[t.limits.length - 1]'(by omega)):=gE9 _;generalize t.limits[t.limits.length - 1]'(by omega)=x at hx
 by_cases q:x.k=7
 ·have N:=H.tree.node _ x hx;obtain⟨_,_,_,r4⟩:=dE (H.ok x (gM9 hx));obtain⟨m1,m2,m3⟩:=cK N (k:=0) (r4 (by omega) (by omega)).1;have er:cJ t.limits=aG x 0:=by rw[cJ,hx];simp[q]
  have hQ:=H.eq _ x hx H.last _ m1;rw[if_neg (by omega),if_neg (by omega)]at hQ;obtain⟨j,hj⟩:∃ j,t.limits.length=j+1:=⟨t.limits.length - 1,by omega⟩;have qk:¬ 7=kd:=by rcases hk with⟨e,_⟩ | ⟨e,_⟩<;>omega
  have e2:seR t.limits kd all t.limits.length (t.limits.length - 1)=seR t.limits kd all j (aG x 0):=by
   have hx':t.limits[j]? =some x:=by rw[hj,Nat.add_sub_cancel]at hx;exact hx
   rw[hj,Nat.add_sub_cancel];simp[seR,hx',q,qk]
  rw[e2];rw[er]at hs;exact aE6 H hm kd all vn vs sz m hA hk t.limits.length j _ (by omega) (by omega) (by omega) hQ (fun y hy e=>by have:=hm _ y hy e;omega) hs
 ·have er:cJ t.limits=t.limits.length - 1:=by
   have:(x.k==7)=false:=by simpa using q
   rw[cJ,hx];simp[this]
  rw[er]at hs;exact aE6 H hm kd all vn vs sz m hA hk t.limits.length t.limits.length _ (by omega) (by omega) (by omega) H.last (fun y hy=>by rw[hx]at hy;cases hy;exact q) hs
theorem aG4{v:Vl}(h:v.bN=0):v.cP=true:=by
 have h1:v.fB=0:=by
  rw[Vl.bN,Vl.pT]at h;split at h
  ·cases h
  ·exact h
 have h2:v.fG=0:=by
  rw[Vl.nP]at h1;split at h1
  ·rename_i e;rw[h1]at e;simp at e
  ·rename_i e;simpa using e
 rw[Vl.fG]at h2;split at h2
 ·rw[Vl.aD3]at h2;split at h2
  ·cases h2
  ·rw[Vl.aF9]at h2;split at h2
   ·assumption
   ·cases h2
 ·cases h2
theorem vJ{t:Ty}{v:Vl}(h:cG t v=0):v.kind=iG t.kind∧(t.kind=6→∀c∈chars v.s,inS (alpha t.name) c=true):=by
 obtain⟨h1,h2,h3⟩:=val_zero h;rw[tS t v (mW h2).1 (rH (gL h1).1),oH]at h3;simp only[Bool.and_eq_true,beq_iff_eq]at h3;refine⟨h3.1,fun k6 c hc=>?_⟩;have:=h3.2;simp only[k6,beq_self_eq_true,Bool.true_and,Bool.not_eq_true',List.any_eq_false]at this;simpa using this c hc
theorem aE7{t:Ty}{v:Vl}(h:cG t v=0)(hk:t.kind=4∨t.kind=5∨t.kind=6∨t.kind=11∨t.kind=12):inS [(0,cB t.kind)] ((v.s.size:Int)+v.items.length)=true:=by
 obtain⟨_,h2,_⟩:=val_zero h;obtain⟨_,f2,f3⟩:=mW h2;have kv:=(vJ h).1;simp only[Vl.bU,Bool.or_eq_false_iff]at f2;obtain⟨⟨⟨⟨_,_⟩,hs⟩,_⟩,hi⟩:=f2
 have s0:bL v.s (bs [])=true→v.s.size=0:=fun e=>by
  have e1:v.s.toList=(bs []).toList:=by simpa[bL]using e
  have e2:(bs []).toList=[]:=by simp[bs]
  rw[e2,ByteArray.toList_eq]at e1;rw[←dsize,e1];rfl
 simp only[Vl.large,Bool.or_eq_false_iff,decide_eq_false_iff_not]at f3;obtain⟨g1,g2⟩:=f3
 have fin:∀ B:Int,cB t.kind=B→(v.s.size:Int)+v.items.length≤B→inS [(0,cB t.kind)] ((v.s.size:Int)+v.items.length)=true:=fun B e hb=>by
  rw[e];simp[inS];omega
 rcases hk with k | k | k | k | k
 all_goals
  rw[k]at kv
  first
   | (have kv:v.kind=4:=kv;have i0:v.items.length=0:=(by rw[kv]at hi;simpa[fS]using hi);have s1:¬ 200<v.s.size:=(by simpa[Vl.tI,kv]using g1);exact fin 200 (by rw[k];rfl) (by omega))
   | (have kv:v.kind=5:=kv;have i0:v.items.length=0:=(by rw[kv]at hi;simpa[fS]using hi);have s1:¬ 200<v.s.size:=(by simpa[Vl.tI,kv]using g1);exact fin 200 (by rw[k];rfl) (by omega))
   | (have kv:v.kind=6:=kv;have i0:v.items.length=0:=(by rw[kv]at hi;simpa[fS]using hi);have s1:¬ 200<v.s.size:=(by simpa[Vl.tI,kv]using g1);exact fin 200 (by rw[k];rfl) (by omega))
   | (have kv:v.kind=10:=kv;have i0:v.s.size=0:=s0 (by rw[kv]at hs;simpa[jT]using hs);have s1:¬ 40<v.items.length:=(by simpa[kv]using g2);exact fin 40 (by rw[k];rfl) (by omega))
   | (have kv:v.kind=11:=kv;have i0:v.s.size=0:=s0 (by rw[kv]at hs;simpa[jT]using hs);have s1:¬ 40<v.items.length:=(by simpa[kv]using g2);exact fin 40 (by rw[k];rfl) (by omega))
theorem aE8{t:Ty}{v:Vl}(h:cG t v=0)(hr:yI t v=true):(t.kind=2→Gap (mY t)∧inS (mY t) v.n=true)∧((t.kind=4∨t.kind=5∨t.kind=6∨t.kind=11∨t.kind=12)→inS (pJ t) ((v.s.size:Int)+v.items.length)=true)∧(t.kind=6→∀c∈chars v.s,inS (mX t) c=true):=by
 obtain⟨h1,h2,_⟩:=val_zero h;rw[(aLA h).2]at hr
 by_cases q:t.limits.length=0
 ·have e:(t.limits.length==0)=true:=by simpa using q
  refine⟨fun k=>?_,fun hk=>by rw[pJ,e];exact aE7 h hk,fun k c hc=>by rw[mX,e];exact(vJ h).2 k c hc⟩;have e2:mY t=jN:=by simp[mY,aL5,q,k]
  have kv:=(vJ h).1;rw[k]at kv;have kv:v.kind=2:=kv;have:=aG4 h2;rw[Vl.cP]at this;have this:isNum v.n=true:=by simpa[kv]using this
  rw[e2];refine⟨⟨by decide,by simp,trivial⟩,?_⟩;simp[jN,inS,isNum]at this ⊢;omega
 ·have e:(t.limits.length==0)=false:=by simpa using q
  rw[e,Bool.false_or]at hr;refine⟨fun k=>?_,fun hk=>?_,fun k c hc=>?_⟩
  ·obtain⟨bg,P,Q,T,hl,hok,hn,he,_,_,hP,_⟩:=xP h1 q (.inl k);have hr':=sP T hok q
   have pr:P (cJ t.limits):=by
    have hx:t.limits[t.limits.length - 1]? =some (t.limits[t.limits.length - 1]'(by omega)):=gE9 _;generalize t.limits[t.limits.length - 1]'(by omega)=x at hx;rw[cJ,hx]
    by_cases q7:x.k=7
    ·simp only[q7,beq_self_eq_true,if_true];obtain⟨_,_,_,r4⟩:=dE (hok x (gM9 hx));obtain⟨m1,_,_⟩:=cK (T.node _ x hx) (k:=0) (r4 (by omega) (by omega)).1;exact he _ x hx (hP k) _ m1
    ·have:(x.k==7)=false:=by simpa using q7
     simp only[this,Bool.false_eq_true,if_false];exact hP k
   rw[aNU T hok P (fun p x hx hp=>⟨(hn p x hx hp).1,(hn p x hx hp).2.1,(hn p x hx hp).2.2.1⟩) he v.n v.s _ _ _ hr' pr]at hr;have e2:mY t=nuR t.limits t.limits.length (cJ t.limits):=by rw[mY,e];rfl
   obtain⟨g1,g2⟩:=aC3 T hok P (fun p x hx hp=>⟨(hn p x hx hp).2.1,(hn p x hx hp).2.2.1,fun e=>((kP _).1 ((hn p x hx hp).2.2.2 e)).1⟩) he _ _ hr' hr' pr;rw[e2];exact⟨g1,by rw[g2];exact hr⟩
  ·obtain⟨bg,P3,P4,Q,H⟩:=qB h1 q;have e2:pJ t=seR t.limits 2 [(0,cB t.kind)] t.limits.length (t.limits.length - 1):=by rw[pJ,e];rfl
   rw[e2];exact aAX H q (aAW h1) 2 _ v.n v.s _ _ (aE7 h hk) (.inl ⟨rfl,rfl⟩) hr
  ·obtain⟨bg,P3,P4,Q,H⟩:=qB h1 q;have e2:mX t=seR t.limits 3 (alpha t.name) t.limits.length (t.limits.length - 1):=by rw[mX,e];rfl
   rw[e2];exact aAX H q (aAW h1) 3 _ v.n v.s _ _ ((vJ h).2 k c hc) (.inr ⟨rfl,hc⟩) hr
theorem aE9:∀ {l:List Sp},Gap l→∀y∈l,(l.headD (0,0)).1≤y.1∧y.2≤(l.getD (l.length - 1) (0,0)).2
 | [],_,y,hy=>by cases hy
 | [x],_,y,hy=>by rw[List.mem_singleton.1 hy];simp
 | x::z::r,h,y,hy=>by
  have ih:=aE9 (l:=z::r) h.2.2;have e:((x::z::r).getD ((x::z::r).length - 1) (0,0))=((z::r).getD ((z::r).length - 1) (0,0)):=by simp
  rw[e];rcases List.mem_cons.1 hy with q | q
  ·subst q;have h1:=h.2.1 z (by simp);have h2:=ih z (by simp);have h3:=h.2.2.valid z (by simp);refine⟨by simp,?_⟩;omega
  ·have h1:=h.2.1 y q;have h2:=ih y q;have h3:=h.1;refine⟨?_,h2.2⟩;simp only[List.headD_cons];omega
theorem aEA{t:Ty}{l:List Sp}(g:Gap l){m:Int}(hm:inS l m=true):∃ a b,iT t l=((a,b),(iN t.limits).2,0)∧a≤m∧m≤b:=by
 obtain⟨y,hy,h1,h2⟩:=eA.1 hm;obtain⟨e1,e2⟩:=aE9 g y hy
 have ne:(l.length==0)=false:=by
  cases l with
  | nil=>cases hy
  | cons _ _=>rfl
 exact⟨(l.headD (0,0)).1,(l.getD (l.length - 1) (0,0)).2,by rw[iT,ne];rfl,by omega,by omega⟩
section
attribute [local simp] bB aN aS aI aU aO aX tyC fdC vlC ndC aL D.cO D.pt
theorem aEB{l:List Nd}{bg:List Nat}{P Q:Nat→Prop}(H:aL9 l bg P Q):∀ n i,i<n→i<l.length→P i→(spL l n i).length≤1000∧PSp prog 90 [.one (.t (aI l)),.one (.t (I ((i:Nat):Int)))] (.one (.t (spans (spL l n i)))):=fun n i h1 h2 h3=>
 ⟨by have:=(aE1 H n i h1 h2 h3).2.2;omega,Q90 ⟨H.tree,H.few,H.ok,fun n i a b c=>by
  obtain⟨x,y,z⟩:=aE1 H n i a b c
  exact⟨x,y,by omega⟩,fun p x hx hp k1=>((H.node p x hx hp).2.2.2 k1).1,H.edge⟩ n i h1 h2 h3⟩
theorem aEC(t:Ty)(hn:t.narrow=true)(v:Vl)(hv:v.fine)(hvs:v.s.size≤1000000):
  PSp prog 22 [.agg (tyC t),.agg (vlC v)] (.tup [.one (.t (.bool (cG t v==0&&aG0 t v))),.one (.t (I (cG t v)))])∧
  PSp prog 24 [.agg (tyC t),.agg (vlC v)] (.tup [.one (.t (.bool (cG t v==0&&yI t v))),.one (.t (I (cG t v)))]):=by
 have c71:=P71 t hn v hv hvs fun h=>(mW h).1
 refine⟨P22 t v c71 fun h hl=>?_,P24 t v c71 fun h=>?_⟩
 ·obtain⟨h1,_,_⟩:=val_zero h;obtain⟨bg,P,Q,H⟩:=tU h1 hl;exact⟨H.few,P72 H.tree H.ok v hvs P Q H.from_ (aEB H) _ _ (by omega) (by omega) H.last⟩
 ·obtain⟨h1,_,_⟩:=val_zero h;have ht:=dQ t (gL h1).1;obtain⟨hlen,bg,T⟩:=bO ht;refine⟨⟨bg,T⟩,jH ht,hlen,fun hl=>?_⟩;obtain⟨bg,P,Q,H⟩:=tU h1 hl;have hr:=sP H.tree H.ok hl;exact P72 H.tree H.ok v hvs P Q H.from_ (aEB H) _ _ hr hr (aGR H hl)
end
section
attribute [local simp] bB aN aS aI aU aO aX tyC fdC vlC ndC aL D.cO D.pt
def exT:Ty:= .mk 2 (bs []) [] [] false 0 [] [⟨0,1,5,bs [],[]⟩,⟨0,8,8,bs [],[]⟩,⟨7,0,0,bs [],[0,1]⟩]
def exV:Vl:= .mk 2 8 0 (bs []) [] []
attribute [local simp] c56r0 c56r1 c56 in
theorem P56:PSp prog 56 [] (.agg (tyC exT)):=by
 refine k56.aJ (by simp) (by simp[]) rfl ?_;simp -implicitDefEqProofs [-aA,-gval,exT,tyC,aC];and_intros<;>rfl
attribute [local simp] c40 in
theorem P40(n:Int):PSp prog 40 [.one (.t (I n))] (.agg (vlC (.mk 2 n 0 (bs []) [] []))):=by
 refine k40.aJ (by simp) (by simp[D.closed,A.closed]) rfl ?_;simp -implicitDefEqProofs [-aA,-gval,vlC,aC];and_intros<;>rfl
theorem aLF:exT.narrow=true∧exV.fine∧cG exT exV=0∧aG0 exT exV=true∧yI exT exV=false∧kG exT=((1,5),true,0):=by
 refine⟨by kernel_rfl,Vl.tJ _ (by kernel_rfl),by kernel_rfl,by kernel_rfl,by kernel_rfl,by kernel_rfl⟩
theorem aNV:(spL exT.limits exT.limits.length (cJ exT.limits)).length≤1000∧PSp prog 90 [.one (.t (aI exT.limits)),.one (.t (I ((cJ exT.limits:Nat):Int)))] (.one (.t (spans (spL exT.limits exT.limits.length (cJ exT.limits))))):=by
 have ht:bS exT.limits=true:=by kernel_rfl
 obtain⟨hlen,bg,T⟩:=bO ht;have e0:cJ exT.limits=0:=by kernel_rfl
 have e1:∀ n,0<n→spL exT.limits n 0=[(1,5)]:=fun n hn=>by
  obtain⟨m,rfl⟩:∃ m,n=m+1:=⟨n - 1,by omega⟩;rfl
 have e2:∀ p x,exT.limits[p]? =some x→p=0→x=⟨0,1,5,bs [],[]⟩:=fun p x hx hp=>by
  subst hp;exact(Option.some.inj hx).symm
 have H:aT0 exT.limits bg (· =0):=⟨T,hlen,jH ht,fun n i h1 _ h3=>by
  subst h3;rw[e1 n h1]
  exact⟨⟨by decide,by simp,trivial⟩,by decide,by decide⟩,fun p x hx hp k1=>(by rw[e2 p x hx hp]at k1;cases k1),fun p x hx hp c hc=>(by rw[e2 p x hx hp]at hc;cases hc)⟩
 rw[e0];exact⟨by rw[e1 _ (by decide)];decide,Q90 H _ 0 (by decide) (by decide) rfl⟩
attribute [local simp] c12 in
theorem aQ4:PSp prog 12 [] (.one (.t (.bool true))):=by
 obtain⟨hn,hv,e1,e2,e3,e4⟩:=aLF;obtain⟨p22,p24⟩:=aEC exT hn exV hv (by decide);have p43:=P43 exT hn (fun _ _ h=>absurd h (by decide)) fun _ _ _=>aNV
 rw[e1,e2]at p22;rw[e1,e3]at p24;rw[e4]at p43;have p56:=P56;have p40:PSp prog 40 [.one (.t (I 8))] (.agg (vlC exV)):=P40 8;generalize exT=t at*;generalize exV=v at*;refine k12.aJ (by simp) (by simp[]) rfl ?_;simp -implicitDefEqProofs [-aA,-gval];refine aD.tree p56 rfl ?_;simp -implicitDefEqProofs [-aA,-gval];refine aD.tree p40 rfl ?_;simp -implicitDefEqProofs [-aA,-gval];refine aD.tree p22 rfl ?_;simp -implicitDefEqProofs [-aA,-gval];refine aD.tree p56 rfl ?_;simp -implicitDefEqProofs [-aA,-gval];refine aD.tree p40 rfl ?_;simp -implicitDefEqProofs [-aA,-gval];refine aD.tree p24 rfl ?_;simp -implicitDefEqProofs [-aA,-gval];refine aD.tree p56 rfl ?_;simp -implicitDefEqProofs [-aA,-gval];refine aD.tree p43 rfl ?_;simp -implicitDefEqProofs [-aA,-gval,cell,aC]
end
section
attribute [local simp] bB aN aS aI aU aO aX tyC fdC vlC ndC aL D.cO D.pt cell
theorem aLG(t:Ty)(hn:t.narrow=true):PSp prog 43 [.agg (tyC t)] (.tup [.agg (cell (kG t).1),.one (.t (.bool (kG t).2.1)),.one (.t (I (kG t).2.2))])∧
  PSp prog 44 [.agg (tyC t)] (.tup [.agg (cell (lJ t).1),.one (.t (.bool (lJ t).2.1)),.one (.t (I (lJ t).2.2))])∧
  PSp prog 45 [.agg (tyC t)] (.tup [.one (.t (spans (jI t).1)),.one (.t (I (jI t).2))]):=by
 refine⟨P43 t hn (fun h hk=>(oA h hk).2.2.1) fun h hk=>(oA h hk).2.2.2,P44 t hn (fun h=>?_) fun h _=>(nZ h).2.2,P45 t hn fun h _=>(rI h).2.2⟩;obtain⟨a,b,_⟩:=nZ h;have:=b.len;rw[a];omega
theorem aIE{t:Ty}(h:(dM t).2=0):kG t=aNS (t.kind==2) t (mY t)∧lJ t=aNS (tW t.kind) t (pJ t)∧jI t=aLC (t.kind==6) (mX t):=by
 have q:((dM t).2 != 0)=false:=by simpa using h
 refine⟨?_,?_,?_⟩
 ·have e:kT t=if t.kind==2 then 0 else 4:=by rw[kT,aG3,q];rfl
  rw[kG,e,aNS];rcases eqCases t.kind 2 with k | k
  ·have:=(oA h k).1;simp only[k,beq_self_eq_true,if_true,bne_self_eq_false,Bool.false_eq_true,if_false];rw[this]
  ·simp[k]
 ·rw[lJ,q,(nZ h).1];rfl
 ·rw[jI,q,(rI h).1];rfl
end
section
attribute [local simp] bB aN aS aI aU aO aX tyC fdC vlC ndC aL D.cO D.pt nL D.mD cell
attribute [local simp] c9t3 c9t6 c9t10 c9t13 c9t17 c9t21 c9t24 c9t28 c9t31 c9t33 c9b34 c9t35 c9t37 c9t38 c9t39 c9t40 c9t41 c9t42 c9t43 c9t44 c9t45 c9t46 c9t47 c9 in
theorem P9(t:Ty)(v:Vl)(ht:t.fine)(hv:v.fine):PSp prog 9 [.agg (tyC t),.agg (vlC v)] (.one (.t (.bool true))):=by
 have p13:=P13 t ht;have p21:=P21 v hv
 have rest:t.tiny=true→v.few=true→t.narrow=true∧v.slim=true∧v.s.size≤1000000∧v.items.length≤1000000:=fun h1 h2=>by
  rw[Ty.tiny,Bool.and_eq_true]at h1;have s:=Vl.sF h2;obtain⟨s1,_,s3,_⟩:=(Vl.wT v).1 s;exact⟨h1.2,s,by omega,by omega⟩
 generalize t.tiny=b at*;generalize v.few=d at*;refine k9.aJ (by simp) (by simp[D.closed,A.closed]) rfl ?_;simp -implicitDefEqProofs [-aA,-gval];refine aD.tree aQ4 rfl ?_;simp -implicitDefEqProofs [-aA,-gval];refine aD.tree p13 rfl ?_;cases b
 ·simp -implicitDefEqProofs [-aA,-gval,aC]
 ·simp -implicitDefEqProofs [-aA,-gval];refine aD.tree p21 rfl ?_;cases d
  ·simp -implicitDefEqProofs [-aA,-gval,aC]
  ·obtain⟨hn,hs,hvs,hvi⟩:=rest rfl rfl;have p24:=(aEC t hn v hv hvs).2;have p15:=P15 t hn;have p23:=P23 v hs;have p25:=P25 t hn v hv hvs;rw[←aL8]at p25;have p49:PSp prog 49 [.one (.t (I t.kind))] (.one (.t (I (fM t.kind)))):=P49 t.kind;obtain⟨p43,p44,p45⟩:=aLG t hn;have p50:=P50 v hvs hvi;have facts:cG t v=0→yI t v=true→_:=fun h hr=>aE8 h hr
   have good:cG t v=0→_:=fun h=>aIE (t:=t) (val_zero h).1
   have aWK:cG t v=0→(dM t).2=0:=fun h=>(val_zero h).1
   generalize cG t v=e at*;generalize yI t v=c at*;simp -implicitDefEqProofs [-aA,-gval];refine aD.tree p25 rfl ?_;rcases eqCases e 0 with z | z
   ·simp -implicitDefEqProofs [-aA,-gval,z];refine aD.tree p49 rfl ?_;rcases eqCases (fM t.kind) 0 with y | y
    ·simp -implicitDefEqProofs [-aA,-gval,y,aC]
    ·have hk:t.kind=2∨t.kind=4∨t.kind=5∨t.kind=6∨t.kind=11∨t.kind=12:=by
      have y:=y.2.1;simp only[fM]at y
      by_cases a2:t.kind=2
      ·exact .inl a2
      ·by_cases a6:t.kind=6
       ·exact .inr (.inr (.inr (.inl a6)))
       ·by_cases a4:t.kind=4
        ·exact .inr (.inl a4)
        ·by_cases a5:t.kind=5
         ·exact .inr (.inr (.inl a5))
         ·by_cases a11:t.kind=11
          ·exact .inr (.inr (.inr (.inr (.inl a11))))
          ·by_cases a12:t.kind=12
           ·exact .inr (.inr (.inr (.inr (.inr a12))))
           ·simp[a2,a4,a5,a6,a11,a12]at y
     simp -implicitDefEqProofs [-aA,-gval,y];refine aD.bF p15 rfl ?_;simp -implicitDefEqProofs [-aA,-gval];refine aD.bF p23 rfl ?_;simp -implicitDefEqProofs [-aA,-gval];refine aD.bF p24 rfl ?_;cases c
     ·simp -implicitDefEqProofs [-aA,-gval,z,aC]
     ·obtain⟨f1,f2,f3⟩:=facts z rfl;obtain⟨g1,g2,g3⟩:=good z;have h0:=aWK z;simp -implicitDefEqProofs [-aA,-gval,z];rcases eqCases t.kind 2 with k2 | k2
      ·obtain⟨gp,gi⟩:=f1 k2;obtain⟨lo,hi,w,w1,w2⟩:=aEA (t:=t) gp gi;have e1:kG t=((lo,hi),(iN t.limits).2,0):=by rw[g1,k2];exact w
       rw[e1]at p43;have p37:=dH v.n lo hi;rw[decide_eq_true w1,decide_eq_true w2]at p37;simp only[tyC,bB,aN,aS,aI,k2]at p15 p43;simp -implicitDefEqProofs [-aA,-gval,k2];refine aD.tree p15 rfl ?_;simp -implicitDefEqProofs [-aA,-gval];refine aD.tree p43 rfl ?_;simp -implicitDefEqProofs [-aA,-gval];refine aD.tree p37 rfl ?_;simp -implicitDefEqProofs [-aA,-gval,aC]
      ·have hk5:=hk.resolve_left k2.2.1;have gi:=f2 hk5;obtain⟨_,s2,_⟩:=nZ h0;obtain⟨lo,hi,w,w1,w2⟩:=aEA (t:=t) s2.1 gi
       have hs1:tW t.kind=true:=by
        rcases hk5 with q | q | q | q | q<;>rw[q]<;>rfl
       have e1:lJ t=((lo,hi),(iN t.limits).2,0):=by rw[g2,hs1];exact w
       rw[e1]at p44;have p37:=dH ((v.s.size:Int)+v.items.length) lo hi;rw[decide_eq_true w1,decide_eq_true w2]at p37;generalize (v.s.size:Int)+v.items.length=zz at*;simp -implicitDefEqProofs [-aA,-gval,k2];refine aD.tree p15 rfl ?_;simp -implicitDefEqProofs [-aA,-gval];refine aD.tree p44 rfl ?_;simp -implicitDefEqProofs [-aA,-gval];refine aD.bF p50 rfl ?_;simp -implicitDefEqProofs [-aA,-gval];refine aD.bF p37 rfl ?_;rcases eqCases t.kind 6 with k6 | k6
       ·have f3:=f3 k6
        have key:∀ c∈chars v.s,inS (jI t).1 c=true∧(jI t).2=0:=fun c hc=>by
         have i:=f3 c hc;have e:(t.kind==6)=true:=by simpa using k6
         have ne:((mX t).length==0)=false:=by
          obtain⟨y,hy,_⟩:=eA.1 i;cases h:mX t with
          | nil=>rw[h]at hy;cases hy
          | cons _ _=>rfl
         rw[g3,e,aLC,if_pos rfl,ne];exact⟨i,rfl⟩
        have hlen:(jI t).1.length≤1000000:=by
         have:=(rI h0).2.1.len;rw[g3,aLC];split
         ·split
          ·simp
          ·simp only;omega
         ·simp
        simp only[tyC,bB,aN,aS,aI,k6]at p15 p45;generalize (jI t).1=L at*;generalize (jI t).2=g at*;simp -implicitDefEqProofs [-aA,-gval,k6];refine aD.tree p15 rfl ?_;simp -implicitDefEqProofs [-aA,-gval];refine aD.tree p45 rfl ?_;simp -implicitDefEqProofs [-aA,-gval];have hcl:=cW v.s;refine bJ (chars v.s) (fun _=>false) [3,13,14] [1] (fun i st=>st.tmps 15= .one (.t (I i))) (by simp only[short];omega) ?_ ?_ ?_
        ·exact⟨by simp,by simp,by simp⟩
        ·intro j y st' hj hjI hw hg hy hany hx8 hk hh;simp at hk hh;rw[hcl]at hj hjI;obtain⟨o1,o2,o3,o4⟩:=aK hh.1;have hc:(chars v.s)[j]?.getD 0=y:=by rw[hg];rfl
         have hm:=jC hy
         have hcv:D.cT .i64 (.one (.t (.int .u8 y)))= .one (.t (I y)):=by
          have:IntKind.i64.wrap y=y:=wrap_i64 (by omega) (by omega);simp[D.cT,this]
         obtain⟨q1,q2⟩:=key y hy;have p41:=InP L y hlen;rw[q1]at p41;subst q2;simp -implicitDefEqProofs [-aA,-gval,hx8,hk,hjI,hc,hcv,o1,o2,o3];refine aD.tree p41 rfl ?_;simp -implicitDefEqProofs [-aA,-gval,hx8,hk,hw,hh.1]
        ·intro st' hany hx8 hk hh;simp at hk hh;rw[hcl]at hx8;obtain⟨o1,o2,o3,o4⟩:=aK hh.1;simp -implicitDefEqProofs [-aA,-gval,hx8,hk,o1,o2,o3,aC]
       ·simp -implicitDefEqProofs [-aA,-gval,k6,aC]
   ·simp -implicitDefEqProofs [-aA,-gval,z,aC]
end
end Go.Proofs.YtdpbobkcbakpfaaGreatDoor
