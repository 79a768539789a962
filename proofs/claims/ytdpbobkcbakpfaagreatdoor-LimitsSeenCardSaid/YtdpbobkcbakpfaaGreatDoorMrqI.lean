/- Texts of this proof. -/
import Derived.Test.YtdpbobkcbakpfaaGreatDoorProg
import Derived.Test.YtdpbobkcbakpfaaGreatDoorMrqH
namespace Go.Proofs.YtdpbobkcbakpfaaGreatDoor
open Go Go.Ab
open Go.Proofs.Tryz
set_option maxRecDepth 100000
set_option maxHeartbeats 4000000
theorem aBY(acc:List Sp)(s:Sp):(dC acc s).length≤acc.length+1:=by
 unfold dC;split
 ·split
  ·first | (simp;done) | (simp;omega)
  ·simp
 ·simp
theorem aFV(l:List Sp):(mF l).length≤l.length:=by
 have:∀ (l acc:List Sp),(l.foldl dC acc).length≤acc.length+l.length:=by
  intro l
  induction l with
  | nil=>intro acc;simp
  | cons x r ih=>
   intro acc;have h1:=ih (dC acc x);have h2:=aBY acc x;rw[List.foldl_cons,List.length_cons];omega
 have:=this l [];simpa[mF]using this
theorem pD(l:List Sp):(bI l).length≤l.length:=by
 have:=aFV (sL l);rw[aAK]at this;exact this
theorem aAL:∀ (r:List Nd) (bg out:List Nat),fN r bg=some out→∀x∈r,x.ok=true
 | [],_,_,_,x,hx=>by cases hx
 | y::r,bg,out,h,x,hx=>by
  rw[fN]at h;split at h
  ·rename_i hy;split at h
   ·cases h
   ·rcases List.mem_cons.1 hx with e | e
    ·rw[e];exact hy
    ·exact aAL r _ out h x e
  ·cases h
theorem iR{l:List Nd}(h:bQ l=true):∀ x∈l,x.ok=true:=by
 simp only[bQ,Bool.and_eq_true,decide_eq_true_eq]at h;obtain⟨_,h⟩:=h;split at h
 ·cases h
 ·rename_i bg hbg;exact aAL l [] bg hbg
theorem aE0(x y:Sp):(meet x y).length≤1:=by
 unfold meet;split<;>simp
theorem aAM{x y:Sp}(h:y.2<x.1∨x.2<y.1):meet x y=[]:=by
 unfold meet;rw[if_neg];omega
theorem tS{α:Type}{f:α→List Sp}:∀ {l:List α},(∀y∈l,f y=[])→l.flatMap f=[]
 | [],_=>rfl
 | y::r,h=>by rw[List.flatMap_cons,h y (by simp),tS fun z hz=>h z (by simp[hz])];rfl
theorem aAN(c:Int):∀ b:List Sp,Gap b→∃b1 b2,b=b1++b2∧(∀y∈b1,y.2≤c)∧(∀y∈b2,c<y.2)∧Gap b2
 | [],_=>⟨[],[],rfl,by simp,by simp,trivial⟩
 | y::r,h=>by
  by_cases hy:y.2≤c
  ·obtain⟨b1,b2,e,h1,h2,h3⟩:=aAN c r h.tail
   exact⟨y::b1,b2,by rw[e];rfl,fun z hz=>by
    rcases List.mem_cons.1 hz with q | q
    ·rw[q];exact hy
    ·exact h1 z q,h2,h3⟩
  ·refine⟨[],y::r,rfl,by simp,fun z hz=>?_,h⟩;rcases List.mem_cons.1 hz with q | q
   ·rw[q];omega
   ·have h1:=h.2.1 z q;have h2:=h.valid z hz;omega
theorem aE1{f:Sp→List Sp}(hf:∀ y,(f y).length≤1):∀ l:List Sp,(l.flatMap f).length≤l.length
 | []=>by simp
 | y::r=>by
  have:=hf y;have:=aE1 hf r;rw[List.flatMap_cons,List.length_append,List.length_cons];omega
theorem mY:∀ (a b:List Sp),Gap a→Gap b→(cE a b).length≤a.length+b.length
 | [],b,_,_=>by simp[cE]
 | x::a,b,ha,hb=>by
  obtain⟨b1,b2,e,h1,h2,h3⟩:=aAN x.2 b hb;have ih:=mY a b2 ha.tail h3;have e1:cE (x::a) b=b.flatMap (meet x)++cE a b:=by simp[cE]
  have e2:cE a b=cE a b2:=by
   have:∀ a':List Sp,(∀z∈a',z∈a)→cE a' b=cE a' b2:=by
    intro a'
    induction a' with
    | nil=>intro _;rfl
    | cons z r ih=>
     intro hz;have hza:=hz z (by simp)
     have q:b.flatMap (meet z)=b2.flatMap (meet z):=by
      rw[e,List.flatMap_append,tS (l:=b1),List.nil_append];intro y hy;have k1:=h1 y hy;have k2:=ha.2.1 z hza;exact aAM (by omega)
     have ih':=ih fun w hw=>hz w (by simp[hw])
     simp only[cE,List.flatMap_cons]at ih' ⊢;rw[ih'];congr 1
   exact this a fun z hz=>hz
  have e3:(b.flatMap (meet x)).length≤b1.length+1:=by
   rw[e,List.flatMap_append,List.length_append];have k1:=aE1 (aE0 x) b1
   have k2:(b2.flatMap (meet x)).length≤1:=by
    cases b2 with
    | nil=>simp
    | cons y r=>
     rw[List.flatMap_cons,tS (l:=r),List.append_nil]
     ·exact aE0 x y
     ·intro z hz;have k3:=h3.2.1 z hz;have k4:=h2 y (by simp);exact aAM (by omega)
   omega
  have e4:b.length=b1.length+b2.length:=by rw[e];simp
  rw[e1,List.length_append,e2,List.length_cons];omega
theorem aFW{x y z:Sp}(h:z∈meet x y):z.1≤z.2:=by
 unfold meet at h;split at h
 ·rename_i hc;have:=List.mem_singleton.1 h;subst this;exact hc
 ·cases h
theorem uQ{a b:List Sp}:∀ z∈cE a b,z.1≤z.2:=by
 intro z hz;simp only[cE,List.mem_flatMap]at hz;obtain⟨x,_,y,_,h⟩:=hz;exact aFW h
theorem kM(x:Sp):bad x=false↔x.1≤x.2∧ -1152921504606846976≤x.1∧x.2≤1152921504606846976:=by
 simp[bad,and_assoc]
theorem aKV{a b c:List Sp}(hc:Gap c)(h:∀ n,inS c n=true→inS a n=true∨inS b n=true)(ha:∀ x∈a,bad x=false)(hb:∀ x∈b,bad x=false):∀ x∈c,bad x=false:=by
 intro x hx;have hv:=hc.valid x hx;have in1:inS c x.1=true:=fD.2 ⟨x,hx,by omega,hv⟩;have in2:inS c x.2=true:=fD.2 ⟨x,hx,hv,by omega⟩
 have bnd:∀ n,inS c n=true→ -1152921504606846976≤n∧n≤1152921504606846976:=fun n hn=>by
  rcases h n hn with q | q
  ·obtain⟨y,hy,y1,y2⟩:=fD.1 q;have:=(kM y).1 (ha y hy);omega
  ·obtain⟨y,hy,y1,y2⟩:=fD.1 q;have:=(kM y).1 (hb y hy);omega
 exact(kM x).2 ⟨hv,(bnd _ in1).1,(bnd _ in2).2⟩
def aJ(x:Nd)(k:Nat):Nat:=(x.args.getD k 0).toNat
def spL(l:List Nd):Nat→Nat→List Sp
 | 0,_=>[]
 | n+1,i=>match l[i]? with
  | none=>[]
  | some x=>if x.k==0 then[(x.lo,x.hi)] else if x.k==1 then bI ((chars x.s).map fun c=>(c,c))else if x.k==2 then spL l n (aJ x 0)
   else if x.args.length<2 then spL l n (aJ x 0)else if x.k==5 then bI (cE (spL l n (aJ x 0)) (spL l n (aJ x 1)))
   else if x.k==6 then bI (bF (spL l n (aJ x 0)) (spL l n (aJ x 1)))else bI (spL l n (aJ x 0)++spL l n (aJ x 1))
def opN(k:Int):Int:=if k==6 then 2 else if k==5 then 1 else 0
def nuR(l:List Nd):Nat→Nat→List Sp
 | 0,_=>[]
 | n+1,i=>match l[i]? with
  | none=>[]
  | some x=>if x.k==0 then[(x.lo,x.hi)] else if x.k==1 then(chars x.s).foldl (fun out c=>dS 0 out [(c,c)] [] (bR (out++[(c,c)]))) []
   else if x.args.length==1 then nuR l n (aJ x 0)
   else dS (opN x.k) (nuR l n (aJ x 0)) (nuR l n (aJ x 1)) [] (bR (nuR l n (aJ x 0)++nuR l n (aJ x 1)))
def szR(l:List Nd):Nat→Nat→List Sp
 | 0,_=>[]
 | n+1,i=>match l[i]? with
  | none=>[]
  | some x=>if x.k==2 then nuR l n (aJ x 0)else if x.args.length==1 then szR l n (aJ x 0)
   else dS (opN x.k) (szR l n (aJ x 0)) (szR l n (aJ x 1)) [] (bR (szR l n (aJ x 0)++szR l n (aJ x 1)))
structure Both (bg:List Nat) (i:Nat) (a b:List Sp):Prop where
 eq:a=b
 gap:Gap a
 good:∀ x∈a,bad x=false
 few:2*a.length≤i - bg.getD i 0+2
theorem aBZ(op:Int){a b:List Sp}(ga:Gap a)(gb:Gap b)(ha:∀ x∈a,bad x=false)(hb:∀ x∈b,bad x=false)(c:List Sp)(hc:c=bI (if op=1 then cE a b else if op=2 then bF a b else a++b))(ho:op=0∨op=1∨op=2):
  c=dS op a b [] (bR (a++b))∧Gap c∧(∀x∈c,bad x=false)∧c.length≤a.length+b.length:=by
 have va:=ga.valid;have vb:=gb.valid;obtain⟨q1,q2⟩:=kS op a b;have w:=gU (b:=b) (a:=a) ga.asc vb
 have key:Gap c∧(∀n,inS c n=eP op (inS a n) (inS b n))∧c.length≤a.length+b.length:=by
  rcases ho with rfl | rfl | rfl
  ·have n1:=gJ (l:=a++b) fun x hx=>by
    rcases List.mem_append.1 hx with h | h
    ·exact va x h
    ·exact vb x h
   have n2:=pD (a++b);simp only[show ¬(0:Int)=1 by decide,show ¬(0:Int)=2 by decide,if_false]at hc;subst hc;refine⟨n1.1,fun n=>by rw[n1.2,fQ];simp[eP],by rw[List.length_append]at n2;exact n2⟩
  ·have n1:=gJ (l:=cE a b) uQ;have n2:=pD (cE a b);have n3:=mY a b ga gb;simp only[if_true]at hc;subst hc;exact⟨n1.1,fun n=>by rw[n1.2,xG];simp[eP],by omega⟩
  ·have n1:=gJ (l:=bF a b) w.1.valid;have n2:=pD (bF a b);simp only[show ¬(2:Int)=1 by decide,if_true,if_false]at hc;subst hc;exact⟨n1.1,fun n=>by rw[n1.2,pB va vb];simp[eP],by have:=w.2.1;omega⟩
 obtain⟨k1,k2,k3⟩:=key;refine⟨nU k1 q1 fun n=>by rw[k2,q2],k1,aKV (a:=a) (b:=b) k1 (fun n hn=>?_) ha hb,k3⟩;rw[k2]at hn;revert hn;rcases ho with rfl | rfl | rfl<;>cases inS a n<;>cases inS b n<;>simp[eP]
theorem dG{bg:List Nat}{i:Nat}{x:Nd}(N:wT bg i x.args){k:Nat}(h:k<x.args.length):(aJ x k:Int)∈x.args∧aJ x k<i∧bg.getD i 0≤bg.getD (aJ x k) 0:=by
 have hm:x.args[k]'h∈x.args:=gL9 h;obtain⟨c,c1,c2,c3⟩:=N.arg _ hm
 have e:aJ x k=c:=by
  simp only[aJ,List.getD_eq_getElem?_getD,gE9 h,Option.getD_some,c1];simp
 rw[e,←c1];exact⟨hm,c2,c3⟩
theorem aKW{bg:List Nat}{i:Nat}{x:Nd}(N:wT bg i x.args)(h:x.args.length=2):aJ x 0<bg.getD (aJ x 1) 0:=by
 obtain⟨a,b,e⟩:∃ a b,x.args=[a,b]:=by
  match hx:x.args,h with
  | [a,b],_=>exact⟨a,b,rfl⟩
 have hp:=N.apart;rw[e]at hp;have:=(List.pairwise_cons.1 hp).1 b (by simp);have e0:aJ x 0=a.toNat:=by simp[aJ,e]
 have e1:aJ x 1=b.toNat:=by simp[aJ,e]
 obtain⟨c,c1,_,_⟩:=N.arg a (by rw[e];simp);rw[e0,e1];omega
theorem aIA(k:Int):opN k=0∨opN k=1∨opN k=2:=by
 unfold opN;split
 ·simp
 ·split<;>simp
theorem aKX{l:List Nd}{bg:List Nat}(T:eC l bg)(hok:∀ x∈l,x.ok=true)(P:Nat→Prop)
  (hn:∀ p x,l[p]? =some x→P p→x.k≠1∧x.k≠2∧x.k≠3∧(x.k=0→bad (x.lo,x.hi)=false)) (he:∀ p x,l[p]? =some x→P p→∀c:Nat,(c:Int)∈x.args→P c):
  ∀n i,i<n→i<l.length→P i→Both bg i (spL l n i) (nuR l n i):=by
 intro n
 induction n with
 | zero=>intro i hi;omega
 | succ n ih=>
  intro i hin hil hP;have hx:l[i]? =some (l[i]'hil):=gE9 _;generalize l[i]'hil=x at hx;have N:=T.node i x hx;obtain⟨k1,k2,k3,k0⟩:=hn i x hx hP;have hxok:=hok x (gM9 hx);simp only[Nd.ok,Bool.and_eq_true]at hxok;have hr:=hxok.1.1;have hle:=N.le
  by_cases q0:x.k=0
  ·have e1:spL l (n+1) i=[(x.lo,x.hi)]:=by simp[spL,hx,q0]
   have e2:nuR l (n+1) i=[(x.lo,x.hi)]:=by simp[nuR,hx,q0]
   have hb:=(kM _).1 (k0 q0);rw[e1,e2];exact⟨rfl,⟨hb.1,by simp,trivial⟩,fun y hy=>by rw[List.mem_singleton.1 hy];exact k0 q0,by simp⟩
  ·have sub:∀ k,k<x.args.length→Both bg (aJ x k) (spL l n (aJ x k)) (nuR l n (aJ x k)):=fun k hk=>by
    obtain⟨m1,m2,m3⟩:=dG N hk;exact ih _ (by omega) (by omega) (he i x hx hP _ m1)
   by_cases one:x.args.length=1
   ·have e1:spL l (n+1) i=spL l n (aJ x 0):=by simp[spL,hx,q0,k1,k2,one]
    have e2:nuR l (n+1) i=nuR l n (aJ x 0):=by simp[nuR,hx,q0,k1,one]
    obtain⟨m1,m2,m3⟩:=dG N (k:=0) (by omega);obtain⟨b1,b2,b3,b4⟩:=sub 0 (by omega);rw[e1,e2];exact⟨b1,b2,b3,by omega⟩
   ·have two:x.args.length=2:=by
     unfold Nd.right at hr;simp only[q0,k1,k2,k3,or_self,if_false]at hr;split at hr
     ·simpa using hr
     ·split at hr
      ·have:=of_decide_eq_true hr;omega
      ·cases hr
    obtain⟨m1,m2,m3⟩:=dG N (k:=0) (by omega);obtain⟨p1,p2,p3⟩:=dG N (k:=1) (by omega);have ap:=aKW N two;have le0:=(T.node (aJ x 0) _ (gE9 (show aJ x 0<l.length by omega))).le;have le1:=(T.node (aJ x 1) _ (gE9 (show aJ x 1<l.length by omega))).le;obtain⟨a1,a2,a3,a4⟩:=sub 0 (by omega);obtain⟨b1,b2,b3,b4⟩:=sub 1 (by omega)
    have e2:nuR l (n+1) i=dS (opN x.k) (nuR l n (aJ x 0)) (nuR l n (aJ x 1)) [] (bR (nuR l n (aJ x 0)++nuR l n (aJ x 1))):=by
     simp[nuR,hx,q0,k1,one]
    rw[←a1,←b1]at e2
    have e1:spL l (n+1) i=bI (if opN x.k=1 then cE (spL l n (aJ x 0)) (spL l n (aJ x 1))else if opN x.k=2 then bF (spL l n (aJ x 0)) (spL l n (aJ x 1))else spL l n (aJ x 0)++spL l n (aJ x 1)):=by
     by_cases q5:x.k=5
     ·simp[spL,hx,q5,two,opN]
     ·by_cases q6:x.k=6
      ·simp[spL,hx,q6,two,opN]
      ·simp[spL,hx,q0,k1,k2,q5,q6,two,opN]
    obtain⟨c1,c2,c3,c4⟩:=aBZ (opN x.k) a2 b2 a3 b3 _ e1 (aIA _);exact⟨c1.trans e2.symm,c2,c3,by omega⟩
def cN(l:List Nd):Nat→Nat→Int→Bool
 | 0,_,_=>false
 | n+1,i,m=>match l[i]? with
  | none=>false
  | some x=>if x.k==0 then decide (x.lo≤m)&&decide (m≤x.hi)else if x.k==1 then(chars x.s).any (fun c=>c==m)
   else if x.k==5 then cN l n (aJ x 0) m&&cN l n (aJ x 1) m else if x.k==6 then cN l n (aJ x 0) m&& !cN l n (aJ x 1) m
   else cN l n (aJ x 0) m||(decide (1<x.args.length)&&cN l n (aJ x 1) m)
theorem aC0:∀ (l:List Sp) (a b:Int),Gap l→(∀x∈l,a≤x.1∧x.2≤b)→a≤b+2→2*(l.length:Int)≤b - a+2
 | [],a,b,_,_,h=>by simp;omega
 | x::r,a,b,h,hb,_=>by
  obtain⟨h1,h2,h3⟩:=h;have hx:=hb x (by simp);have ih:=aC0 r (x.2+2) b h3 (fun y hy=>⟨by have:=h2 y hy;omega,(hb y (by simp[hy])).2⟩) (by omega);rw[List.length_cons];omega
theorem aGM{l:List Nd}{bg:List Nat}(T:eC l bg)(hok:∀ x∈l,x.ok=true)(P:Nat→Prop)
  (hn:∀ p x,l[p]? =some x→P p→x.k≠2∧x.k≠3∧(x.k=0→x.lo≤x.hi)) (he:∀ p x,l[p]? =some x→P p→∀c:Nat,(c:Int)∈x.args→P c):
  ∀n i,i<n→i<l.length→P i→Gap (spL l n i)∧∀m,inS (spL l n i) m=cN l n i m:=by
 intro n
 induction n with
 | zero=>intro i hi;omega
 | succ n ih=>
  intro i hin hil hP;have hx:l[i]? =some (l[i]'hil):=gE9 _;generalize l[i]'hil=x at hx;have N:=T.node i x hx;obtain⟨k2,k3,k0⟩:=hn i x hx hP;have hr:=hok x (gM9 hx);simp only[Nd.ok,Bool.and_eq_true]at hr;have hr:=hr.1.1
  have sub:∀ k,k<x.args.length→Gap (spL l n (aJ x k))∧∀m,inS (spL l n (aJ x k)) m=cN l n (aJ x k) m:=fun k hk=>by
   obtain⟨m1,m2,m3⟩:=dG N hk;exact ih _ (by omega) (by omega) (he i x hx hP _ m1)
  by_cases q0:x.k=0
  ·have e1:spL l (n+1) i=[(x.lo,x.hi)]:=by simp[spL,hx,q0]
   rw[e1];refine⟨⟨k0 q0,by simp,trivial⟩,fun m=>?_⟩;simp[cN,hx,q0,inS]
  ·by_cases q1:x.k=1
   ·have e1:spL l (n+1) i=bI ((chars x.s).map fun c=>(c,c)):=by simp[spL,hx,q1]
    obtain⟨g1,g2⟩:=gJ (l:=(chars x.s).map fun c=>((c,c):Sp)) fun y hy=>by
     obtain⟨c,_,rfl⟩:=List.mem_map.1 hy;exact Int.le_refl _
    rw[e1];refine⟨g1,fun m=>?_⟩;rw[g2];have e2:cN l (n+1) i m=(chars x.s).any (fun c=>c==m):=by simp[cN,hx,q1]
    rw[e2,inS,List.any_map];refine any_congr fun c _=>?_
    rw[Bool.eq_iff_iff];simp;omega
   ·have pos:0<x.args.length:=by
     unfold Nd.right at hr;simp only[q0,q1,or_self,if_false]at hr;split at hr
     ·have:=of_decide_eq_true hr;omega
     ·split at hr
      ·have:=of_decide_eq_true hr;omega
      ·split at hr
       ·have:=of_decide_eq_true hr;omega
       ·cases hr
    obtain⟨a1,a2⟩:=sub 0 pos
    by_cases one:x.args.length=1
    ·have n5:x.k≠5:=fun e=>by
      unfold Nd.right at hr;simp[e]at hr;omega
     have n6:x.k≠6:=fun e=>by
      unfold Nd.right at hr;simp[e]at hr;omega
     have e1:spL l (n+1) i=spL l n (aJ x 0):=by simp[spL,hx,q0,q1,k2,one]
     rw[e1];refine⟨a1,fun m=>?_⟩;have e2:cN l (n+1) i m=cN l n (aJ x 0) m:=by simp[cN,hx,q0,q1,n5,n6,one]
     rw[e2,a2]
    ·obtain⟨b1,b2⟩:=sub 1 (by omega);have two:¬ x.args.length<2:=by omega
     have two':1<x.args.length:=by omega
     have va:=a1.valid;have vb:=b1.valid
     by_cases q5:x.k=5
     ·have e1:spL l (n+1) i=bI (cE (spL l n (aJ x 0)) (spL l n (aJ x 1))):=by simp[spL,hx,q5,two]
      obtain⟨g1,g2⟩:=gJ (l:=cE (spL l n (aJ x 0)) (spL l n (aJ x 1))) uQ;rw[e1];refine⟨g1,fun m=>?_⟩;have e2:cN l (n+1) i m=(cN l n (aJ x 0) m&&cN l n (aJ x 1) m):=by simp[cN,hx,q5]
      rw[g2,xG,a2,b2,e2]
     ·by_cases q6:x.k=6
      ·have e1:spL l (n+1) i=bI (bF (spL l n (aJ x 0)) (spL l n (aJ x 1))):=by simp[spL,hx,q6,two]
       have w:=gU (b:=spL l n (aJ x 1)) (a:=spL l n (aJ x 0)) a1.asc vb;obtain⟨g1,g2⟩:=gJ (l:=bF (spL l n (aJ x 0)) (spL l n (aJ x 1))) w.1.valid;rw[e1];refine⟨g1,fun m=>?_⟩;have e2:cN l (n+1) i m=(cN l n (aJ x 0) m&& !cN l n (aJ x 1) m):=by simp[cN,hx,q6]
       rw[g2,pB va vb,a2,b2,e2]
      ·have e1:spL l (n+1) i=bI (spL l n (aJ x 0)++spL l n (aJ x 1)):=by simp[spL,hx,q0,q1,k2,q5,q6,two]
       obtain⟨g1,g2⟩:=gJ (l:=spL l n (aJ x 0)++spL l n (aJ x 1)) fun y hy=>by
        rcases List.mem_append.1 hy with q | q
        ·exact va y q
        ·exact vb y q
       rw[e1];refine⟨g1,fun m=>?_⟩;have e2:cN l (n+1) i m=(cN l n (aJ x 0) m||cN l n (aJ x 1) m):=by simp[cN,hx,q0,q1,q5,q6,two']
       rw[g2,fQ,a2,b2,e2]
def hoL(l:List Nd)(vn:Int)(vs:ByteArray)(sz:Int):Nat→Nat→Bool
 | 0,_=>false
 | n+1,i=>match l[i]? with
  | none=>false
  | some x=>if x.k==0 then decide (x.lo≤vn)&&decide (vn≤x.hi)else if x.k==1 then bN vs x.s else if x.k==2 then inS (spL l n (aJ x 0)) sz
   else if x.k==3 then !(chars vs).any (fun c=> !inS (spL l n (aJ x 0)) c)else if x.k==5 then hoL l vn vs sz n (aJ x 0)&&hoL l vn vs sz n (aJ x 1)
   else if x.k==6 then hoL l vn vs sz n (aJ x 0)&& !hoL l vn vs sz n (aJ x 1)else x.args.any fun a=>hoL l vn vs sz n a.toNat
def c123:aC:=zs 0 1 [zW 3 false] (zs 1 6 [zl 4 1,zv 5 0,zo 6 (.cU .i64 (.tmp 5)),zq 7 120 [4,6],zN 8 7,zv 3 8] .ret)
theorem k123:Compiled prog 123 9 [.tmp 3] c123:=kMk [] func123
def c78:aC:=zs 0 1 [zM 2 0] (zs 1 4 [zv 4 0,zL 5 4,zK 6 .sub 5 1,zv 3 6] (.seq (zs 2 6 [zv 7 0,zv 8 3,zI 9 5 7 8,zf 10 0 9,zl 11 10,zK 12 .eql 11 7] (zd 12 (zs 3 8 [zv 13 0,zv 14 3,zI 15 5 13 14,zf 16 4 15,zl 17 16,zj 18 1 17 0,zl 19 18,zv 2 19] .ret) .skip)) (zs 4 2 [zv 20 3,zv 2 20] .ret)))
theorem k78:Compiled prog 78 21 [.tmp 2] c78:=kMk [] func78
def c4t3:aC:=zd 11 (zs 2 1 [zW 4 false] .ret) .skip
def c4t6:aC:=zd 19 (zs 4 1 [zW 4 true] .ret) .skip
def c4t12:aC:=zd 40 (zs 9 17 [zv 41 6,zv 42 9,zB 43 .eql 41 42,zv 44 43,.grp 44 true [zg 45 (zm 8) 44 true,zg 46 (zm 9) 44 true,zg 47 (zO .eql 45 46) 44 true],zP 48 44 47,zv 49 48,.grp 49 true [zg 50 (zm 5) 49 true,zg 51 (zV 50) 49 true],zP 52 49 51,zv 53 52,.grp 53 true [zg 54 (zm 7) 53 true,zg 55 (zV 54) 53 true],zP 56 53 55,zv 4 56] .ret) .skip
def c4t14:aC:= .seq (zs 8 2 [zv 39 9,zK 40 .neq 39 0] c4t12) (zs 10 21 [zv 57 6,zK 58 .eql 57 0,zv 59 58,.grp 59 true [zg 60 (zm 8) 59 true,zg 61 (zU .eql 60 0) 59 true],zP 62 59 61,zv 63 62,.br 63 true [zg 64 (zm 5) 63 true,zg 65 (zt 8 2) 63 true,zg 66 (zt 6 3) 63 true,.mk (some 67) (zw 26 [65,66]) (some (63,true)),zg 68 (.bin .eql true (.tmp 64) (.tmp 67)) 63 true],zP 69 63 68,zv 70 69,.br 70 true [zg 71 (zm 7) 70 true,zg 72 (zt 8 2) 70 true,zg 73 (zt 6 3) 70 true,.mk (some 74) (zw 27 [72,73]) (some (70,true)),zg 75 (.bin .eql true (.tmp 71) (.tmp 74)) 70 true],zP 76 70 75,zv 4 76] .ret)
def c4t15:aC:=zs 7 4 [zA 36 8 2,zA 37 6 3,zq 38 25 [36,37],zv 9 38] c4t14
def c4t16:aC:= .seq (.region 6 true 10 [zA 29 8 2,zq 30 15 [29],zA 31 6 3,zq 32 23 [31],zq 33 24 [30,32],zv 28 33,zE 34 0 28,zE 35 1 28,zv 7 34,zv 8 35]) c4t15
def c4t17:aC:= .seq (.region 5 true 10 [zA 21 8 2,zq 22 15 [21],zA 23 6 3,zq 24 23 [23],zq 25 22 [22,24],zv 20 25,zE 26 0 20,zE 27 1 20,zv 5 26,zv 6 27]) c4t16
def c4t18:aC:= .seq (zs 3 8 [zA 12 8 2,zq 13 13 [12],zN 14 13,zv 15 14,.br 15 false [zg 16 (zt 6 3) 15 false,.mk (some 17) (zw 21 [16]) (some (15,false)),zg 18 (zV 17) 15 false],zQ 19 15 18] c4t6) c4t17
def c4t19:aC:= .seq (zs 1 2 [zc 10 12 [],zN 11 10] c4t3) c4t18
def c4:aC:=zs 0 3 [zX 2 8 0,zX 3 6 1,zW 4 false] c4t19
theorem k4:Compiled prog 4 77 [.tmp 4] c4:=kMk [] func4
section
attribute [local simp] bD aN aS aG aU aO aZ tyC fdC vlC ndC aL D.cK D.pt
theorem fM{bg:List Nat}{i:Nat}{x:Nd}(N:wT bg i x.args){k:Nat}(h:k<x.args.length):x.args[k]? =some ((aJ x k:Nat):Int):=by
 obtain⟨c,c1,_,_⟩:=N.arg _ (gL9 h);simp only[aJ,List.getD_eq_getElem?_getD,gE9 h,Option.getD_some,c1];simp
theorem eL{x:Nd}(h:x.ok=true):(x.k=0∨x.k=1→x.args.length=0)∧(x.k=2∨x.k=3→x.args.length=1)∧(x.k=4∨x.k=5∨x.k=6→x.args.length=2)∧(x.k≠0→x.k≠1→0<x.args.length∧x.args.length≤2):=by
 simp only[Nd.ok,Bool.and_eq_true]at h;have hr:=h.1.1;unfold Nd.right at hr;split at hr
 ·have:=of_decide_eq_true hr;rename_i q;exact⟨fun _=>this,by omega,by omega,by omega⟩
 ·split at hr
  ·have:=of_decide_eq_true hr;rename_i q _;exact⟨by omega,by omega,by omega,by omega⟩
  ·split at hr
   ·have:=of_decide_eq_true hr;exact⟨by omega,by omega,by omega,by omega⟩
   ·split at hr
    ·have:=of_decide_eq_true hr;exact⟨by omega,by omega,by omega,by omega⟩
    ·cases hr
attribute [local simp] oP D.nX
end
section
attribute [local simp] bD aN aS aG aU aO aZ tyC fdC vlC ndC aL D.cK D.pt
attribute [local simp] oP D.nX
end
section
attribute [local simp] bD aN aS aG aU aO aZ tyC fdC vlC ndC aL D.cK D.pt
attribute [local simp] oP D.nX
end
section
attribute [local simp] bD aN aS aG aU aO aZ tyC fdC vlC ndC aL D.cK D.pt
def cJ(l:List Nd):Nat:=match l[l.length - 1]? with | some x=>if x.k==7 then aJ x 0 else l.length - 1 | none=>0
attribute [local simp] c78 in
theorem P78{l:List Nd}{bg:List Nat}(T:eC l bg)(hok:∀ x∈l,x.ok=true)(hl:l.length≤20)(hne:l.length≠0):PSp prog 78 [.one (.t (aG l))] (.one (.t (I ((cJ l:Nat):Int)))):=by
 obtain⟨m,hm⟩:∃ m:Nat,l.length - 1=m:=⟨_,rfl⟩;have hml:m<l.length:=by omega
 have hx:l[m]? =some (l[m]'hml):=gE9 _;generalize l[m]'hml=x at hx;have N:=T.node m x hx;have hmI:(m:Int)<(l.length:Int):=by omega
 have hw:IntKind.i64.wrap ((l.length:Int) - 1)=(m:Int):=by rw[wrap_i64 (by omega) (by omega)];omega
 obtain⟨r1,r2,r3,r4⟩:=eL (hok x (gM9 hx));have er:cJ l=if x.k==7 then aJ x 0 else m:=by simp[cJ,hm,hx]
 rw[er];refine k78.aI (by simp) rfl rfl ?_;rcases eqCases x.k 7 with k7 | k7
 ·have pos:=(r4 (by omega) (by omega)).1;have a0:=fM N pos;have l0:(0:Int)<(x.args.length:Int):=by omega
  simp -implicitDefEqProofs [-aA,-gval,hw,hml,hmI,aE hx,Nd.row,k7,pos,aE a0,aB,-List.getElem_map]
 ·simp -implicitDefEqProofs [-aA,-gval,hw,hml,hmI,aE hx,Nd.row,k7,aB,-List.getElem_map]
theorem aE2{l:List Nd}{bg:List Nat}(T:eC l bg)(hok:∀ x∈l,x.ok=true)(hne:l.length≠0):cJ l<l.length:=by
 have hx:l[l.length - 1]? =some (l[l.length - 1]'(by omega)):=gE9 _;generalize l[l.length - 1]'(by omega)=x at hx;obtain⟨r1,r2,r3,r4⟩:=eL (hok x (gM9 hx));simp only[cJ,hx];split
 ·rename_i k7;have k7:x.k=7:=by simpa using k7
  have pos:=(r4 (by omega) (by omega)).1;have:=(dG (T.node _ x hx) pos).2.1;omega
 ·omega
end
theorem sM:∀ {l:List Int},(dA l).2=0→∀e∈l,e=0
 | [],_,e,he=>by cases he
 | x::r,h,e,he=>by
  by_cases hx:x=0
  ·simp only[dA,hx,beq_self_eq_true,if_true]at h;rcases List.mem_cons.1 he with q | q
   ·rw[q];exact hx
   ·exact sM h e q
  ·simp[dA,hx]at h
theorem iS{t:Ty}{x:Nd}{r:Bool}{a:Int}(h:mR t x r a=0):cM t.kind x.k a=true∧(x.k=0→kC x (gW t.kind a)=true):=by
 simp only[mR]at h;cases hs:cM t.kind x.k a
 ·rw[hs]at h;simp only[bW,cZ]at h
  by_cases q:(x.k != 7||r)=true
  ·simp[q]at h
  ·simp[q]at h
 ·refine⟨rfl,fun k0=>?_⟩;rw[hs]at h;cases hb:kC x (gW t.kind a)
  ·simp[bW,cZ,k0,hb]at h
  ·rfl
theorem aE3{x:Nd}{k a:Int}(h:kC x (gW k a)=true)(ha:a=0∨a=3):bad (x.lo,x.hi)=false:=by
 rw[kM];simp only[kC,Bool.and_eq_true,decide_eq_true_eq]at h;obtain⟨⟨h1,h2⟩,h3⟩:=h;rcases ha with rfl | rfl
 ·simp only[gW,show((0:Int)==3)=false by decide,show((0:Int)==4)=false by decide,Bool.false_eq_true,if_false]at h2 h3;exact⟨h1,h2,h3⟩
 ·have e:gW k 3=(0,bX k):=rfl;rw[e]at h2 h3;have m:bX k≤200:=by unfold bX;split<;>omega
  exact⟨h1,by omega,by omega⟩
theorem lI{t:Ty}(h:(dF t).2=0):t.check=0∧(yC t).2=0:=by
 simp only[dF]at h
 by_cases q:t.check=0
 ·simp only[q,bne_self_eq_false,Bool.false_eq_true,if_false]at h;exact⟨q,h⟩
 ·have:(t.check != 0)=true:=by simpa using q
  rw[if_pos this]at h;exact absurd h q
theorem pE{t:Ty}(h:(dF t).2=0)(hl:t.limits.length≠0):bQ t.limits=true∧∃L:Nat→Int,L (t.limits.length - 1)=eJ t.kind∧Lab t.limits fO L (t.limits.length - 1) 0∧∀p x,t.limits[p]? =some x→∃r,mR t x r (L p)=0:=by
 obtain⟨h1,h2⟩:=lI h;have ht:=dP t h1;obtain⟨hlen,bg,T⟩:=bL ht
 have h3:(dA (mS t (lk (dB t)))).2=0:=by
  simp only[yC]at h2;have e:(t.limits.length==0)=false:=by simpa using hl
  rw[e]at h2;simp only[Bool.false_eq_true,if_false]at h2;split at h2
  ·cases h2
  ·exact h2
 obtain⟨_,p2,p3⟩:=uL (f:=fO) T t.limits.length (t.limits.length - 1) (eJ t.kind) (List.replicate t.limits.length 0) (by omega) (by omega) (by simp);rw[T.root]at p3;refine⟨ht,lk (dB t),p2,p3,fun p x hx=>⟨p+1==t.limits.length,?_⟩⟩;have hp:=(gS9.1 hx).1
 have he:(mS t (lk (dB t)))[p]? =some (mR t x (p+1==t.limits.length) (lk (dB t) p)):=by
  simp[mS,List.getElem?_mapIdx,hx]
 exact sM h3 _ (gM9 he)
theorem aFX{t:Ty}(h:(dF t).2=0)(hl:t.limits.length≠0)(hk:t.kind=2∨t.kind=11∨t.kind=12):∃ bg,∃P Q:Nat→Prop,eC t.limits bg∧t.limits.length≤20∧(∀x∈t.limits,x.ok=true)∧
  (∀p x,t.limits[p]? =some x→P p→x.k≠1∧x.k≠2∧x.k≠3∧(x.k=0→bad (x.lo,x.hi)=false))∧(∀p x,t.limits[p]? =some x→P p→∀c:Nat,(c:Int)∈x.args→P c)∧
  (∀p x,t.limits[p]? =some x→Q p→x.k≠0∧x.k≠1∧x.k≠3)∧(∀p x,t.limits[p]? =some x→Q p→∀c:Nat,(c:Int)∈x.args→if x.k=2 then P c else Q c)∧
  (t.kind=2→P (t.limits.length - 1))∧(t.kind≠2→Q (t.limits.length - 1)):=by
 obtain⟨ht,L,h1,h2,h3⟩:=pE h hl;obtain⟨hlen,bg,T⟩:=bL ht
 have hn:∀ p x,t.limits[p]? =some x→(L p=0∨L p=3)→x.k≠1∧x.k≠2∧x.k≠3∧(x.k=0→bad (x.lo,x.hi)=false):=fun p x hx ha=>by
  obtain⟨r,hr⟩:=h3 p x hx;obtain⟨s1,s2⟩:=iS hr;refine⟨fun e=>?_,fun e=>?_,fun e=>?_,fun e=>aE3 (s2 e) ha⟩
  all_goals
   rw[e]at s1;rcases ha with q | q<;>rw[q]at s1<;>simp[cM]at s1
 have hq:∀ p x,t.limits[p]? =some x→L p=2→x.k≠0∧x.k≠1∧x.k≠3:=fun p x hx ha=>by
  obtain⟨r,hr⟩:=h3 p x hx;obtain⟨s1,_⟩:=iS hr;refine⟨fun e=>?_,fun e=>?_,fun e=>?_⟩
  all_goals
   rw[e,ha]at s1;simp[cM]at s1
 refine⟨bg,fun p=>L p=0∨L p=3,fun p=>L p=2,T,hlen,iR ht,hn,fun p x hx ha c hc=>?_,hq,fun p x hx ha c hc=>?_,fun hk2=>?_,fun hk2=>?_⟩
 ·have hp:=(gS9.1 hx).1;obtain⟨_,k2,k3,_⟩:=hn p x hx ha;show L c=0∨L c=3;rw[h2.edge p x (Nat.zero_le _) (by omega) hx c hc];simpa[fO,k2,k3]using ha
 ·have hp:=(gS9.1 hx).1;obtain⟨_,_,k3⟩:=hq p x hx ha;have e:=h2.edge p x (Nat.zero_le _) (by omega) hx c hc
  by_cases k2:x.k=2
  ·rw[if_pos k2];right;rw[e];simp[fO,k2]
  ·rw[if_neg k2];show L c=2;rw[e];simpa[fO,k2,k3]using ha
 ·left;rw[h1,hk2];rfl
 ·show L (t.limits.length - 1)=2;rw[h1];rcases hk with q | q | q
  ·exact absurd q hk2
  ·rw[q];rfl
  ·rw[q];rfl
theorem tR.more{d:D}{h:Hp}{nx nx' did did':Nat}{acc:List Sp}(ho:tR d h nx acc did)(hn:nx≤nx')(hd:nx≤did'∨did'=did):tR d h nx' acc did':=by
 rcases ho with ho | ⟨h1,id,ver,h2,h3,h4⟩
 ·exact .inl ho
 ·exact .inr ⟨h1,id,ver,by omega,by omega,h4⟩
theorem tR.set{d:D}{h:Hp}{nx did j:Nat}{o:O}{acc:List Sp}(ho:tR d h nx acc did)(hj:nx≤j):tR d (h.set j o) nx acc did:=by
 rcases ho with ho | ⟨h1,id,ver,h2,h3,h4,h5,h6,h7,h8⟩
 ·exact .inl ho
 ·have hne:id≠j:=by omega
  refine .inr ⟨h1,id,ver,h2,h3,h4,?_,?_,?_,?_⟩
  ·unfold Ab.alive Hp.set at*; rw[if_neg hne];exact h5
  ·unfold Hp.rows Hp.set at*; rw[if_neg hne];exact h6
  ·unfold Hp.sz Hp.set at*; rw[if_neg hne];exact h7
  ·unfold Hp.shut Hp.set at*; rw[if_neg hne];exact h8
def BIn(x:Sp)(b:List Sp)(bx:Nat)(yG:List Sp)(st:St)(k:Nat)(st1:St):Prop:=
 ∃(j:Nat) (acc:List Sp),k=b.length - j∧j≤b.length∧acc=yG++(b.take j).flatMap (meet x)∧acc.length≤yG.length+j∧st1.tmps 7=st.tmps 7∧Data st1.heap bx 0 #[x]∧st.nx≤st1.nx∧st1.tmps 18=st.tmps 18∧st1.tmps 19=st.tmps 19∧st1.tmps 20= .one (.t (I j))∧
  tR (st1.tmps 5) st1.heap st1.nx acc bx∧st1.tmps 0=st.tmps 0∧st1.tmps 1=st.tmps 1∧st1.tmps 12=st.tmps 12∧st1.tmps 13=st.tmps 13∧st1.tmps 14=st.tmps 14
theorem take_one{b:List Sp}{j:Nat}(h:j<b.length):b.take (j+1)=b.take j++[b[j]]:=by rw[List.take_add_one,gE9 h];rfl
theorem aIB{n:Nat}{A:Exit→St→Prop}{ks:List KF}(x:Sp)(b:List Sp)(bx:Nat)(yG:List Sp)(hlen:yG.length+b.length≤100000)(st:St)(h7:st.tmps 7= .one (.ptr ⟨bx,0,2,0,0⟩))(hx:Data st.heap bx 0 #[x])(hbx:bx<st.nx)
  (h18:st.tmps 18= .one (.t (spans b))) (h19:st.tmps 19= .one (.t (I b.length))) (h20:st.tmps 20= .one (.t (I 0))) (h5:tR (st.tmps 5) st.heap st.nx yG bx)
  (K:∀ st':St,tR (st'.tmps 5) st'.heap st'.nx (yG++b.flatMap (meet x)) bx→st.nx≤st'.nx→st'.tmps 0=st.tmps 0→st'.tmps 1=st.tmps 1→st'.tmps 12=st.tmps 12→st'.tmps 13=st.tmps 13→st'.tmps 14=st.tmps 14→cL prog n A ks .normal st'):
  W prog n (.loop c132b12) (kont prog n A (.blk 2::ks)) st:=by
 refine W.cR (fun k st1=>BIn x b bx yG st k st1) b.length
  ⟨0,yG,by simp,by simp,by simp,by simp,rfl,hx,Nat.le_refl _,rfl,rfl,h20,h5,rfl,rfl,rfl,rfl,rfl⟩ ?_
 rintro k st1 ⟨j,acc,hk,hj,hacc,hal,e7,hd,hnx,e18,e19,e20,e5,e0,e1,e12,e13,e14⟩;rw[h7]at e7;rw[h18]at e18;rw[h19]at e19;rcases Nat.lt_or_ge j b.length with hlt | hge
 ·have fE:(j:Int)<b.length:=by omega
  have hw:IntKind.i64.wrap ((j:Int)+1)=((j+1:Nat):Int):=aH _ (by omega) (by omega);have hr:st1.heap.rows bx=[cell x]:=by rw[hd.rows];rfl
  have hn1:¬ bx=st1.nx+1+2:=by omega
  have hn1':¬ st1.nx+1+2=bx:=by omega
  obtain⟨y,hy⟩:∃ y,y=b[j]:=⟨_,rfl⟩
  have htake:yG++(b.take (j+1)).flatMap (meet x)=acc++meet x y:=by
   rw[hacc,take_one hlt,List.flatMap_append,hy];simp
  have hmax:max x.1 y.1=if x.1<y.1 then y.1 else x.1:=by rw[Int.max_def];split<;>split<;>omega
  have hmin:min x.2 y.2=if y.2<x.2 then y.2 else x.2:=by rw[Int.min_def];split<;>split<;>omega
  simp[c132b12,c132r6,c132r7,c132r8,c132r9,e18,e19,e20,spans,hlt,fE,spr,e7,hd.alive,hd.sz,hr,hn1,cell,←hy];rw[←hmax,←hmin];have hml:(meet x y).length≤1:=by unfold meet;split<;>simp
  have wZ:∀ st':St,st'.tmps 7= .one (.ptr ⟨bx,0,2,0,0⟩)→Data st'.heap bx 0 #[x]→st1.nx≤st'.nx→st'.tmps 18=st1.tmps 18→st'.tmps 19=st1.tmps 19→st'.tmps 20= .one (.t (I ((j+1:Nat):Int)))→tR (st'.tmps 5) st'.heap st'.nx (acc++meet x y) bx→
    st'.tmps 0=st1.tmps 0→st'.tmps 1=st1.tmps 1→st'.tmps 12=st1.tmps 12→st'.tmps 13=st1.tmps 13→st'.tmps 14=st1.tmps 14→∃k',k'<k∧BIn x b bx yG st k' st':=by
   intro st' u7 ud un u18 u19 u20 u5 u0 u1 u12 u13 u14;refine⟨b.length - (j+1),by omega,j+1,_,rfl,by omega,htake.symm,by simp;omega,by rw[u7,h7],ud,by omega,by rw[u18,e18,h18],by rw[u19,e19,h19],u20,u5,by rw[u0,e0],by rw[u1,e1],by rw[u12,e12],by rw[u13,e13],by rw[u14,e14]⟩
  have hmt:meet x y=if max x.1 y.1≤min x.2 y.2 then[(max x.1 y.1,min x.2 y.2)] else[]:=rfl
  generalize max x.1 y.1=lo at*;generalize min x.2 y.2=hiV at*;have hd':∀ o:O,∀o':O,Data ((st1.heap.set (st1.nx+1+2) o).set (st1.nx+1+2) o') bx 0 #[x]:=fun o o'=>(hd.set (by omega)).set (by omega)
  constructor
  ·intro hle;rw[if_pos hle]at hmt;rw[hmt]at wZ;rcases e5 with⟨rfl,e5⟩ | ⟨hne,id,ver,h2,h3,h4,h5',h6,h7',h8⟩
   ·simp[c132r10,c132r11,e5,hw,e20];refine wZ _ (by simp[e7]) ((hd' _ _).set (by omega)) (by simp;omega) (by simp) (by simp) (by simp) (.inr ⟨by simp,_,0,?_,?_,by simp;rfl,by simp,?_,by simp,by simp⟩) (by simp) (by simp) (by simp) (by simp) (by simp)
    ·simp<;>omega
    ·omega
    ·rw[dH,if_pos rfl];rfl
   ·have aDZ:¬ id=st1.nx+1+2:=by omega
    have xL:(st1.heap.rows id).length=acc.length:=by rw[h6];simp
    simp[c132r10,c132r11,h4,hw,e20,h5',h7',xL,aDZ];refine⟨by omega,wZ _ (by simp[e7]) ((hd' _ _).set (by omega)) (by simp;omega) (by simp) (by simp) (by simp) (.inr ⟨by simp,id,ver+1,by simp;omega,by omega,by simp,by simp,?_,by simp,by simp[h8]⟩) (by simp) (by simp) (by simp) (by simp) (by simp)⟩;rw[dH,if_pos rfl,h6];simp[cell]
  ·intro hgt;rw[if_neg (by omega)]at hmt;rw[hmt]at wZ;simp[c132r11,hw,e20];exact wZ _ (by simp[e7]) (hd' _ _) (by simp;omega) (by simp) (by simp) (by simp) (by simpa using((e5.set (by omega)).set (by omega)).more (by omega) (.inr rfl)) (by simp) (by simp) (by simp) (by simp) (by simp)
 ·have hj':j=b.length:=by omega
  subst hj';have fE:¬ (b.length:Int)<b.length:=by omega
  simp at hacc;simp[c132b12,c132r6,e19,e20];exact K _ (by rw[←hacc];exact e5.more (by simp) (.inr rfl)) (by simp;omega) (by simp[e0]) (by simp[e1]) (by simp[e12]) (by simp[e13]) (by simp[e14])
def aW2(a b:List Sp)(k:Nat)(st1:St):Prop:=
 ∃(i:Nat),k=a.length - i∧i≤a.length∧st1.tmps 0= .one (.t (spans a))∧st1.tmps 1= .one (.t (spans b))∧st1.tmps 12= .one (.t (spans a))∧st1.tmps 13= .one (.t (I a.length))∧st1.tmps 14= .one (.t (I i))∧
  tR (st1.tmps 5) st1.heap st1.nx (cE (a.take i) b) st1.nx
theorem aKY{x y:Sp}:(meet x y).length≤1:=by unfold meet;split<;>simp
theorem aAO(x:Sp):∀ b:List Sp,(b.flatMap (meet x)).length≤b.length
 | []=>by simp
 | y::b=>by
  have h1:=aAO x b;have h2:=aKY (x:=x) (y:=y);rw[List.flatMap_cons,List.length_append,List.length_cons];omega
theorem aAP(b:List Sp):∀ a:List Sp,(cE a b).length≤a.length*b.length
 | []=>by simp[cE]
 | x::a=>by
  have h1:=aAP b a;have h2:(b.flatMap fun y=>meet x y).length≤b.length:=aAO x b;unfold cE at*;rw[List.flatMap_cons,List.length_append,List.length_cons,Nat.add_mul];simp only[Nat.one_mul]at*;omega
theorem aKZ{a b:List Sp}(ha:∀ x∈a,bad x=false)(hb:∀ x∈b,bad x=false):∀ z∈cE a b,bad z=false:=by
 intro z hz;obtain⟨x,hx,hz⟩:=List.mem_flatMap.1 hz;obtain⟨y,hy,hz⟩:=List.mem_flatMap.1 hz;have h1:=ha x hx;have h2:=hb y hy;unfold meet at hz;split at hz
 ·rename_i h;simp at hz;subst hz;simp[bad]at h1 h2 ⊢;omega
 ·cases hz
theorem aL0(a b:List Sp)(hs:(cE a b).length≤100000)(ha:a.length≤300)(hb:b.length≤300)(hoa:∀ x∈a,bad x=false)(hob:∀ x∈b,bad x=false):PSp prog 132 [.one (.t (spans a)),.one (.t (spans b))] (.one (.t (spans (bI (cE a b))))):=by
 refine k132.aI (by simp) rfl rfl ?_;simp[c132,c132r0,c132r1,c132r2,spans]
 have hbl:∀ i,i≤a.length→(cE (a.take i) b).length+b.length≤100000:=fun i hi=>by
  have h1:=aAP b (a.take i);have h2:(a.take i).length*b.length≤300*300:=Nat.mul_le_mul (by rw[List.length_take];omega) hb;omega
 refine W.cR (fun k st=>aW2 a b k st) a.length ⟨0,by simp,by simp,by simp[spans],by simp[spans],by simp[spans],by simp,by simp,.inl ⟨by simp[cE],by simp⟩⟩ ?_;rintro k st ⟨i,hk,hi,h0,h1,h12,h13,h14,h5⟩;rcases Nat.lt_or_ge i a.length with hlt | hge
 ·have fE:(i:Int)<a.length:=by omega
  have hw:IntKind.i64.wrap ((i:Int)+1)=((i+1:Nat):Int):=aH _ (by omega) (by omega);obtain⟨x,hx⟩:∃ x,x=a[i]:=⟨_,rfl⟩;simp[c132b14,c132r3,c132r4,c132r5,h1,h12,h13,h14,hlt,fE,spans,spr,←hx];refine aIB x b (st.nx+1+2) (cE (a.take i) b) (hbl i hi) _ (by simp) ⟨by simp,?_,by simp,by simp⟩ (by simp<;>omega) (by simp[spans]) (by simp) (by simp) (by simpa using((h5.set (by omega)).set (by omega)).more (by omega) (.inl (by omega))) fun st' u5 un u0 u1 u12 u13 u14=>?_
  ·rw[dH,if_pos rfl];simp[cell]
  simp[h0,h1,h12,h13,h14]at u0 u1 u12 u13 u14;simp[c132r12,u14,hw];refine⟨a.length - (i+1),by omega,i+1,rfl,by omega,by simp[u0],by simp[u1],by simp[u12],by simp[u13],by simp,?_⟩
  have e:cE (a.take (i+1)) b=cE (a.take i) b++b.flatMap (meet x):=by
   rw[take_one hlt];unfold cE;rw[List.flatMap_append,hx];simp
  rw[e];simpa using u5.more (by simp) (.inl (by simp))
 ·have hi':i=a.length:=by omega
  subst hi';have fE:¬ (a.length:Int)<a.length:=by omega
  simp at h5;have hN:=vD (cE a b) hs (aKZ hoa hob);simp[c132b14,c132r3,h13,h14,c132r13];rcases h5 with⟨e,h5⟩ | ⟨_,id,ver,_,_,h5,q1,q2,q3,q4⟩
  ·rw[e]at hN ⊢;rw[h5];refine aD.pure hN (by simp) (by simp[spans]) ?_;simp[aB,spans]
  ·have e1:((cE a b).map spr).length=(cE a b).length:=by simp
   rw[h5,←e1];have q2':st.heap.rows id=((cE a b).map spr).map (·.map .t):=by rw[q2,List.map_map];rfl
   refine aD.pure hN (by simpa using iP q1 q3 q2') (by simp only[List.map_cons,List.map_nil,D.frz,kR q2',spans]) ?_;simp[aB,spans]
theorem Data.congr{h h':Hp}{id ver:Nat}{d:Array Sp}(hd:Data h id ver d)(e:h' id=h id):Data h' id ver d:=by
 obtain⟨a,b,c,f⟩:=hd;refine⟨?_,?_,?_,?_⟩
 ·unfold Ab.alive at*; rw[e];exact a
 ·unfold Hp.rows at*; rw[e];exact b
 ·unfold Hp.sz at*; rw[e];exact c
 ·unfold Hp.shut at*; rw[e];exact f
def uU(d:D)(h:Hp)(nx:Nat)(acc:List Sp)(base did:Nat):Prop:=
 (acc=[]∧d= .one (.tt 2 []))∨(acc≠[]∧∃id ver,base≤id∧id<nx∧id≠did∧d= .one (.ref id ver 0 acc.length 2 false)∧alive h id ver∧h.rows id=acc.map cell∧h.sz id=2∧h.shut id=false)
theorem uU.more{d:D}{h:Hp}{nx nx' base did did':Nat}{acc:List Sp}(ho:uU d h nx acc base did)(hn:nx≤nx')(hd:nx≤did'∨did'<base∨did'=did):uU d h nx' acc base did':=by
 rcases ho with ho | ⟨h1,id,ver,h2,h3,h4⟩
 ·exact .inl ho
 ·exact .inr ⟨h1,id,ver,h2,by omega,by omega,h4.2⟩
theorem uU.set{d:D}{h:Hp}{nx base did j:Nat}{o:O}{acc:List Sp}(ho:uU d h nx acc base did)(hj:nx≤j):uU d (h.set j o) nx acc base did:=by
 rcases ho with ho | ⟨h1,id,ver,h2,h3,h3',h4,h5,h6,h7,h8⟩
 ·exact .inl ho
 ·have hne:id≠j:=by omega
  refine .inr ⟨h1,id,ver,h2,h3,h3',h4,?_,?_,?_,?_⟩
  ·unfold Ab.alive Hp.set at*; rw[if_neg hne];exact h5
  ·unfold Hp.rows Hp.set at*; rw[if_neg hne];exact h6
  ·unfold Hp.sz Hp.set at*; rw[if_neg hne];exact h7
  ·unfold Hp.shut Hp.set at*; rw[if_neg hne];exact h8
theorem bJ{h:Hp}{j id:Nat}{o:O}(hne:id≠j):(h.set j o) id=h id:=by simp[Hp.set,hne]
structure aFY (x y:Sp) (bx bY base:Nat) (acc:List Sp) (h:Hp) (nx:Nat) (tm:Nat→D):Prop where
 t9:tm 9= .one (.ptr ⟨bx,0,2,0,0⟩)
 t6:tm 6= .one (.ptr ⟨bY,0,2,0,0⟩)
 dx:Data h bx 0 #[x]
 dy:Data h bY 0 #[y]
 bxb:base≤bx
 bxn:bx<nx
 byb:bY<base
 out:uU (tm 7) h nx acc base bx
 len:acc.length≤100000
def pF(tm tm':Nat→D):Prop:=tm' 1=tm 1∧tm' 6=tm 6∧tm' 10=tm 10∧tm' 11=tm 11∧tm' 12=tm 12∧tm' 16=tm 16∧tm' 17=tm 17∧tm' 18=tm 18∧tm' 9=tm 9
theorem aW3{n:Nat}{A:Exit→St→Prop}{ks:List KF}{x y:Sp}{bx bY base:Nat}{acc:List Sp}{tm:Nat→D}{h:Hp}{nx nx':Nat}(cs:aFY x y bx bY base acc h nx tm)(_hx:bad x=false)(hy:bad y=false)(hnx:nx'=nx+13)
  (K:∀ tm' h',aFY x y bx bY base (acc++[(x.1,min x.2 (y.1 - 1))]) h' nx' tm'∨100000<acc.length+1→(∀id,id<base→h' id=h id)→pF tm tm'→cL prog n A ks .normal ⟨tm',h',nx'⟩):
  iC prog false nx c102r9 (nI (kont prog n A ks) nx') 0 tm h:=by
 obtain⟨t9,t6,dx,dy,bxb,bxn,byb,out,len⟩:=cs;have rx:h.rows bx=[cell x]:=by rw[dx.rows];rfl
 have ry:h.rows bY=[cell y]:=by rw[dy.rows];rfl
 simp[bad]at hy;have hw:IntKind.i64.wrap (y.1 - 1)=y.1 - 1:=wrap_i64 (by omega) (by omega);have hmin:(if y.1 - 1<x.2 then y.1 - 1 else x.2)=min x.2 (y.1 - 1):=by rw[Int.min_def];split<;>split<;>omega
 rcases out with⟨rfl,out⟩ | ⟨hne,id,ver,h2,h3,h3',h4,h5,h6,h7,h8⟩
 ·simp[c102r9,t9,t6,dx.alive,dx.sz,rx,dy.alive,dy.sz,ry,cell,hw,hmin,out];refine K _ _ (.inl ⟨by simp[t9],by simp[t6],dx.set (by omega),dy.set (by omega),bxb,by omega,byb,.inr ⟨by simp,_,0,?_,?_,?_,by simp;rfl,by simp,?_,by simp,by simp⟩,by simp⟩) (fun id hid=>bJ (by omega)) (by simp[pF])
  ·omega
  ·omega
  ·omega
  ·rw[dH,if_pos rfl];rfl
 ·have xL:(h.rows id).length=acc.length:=by rw[h6];simp
  simp[c102r9,t9,t6,dx.alive,dx.sz,rx,dy.alive,dy.sz,ry,cell,hw,hmin,h4,h5,h7,xL];refine⟨by omega,K _ _ ?_ (fun id hid=>bJ (by omega)) (by simp[pF])⟩;rcases Nat.lt_or_ge 100000 (acc.length+1)with hb | hb
  ·exact .inr hb
  ·refine .inl ⟨by simp[t9],by simp[t6],dx.set (by omega),dy.set (by omega),bxb,by omega,byb,.inr ⟨by simp,id,ver+1,h2,by omega,h3',by simp,by simp,?_,by simp,by simp[h8]⟩,by simpa using hb⟩;rw[dH,if_pos rfl,h6];simp[cell]
theorem aW4{n:Nat}{A:Exit→St→Prop}{ks:List KF}{x y:Sp}{bx bY base:Nat}{acc:List Sp}{tm:Nat→D}{h:Hp}{nx nx':Nat}(cs:aFY x y bx bY base acc h nx tm)(_hx:bad x=false)(hy:bad y=false)(hnx:nx'=nx+13)
  (K:∀ tm' h',aFY x y bx bY base (acc++[(max x.1 (y.2+1),x.2)]) h' nx' tm'∨100000<acc.length+1→(∀id,id<base→h' id=h id)→pF tm tm'→cL prog n A ks .normal ⟨tm',h',nx'⟩):
  iC prog false nx c102r11 (nI (kont prog n A ks) nx') 0 tm h:=by
 obtain⟨t9,t6,dx,dy,bxb,bxn,byb,out,len⟩:=cs;have rx:h.rows bx=[cell x]:=by rw[dx.rows];rfl
 have ry:h.rows bY=[cell y]:=by rw[dy.rows];rfl
 simp[bad]at hy;have hw:IntKind.i64.wrap (y.2+1)=y.2+1:=wrap_i64 (by omega) (by omega);have hmax:(if x.1<y.2+1 then y.2+1 else x.1)=max x.1 (y.2+1):=by rw[Int.max_def];split<;>split<;>omega
 rcases out with⟨rfl,out⟩ | ⟨hne,id,ver,h2,h3,h3',h4,h5,h6,h7,h8⟩
 ·simp[c102r11,t9,t6,dx.alive,dx.sz,rx,dy.alive,dy.sz,ry,cell,hw,hmax,out];refine K _ _ (.inl ⟨by simp[t9],by simp[t6],dx.set (by omega),dy.set (by omega),bxb,by omega,byb,.inr ⟨by simp,_,0,?_,?_,?_,by simp;rfl,by simp,?_,by simp,by simp⟩,by simp⟩) (fun id hid=>bJ (by omega)) (by simp[pF])
  ·omega
  ·omega
  ·omega
  ·rw[dH,if_pos rfl];rfl
 ·have xL:(h.rows id).length=acc.length:=by rw[h6];simp
  simp[c102r11,t9,t6,dx.alive,dx.sz,rx,dy.alive,dy.sz,ry,cell,hw,hmax,h4,h5,h7,xL];refine⟨by omega,K _ _ ?_ (fun id hid=>bJ (by omega)) (by simp[pF])⟩;rcases Nat.lt_or_ge 100000 (acc.length+1)with hb | hb
  ·exact .inr hb
  ·refine .inl ⟨by simp[t9],by simp[t6],dx.set (by omega),dy.set (by omega),bxb,by omega,byb,.inr ⟨by simp,id,ver+1,h2,by omega,h3',by simp,by simp,?_,by simp,by simp[h8]⟩,by simpa using hb⟩;rw[dH,if_pos rfl,h6];simp[cell]
theorem aGN{n:Nat}{A:Exit→St→Prop}{ks:List KF}{J:St→Prop}{x y:Sp}{bx bY base:Nat}{acc:List Sp}{tm:Nat→D}{h:Hp}{nx:Nat}{i:Nat}(cs:aFY x y bx bY base acc h nx tm)(hx:bad x=false)(hy:bad y=false)(hlen:acc.length+2≤100000)(hi:i≤100000)(h18:tm 18= .one (.t (I i)))
  (K:∀ st':St,uU (st'.tmps 7) st'.heap st'.nx (acc++iQ y x) base st'.nx→(∀id,id<base→st'.heap id=h id)→nx≤st'.nx→st'.tmps 1=tm 1→st'.tmps 6=tm 6→st'.tmps 10=tm 10→st'.tmps 11=tm 11→st'.tmps 12=tm 12→st'.tmps 16=tm 16→st'.tmps 17=tm 17→st'.tmps 18= .one (.t (I ((i+1:Nat):Int)))→J st'):
  iC prog false nx c102r8 (nI (kont prog n A (.thn (.cond (X.tmp 26) (.region 9 false 13 c102r9) .skip):: .thn (.seq (.region 10 false 5 c102r10) (.cond (X.tmp 43) (.region 11 false 13 c102r11) .skip)):: .blk 3:: .thn (.region 12 false 2 c102r12):: .post J::ks)) (nx+5)) 0 tm h:=by
 have cs0:=cs;obtain⟨t9,t6,dx,dy,bxb,bxn,byb,out,len⟩:=cs;have rx:h.rows bx=[cell x]:=by rw[dx.rows];rfl
 have ry:h.rows bY=[cell y]:=by rw[dy.rows];rfl
 have hw:IntKind.i64.wrap ((i:Int)+1)=((i+1:Nat):Int):=aH _ (by omega) (by omega)
 -- the second half
 have second:∀ (acc':List Sp) (tm':Nat→D) (h':Hp) (nx':Nat),aFY x y bx bY base acc' h' nx' tm'→acc'.length≤acc.length+1→(acc'++(if y.2<x.2 then[(max x.1 (y.2+1),x.2)] else[])=acc++iQ y x)→(∀id,id<base→h' id=h id)→nx≤nx'→pF tm tm'→
   iC prog false nx' c102r10 (nI (kont prog n A (.thn (.cond (X.tmp 43) (.region 11 false 13 c102r11) .skip):: .blk 3:: .thn (.region 12 false 2 c102r12):: .post J::ks)) (nx'+5)) 0 tm' h':=by
  intro acc' tm' h' nx' cs' hl he hk hn kt;have cs1:=cs';obtain⟨t9',t6',dx',dy',_,bxn',_,out',len'⟩:=cs';have rx':h'.rows bx=[cell x]:=by rw[dx'.rows];rfl
  have ry':h'.rows bY=[cell y]:=by rw[dy'.rows];rfl
  obtain⟨k1,k6,k10,k11,k12,k16,k17,k18,k9⟩:=kt;simp[c102r10,t9',t6',dx'.alive,dx'.sz,rx',dy'.alive,dy'.sz,ry',cell];constructor
  ·intro hlt;rw[if_pos hlt]at he;refine aW4 (acc:=acc') ⟨by simp[t9'],by simp[t6'],dx',dy',bxb,by omega,byb,by simpa using out'.more (by omega) (.inr (.inr rfl)),len'⟩ hx hy rfl fun tm2 h2 c2 hk2 kt2=>?_
   obtain⟨j1,j6,j10,j11,j12,j16,j17,j18,j9⟩:=kt2;simp at j1 j6 j10 j11 j12 j16 j17 j18;rcases c2 with c2 | c2
   ·simp[c102r12,j18,k18,h18,hw];refine K _ ?_ (fun id hid=>(hk2 id hid).trans (hk id hid)) (by simp;omega) (by simp[j1,k1]) (by simp[j6,k6]) (by simp[j10,k10]) (by simp[j11,k11]) (by simp[j12,k12]) (by simp[j16,k16]) (by simp[j17,k17]) (by simp);rw[←he];simpa using c2.out.more (by omega) (.inl (by omega))
   ·omega
  ·intro hge;rw[if_neg (by omega)]at he;simp[c102r12,k18,h18,hw];refine K _ ?_ hk (by simp;omega) (by simp[k1]) (by simp[k6]) (by simp[k10]) (by simp[k11]) (by simp[k12]) (by simp[k16]) (by simp[k17]) (by simp);rw[←he];simpa using out'.more (by omega) (.inl (by omega))
 simp[c102r8,t9,t6,dx.alive,dx.sz,rx,dy.alive,dy.sz,ry,cell];constructor
 ·intro hlt;refine aW3 (acc:=acc) ⟨by simp[t9],by simp[t6],dx,dy,bxb,by omega,byb,by simpa using out.more (by omega) (.inr (.inr rfl)),len⟩ hx hy rfl fun tm2 h2 c2 hk2 kt2=>?_
  obtain⟨j1,j6,j10,j11,j12,j16,j17,j18,j9⟩:=kt2;simp at j1 j6 j10 j11 j12 j16 j17 j18 j9;rcases c2 with c2 | c2
  ·simp;refine second (acc++[(x.1,min x.2 (y.1 - 1))]) tm2 h2 _ c2 (by simp) (by simp[iQ,hlt]) hk2 (by omega) ⟨j1,j6,j10,j11,j12,j16,j17,j18,j9⟩
  ·omega
 ·intro hge;have hng:¬ x.1<y.1:=by omega
  exact second acc _ h _ ⟨by simp[t9],by simp[t6],dx,dy,bxb,by omega,byb,by simpa using out.more (by omega) (.inr (.inr rfl)),len⟩ (by omega) (by simp[iQ,hng]) (fun _ _=>rfl) (by omega) (by simp[pF])
theorem Asc.left:∀ {a b:List Sp},Asc (a++b)→Asc a
 | [],_,_=>trivial
 | x::a,b,h=>⟨h.1,fun y hy=>h.2.1 y (by simp[hy]),Asc.left h.2.2⟩
theorem Asc.take{a:List Sp}(h:Asc a)(j:Nat):Asc (a.take j):=Asc.left (b:=a.drop j) (by rw[List.take_append_drop];exact h)
def Cur(d:D)(h:Hp)(base:Nat)(l:List Sp):Prop:=
 d= .one (.t (spans l))∨(l=[]∧d= .one (.tt 2 []))∨∃id ver,id<base∧d= .one (.ref id ver 0 l.length 2 false)∧Data h id ver l.toArray
def CIn(y:Sp)(cur:List Sp)(base:Nat)(st:St)(k:Nat)(st1:St):Prop:=
 ∃j:Nat,k=cur.length - j∧j≤cur.length∧(∀id,id<base→st1.heap id=st.heap id)∧st.nx≤st1.nx∧uU (st1.tmps 7) st1.heap st1.nx (iY (cur.take j) y) base st1.nx∧
  st1.tmps 1=st.tmps 1∧st1.tmps 6=st.tmps 6∧st1.tmps 10=st.tmps 10∧st1.tmps 11=st.tmps 11∧st1.tmps 12=st.tmps 12∧st1.tmps 16=st.tmps 16∧st1.tmps 17=st.tmps 17∧st1.tmps 18= .one (.t (I j))
theorem xM{n:Nat}{A:Exit→St→Prop}{ks:List KF}(y:Sp)(cur:List Sp)(bY base:Nat)(st:St)(hcur:Cur (st.tmps 16) st.heap base cur)(h17:st.tmps 17= .one (.t (I cur.length)))(h18:st.tmps 18= .one (.t (I 0)))(h7:st.tmps 7= .one (.tt 2 []))
  (h6:st.tmps 6= .one (.ptr ⟨bY,0,2,0,0⟩)) (dy:Data st.heap bY 0 #[y]) (byb:bY<base) (hbase:base≤st.nx) (hA:Asc cur) (hok:∀ x∈cur,bad x=false) (hy:bad y=false) (hlen:cur.length≤50000)
  (K:∀ st':St,uU (st'.tmps 7) st'.heap st'.nx (iY cur y) base st'.nx→(∀id,id<base→st'.heap id=st.heap id)→st.nx≤st'.nx→st'.tmps 1=st.tmps 1→st'.tmps 10=st.tmps 10→st'.tmps 11=st.tmps 11→st'.tmps 12=st.tmps 12→cL prog n A ks .normal st'):
  W prog n (.loop c102b13) (kont prog n A (.blk 2::ks)) st:=by
 have hyv:y.1≤y.2:=by simp[bad]at hy;omega
 refine W.cR (fun k st1=>CIn y cur base st k st1) cur.length ⟨0,by simp,by simp,fun _ _=>rfl,Nat.le_refl _,.inl ⟨by simp[iY],h7⟩,rfl,rfl,rfl,rfl,rfl,rfl,rfl,h18⟩ ?_;rintro k st1 ⟨j,hk,hj,hh,hnx,h7,e1,e6,e10,e11,e12,e16,e17,e18⟩;rw[h6]at e6;rw[h17]at e17;rcases Nat.lt_or_ge j cur.length with hlt | hge
 ·have fE:(j:Int)<cur.length:=by omega
  obtain⟨x,hx⟩:∃ x,x=cur[j]:=⟨_,rfl⟩;have hbx:bad x=false:=hok x (by rw[hx];exact gL9 hlt);have hl:=xJ (hA.take j) hyv;rw[List.length_take]at hl
  have hstep:iY (cur.take j) y++iQ y x=iY (cur.take (j+1)) y:=by
   rw[take_one hlt];unfold iY;rw[List.flatMap_append,hx];simp
  have dy1:Data st1.heap bY 0 #[y]:=dy.congr (hh bY byb)
  have fin:∀ (st':St),uU (st'.tmps 7) st'.heap st'.nx (iY (cur.take j) y++iQ y x) base st'.nx→(∀id,id<base→st'.heap id=st1.heap id)→st1.nx≤st'.nx→st'.tmps 1=st1.tmps 1→st'.tmps 6=st1.tmps 6→st'.tmps 10=st1.tmps 10→st'.tmps 11=st1.tmps 11→st'.tmps 12=st1.tmps 12→st'.tmps 16=st1.tmps 16→st'.tmps 17=st1.tmps 17→st'.tmps 18= .one (.t (I ((j+1:Nat):Int)))→∃k',k'<k∧CIn y cur base st k' st':=by
   intro st' u7 uh un u1 u6 u10 u11 u12 u16 u17 u18;rw[hstep]at u7;exact⟨cur.length - (j+1),by omega,j+1,rfl,by omega,fun id hid=>(uh id hid).trans (hh id hid),by omega,u7,u1.trans e1,u6.trans (e6.trans h6.symm),u10.trans e10,u11.trans e11,u12.trans e12,u16.trans e16,u17.trans (e17.trans h17.symm),u18⟩
  have boxed:∀ (d16:D) (tm:Nat→D),st1.tmps 16=d16→tm 9= .one (.ptr ⟨st1.nx+1+2,0,2,0,0⟩)→tm 6=st1.tmps 6→tm 7=st1.tmps 7→
    aFY x y (st1.nx+1+2) bY base (iY (cur.take j) y) ((st1.heap.set (st1.nx+1+2) (.arr 0 false 2 [[.t (.int .i64 0),.t (.int .i64 0)]])).set (st1.nx+1+2) (.arr 0 false 2 [[.t (I x.1),.t (I x.2)]])) (st1.nx+1+4) tm:=by
   intro d16 tm _ t9 t6 t7;refine⟨t9,by rw[t6,e6],⟨by simp,?_,by simp,by simp⟩,(dy1.set (by omega)).set (by omega),by omega,by omega,byb,?_,by omega⟩
   ·rw[dH,if_pos rfl];simp[cell]
   ·rw[t7];exact((h7.set (by omega)).set (by omega)).more (by omega) (.inl (by omega))
  have keep:∀ id,id<base→((st1.heap.set (st1.nx+1+2) (.arr 0 false 2 [[.t (.int .i64 0),.t (.int .i64 0)]])).set (st1.nx+1+2) (.arr 0 false 2 [[.t (I x.1),.t (I x.2)]])) id=st1.heap id:=fun id hid=>by rw[bJ (by omega),bJ (by omega)]
  have aST:Cur (st1.tmps 16) st1.heap base cur:=by
   rw[e16];rcases hcur with h | h | ⟨id,ver,q1,q2,q3⟩
   ·exact .inl h
   ·exact .inr (.inl h)
   ·exact .inr (.inr ⟨id,ver,q1,q2,q3.congr (hh id q1)⟩)
  rcases aST with h | ⟨h,_⟩ | ⟨id,ver,q1,q2,q3⟩
  ·simp[c102b13,c102r6,c102r7,h,e17,e18,spans,hlt,fE,spr,←hx];refine aGN (i:=j) (boxed _ _ h (by simp) (by simp) (by simp)) hbx hy (by omega) (by omega) (by simp[e18]) fun st' u7 uh un u1 u6 u10 u11 u12 u16 u17 u18=>?_
   simp at u1 u6 u10 u11 u12 u16 u17;exact fin st' u7 (fun id hid=>(uh id hid).trans (keep id hid)) (by omega) u1 u6 u10 u11 u12 u16 u17 u18
  ·rw[h]at hlt;simp at hlt
  ·have hja:j<cur.toArray.size:=by simpa using hlt
   have hln:(st1.heap.rows id).length=cur.length:=by rw[q3.rows];simp
   have g1:∀ hh,(st1.heap.rows id)[j]'hh=cell x:=fun hh=>by have:=rowAt q3 hja hh;rw[hx];simpa using this
   simp[c102b13,c102r6,c102r7,q2,e17,e18,hlt,fE,q3.alive,q3.sz,hln,g1,cell];refine aGN (i:=j) (boxed _ _ q2 (by simp) (by simp) (by simp)) hbx hy (by omega) (by omega) (by simp[e18]) fun st' u7 uh un u1 u6 u10 u11 u12 u16 u17 u18=>?_
   simp at u1 u6 u10 u11 u12 u16 u17;exact fin st' u7 (fun id hid=>(uh id hid).trans (keep id hid)) (by omega) u1 u6 u10 u11 u12 u16 u17 u18
 ·have hj':j=cur.length:=by omega
  subst hj';have fE:¬ (cur.length:Int)<cur.length:=by omega
  simp at h7;simp[c102b13,c102r6,e17,e18];exact K _ (by simpa using h7.more (by simp) (.inl (by simp))) hh (by simp;omega) (by simp[e1]) (by simp[e10]) (by simp[e11]) (by simp[e12])
def CB(b a:List Sp)(k:Nat)(st:St):Prop:=
 ∃i:Nat,k=b.length - i∧i≤b.length∧Cur (st.tmps 0) st.heap st.nx (bF a (b.take i))∧st.tmps 1= .one (.t (spans b))∧st.tmps 10= .one (.t (spans b))∧st.tmps 11= .one (.t (I b.length))∧st.tmps 12= .one (.t (I i))
theorem aE4{a b:List Sp}(hA:Asc a)(hb:∀ y∈b,y.1≤y.2)(hoa:∀ x∈a,bad x=false):∀ z∈bF a b,bad z=false:=by
 intro z hz;obtain⟨h1,_,h3⟩:=gU hA hb;obtain⟨x,hx,h4⟩:=h3 z hz;have h5:=h1.valid z hz;have h6:=hoa x hx;simp[bad]at h6 ⊢;omega
theorem aL1(a b:List Sp)(hs:(bF a b).length≤100000)(ha:a.length≤300)(hb:b.length≤300)(hA:Asc a)(hoa:∀ x∈a,bad x=false)(hob:∀ x∈b,bad x=false):PSp prog 102 [.one (.t (spans a)),.one (.t (spans b))] (.one (.t (spans (bI (bF a b))))):=by
 have hvb:∀ y∈b,y.1≤y.2:=fun y hy=>by have:=hob y hy;simp[bad]at this;omega
 have hpart:∀ i,Asc (bF a (b.take i))∧(bF a (b.take i)).length≤600∧∀z∈bF a (b.take i),bad z=false:=fun i=>by
  have hv:∀ y∈b.take i,y.1≤y.2:=fun y hy=>hvb y (List.mem_of_mem_take hy)
  obtain⟨h1,h2,_⟩:=gU (b:=b.take i) hA hv;refine⟨h1,?_,aE4 hA hv hoa⟩;rw[List.length_take]at h2;omega
 refine k102.aI (by simp) rfl rfl ?_;simp[c102,c102r0,c102r1,spans];refine W.cR (fun k st=>CB b a k st) b.length ⟨0,by simp,by simp,.inl (by simp[bF,spans]),by simp[spans],by simp[spans],by simp,by simp⟩ ?_;rintro k st ⟨i,hk,hi,hcur,h1,h10,h11,h12⟩;obtain⟨pA,pl,pok⟩:=hpart i;rcases Nat.lt_or_ge i b.length with hlt | hge
 ·have fE:(i:Int)<b.length:=by omega
  have hw:IntKind.i64.wrap ((i:Int)+1)=((i+1:Nat):Int):=aH _ (by omega) (by omega);obtain⟨y,hy⟩:∃ y,y=b[i]:=⟨_,rfl⟩;have hby:bad y=false:=hob y (by rw[hy];exact gL9 hlt)
  have hstep:bF a (b.take (i+1))=iY (bF a (b.take i)) y:=by
   unfold bF;rw[take_one hlt,List.foldl_append,hy];rfl
  obtain⟨cur,hc⟩:∃ cur,cur=bF a (b.take i):=⟨_,rfl⟩;rw[←hc]at hcur pA pl pok hstep
  have next:∀ st':St,uU (st'.tmps 7) st'.heap st'.nx (iY cur y) (st.nx+1+4+1+3) st'.nx→st'.tmps 1= .one (.t (spans b))→st'.tmps 10= .one (.t (spans b))→st'.tmps 11= .one (.t (I b.length))→st'.tmps 12= .one (.t (I i))→
    cL prog 61 (aB [.tmp 4] (.one (.t (spans (bI (bF a b)))))) [.thn (.region 13 false 2 c102r13),.blk 1,.thn (.region 14 false 2 c102r14),.post fun st'=>∃ k',k'<k∧CB b a k' st',.blk 0,.thn (.seq (.region 15 false 3 c102r15) .ret)] .normal st':=by
   intro st' u7 u1 u10 u11 u12;simp[c102r13,c102r14,u12,hw];refine⟨b.length - (i+1),by omega,i+1,rfl,by omega,?_,by simp[u1],by simp[u10],by simp[u11],by simp⟩;rw[hstep];rcases u7 with⟨e,u7⟩ | ⟨_,id,ver,q0,q1,q2,q3,q4,q5,q6,q7⟩
   ·exact .inr (.inl ⟨e,by simp[u7]⟩)
   ·exact .inr (.inr ⟨id,ver,by simp;omega,by simp[q3],⟨q4,by simpa using q5,q6,q7⟩⟩)
  have hnx:st.nx+1+4+1+3=st.nx+9:=by omega
  have dyS:∀ (o:O),Data ((st.heap.set (st.nx+1+2) o).set (st.nx+1+2) (.arr 0 false 2 [[.t (I y.1),.t (I y.2)]])) (st.nx+1+2) 0 #[y]:=fun o=>⟨by simp,by rw[dH,if_pos rfl];simp[cell],by simp,by simp⟩
  rcases hcur with h | ⟨h,h'⟩ | ⟨id,ver,q1,q2,q3⟩
  ·simp[c102b16,c102r2,c102r3,c102r4,c102r5,h,h10,h11,h12,spans,hlt,fE,spr,←hy];refine xM y cur (st.nx+1+2) (st.nx+1+4+1+3) _ (.inl (by simp[spans])) (by simp) (by simp) (by simp) (by simp) (dyS _) (by omega) (by simp) pA pok hby (by omega) fun st' u7 uh un u1 u10 u11 u12=>?_
   exact next st' u7 (by rw[u1];simp[h1]) (by rw[u10];simp[h10]) (by rw[u11];simp[h11]) (by rw[u12];simp[h12])
  ·subst h;simp[c102b16,c102r2,c102r3,c102r4,c102r5,h',h10,h11,h12,spans,hlt,fE,spr,←hy];refine xM y [] (st.nx+1+2) (st.nx+1+4+1+3) _ (.inr (.inl ⟨rfl,by simp⟩)) (by simp) (by simp) (by simp) (by simp) (dyS _) (by omega) (by simp) pA pok hby (by simp) fun st' u7 uh un u1 u10 u11 u12=>?_
   exact next st' u7 (by rw[u1];simp[h1]) (by rw[u10];simp[h10]) (by rw[u11];simp[h11]) (by rw[u12];simp[h12])
  ·simp[c102b16,c102r2,c102r3,c102r4,c102r5,q2,h10,h11,h12,spans,hlt,fE,spr,←hy];refine xM y cur (st.nx+1+2) (st.nx+1+4+1+3) _ (.inr (.inr ⟨id,ver,by omega,by simp,(q3.set (by omega)).set (by omega)⟩)) (by simp) (by simp) (by simp) (by simp) (dyS _) (by omega) (by simp) pA pok hby (by omega) fun st' u7 uh un u1 u10 u11 u12=>?_
   exact next st' u7 (by rw[u1];simp[h1]) (by rw[u10];simp[h10]) (by rw[u11];simp[h11]) (by rw[u12];simp[h12])
 ·have hi':i=b.length:=by omega
  subst hi';have fE:¬ (b.length:Int)<b.length:=by omega
  simp at hcur pl pok;have hN:=vD (bF a b) hs (fun x hx=>by have:=pok x.1 x.2 hx;simpa using this);rcases hcur with h | ⟨h,h'⟩ | ⟨id,ver,q1,q2,q3⟩
  ·simp[c102b16,c102r2,h11,h12,c102r15,h];refine aD.pure hN (by simp) (by simp[spans]) ?_;simp[aB,spans]
  ·rw[h]at hN ⊢;simp[c102b16,c102r2,h11,h12,c102r15,h'];refine aD.pure hN (by simp) (by simp[spans]) ?_;simp[aB,spans]
  ·have e1:((bF a b).map spr).length=(bF a b).length:=by simp
   simp[c102b16,c102r2,h11,h12,c102r15,q2];rw[←e1];have q2':st.heap.rows id=((bF a b).map spr).map (·.map .t):=by rw[q3.rows,List.map_map];rfl
   refine aD.pure hN (by simpa using iP q3.alive q3.sz q2') (by simp only[List.map_cons,List.map_nil,D.frz,kR q2',spans]) ?_;simp[aB,spans]
theorem aSU(m:Nat)(hm:0<m)(hm2:m≤100000)(h:Hp)(n0:Nat)(ho:aF h n0):
  ISp prog 162 h n0 [.one (.tt 2 []),.one (.t (I m))] (.one (.ref n0 1 0 0 2 false)) (aR h n0 1 #[]):=by
 refine k162.aOK (by simp) ?_;have w0:IntKind.i64.wrap (0:Int)=0:=wrap_i64 (by omega) (by omega);have w1:IntKind.i64.wrap (m:Int)=m:=wrap_i64 (by omega) (by omega);have hneg:¬ (m:Int)<0:=by omega
 have hpos:(0:Int)<m:=by omega
 simp[c162,c162r0,c162r1,c162r3,c162r4,c162r5,c162r6,hneg,hm,w0,w1,D.aII,D.uX,D.trunc,D.rG];refine⟨⟨by omega,by omega⟩,n0+1+2+8+2+5,.inr rfl,⟨by simp,by simp⟩,⟨.ref (n0+1+2+8+2+5) 1 0 0 2 false,rfl,by simp[A.only],by simp[A.ren,rT]⟩,by omega,fun id hid=>?_,?_,⟨.arr 1 false 2 [],by simp[Hp.set]⟩,fun id hid=>?_,fun id o hid=>?_⟩
 ·simp only[aR,Hp.set];rw[if_neg (by omega),if_neg (by omega),if_neg (by omega)]
 ·simp only[aR,Hp.set,if_true];rfl
 ·simp only[aR,Hp.set];rw[if_neg (by omega)];exact ho.above id (by omega)
 ·simp only[aR,Hp.set]at hid;split at hid
  ·simp only[sI9]at hid;subst hid;simp[O.below]
  ·exact ho.below id o hid
theorem aPY(h:Hp)(n0:Nat)(ho:aF h n0):ISp prog 162 h n0 [.one (.tt 2 []),.one (.t (I 0))] (.one (.tt 2 [])) h:=by
 refine k162.ttK (by simp) ?_;have w0:IntKind.i64.wrap (0:Int)=0:=wrap_i64 (by omega) (by omega);simp[c162,c162r0,c162r1,c162r3,c162r4,c162r6,w0,D.aII];exact⟨.inr rfl,⟨by simp,by simp⟩,rfl,⟨2,[],rfl⟩,fun _ _=>rfl,ho.above,ho.below⟩
def lists(ls:List (List Sp)):T:= .rows 1 (ls.map fun l=>[spans l])
def aSV(d:D)(h:Hp)(nx:Nat)(acc:List Sp)(tot:Nat):Prop:=
 (tot=0∧acc=[]∧d= .one (.tt 2 []))∨(0<tot∧∃id ver,id<nx∧d= .one (.ref id ver 0 acc.length 2 false)∧Data h id ver acc.toArray)
def CC1(ls:List (List Sp))(k:Nat)(st:St):Prop:=
 ∃i:Nat,k=ls.length - i∧i≤ls.length∧st.heap=jE∧st.tmps 0= .one (.t (lists ls))∧st.tmps 9= .one (.t (lists ls))∧st.tmps 10= .one (.t (I ls.length))∧st.tmps 11= .one (.t (I i))∧st.tmps 3= .one (.t (I ((ls.take i).flatten.length:Nat)))
def CC2(ls:List (List Sp))(k:Nat)(st:St):Prop:=
 ∃i:Nat,k=ls.length - i∧i≤ls.length∧st.tmps 25= .one (.t (lists ls))∧st.tmps 26= .one (.t (I ls.length))∧st.tmps 27= .one (.t (I i))∧aSV (st.tmps 6) st.heap st.nx (ls.take i).flatten ls.flatten.length
theorem aAQ{b:List (List Sp)}{j:Nat}(h:j<b.length):(b.take (j+1)).flatten=(b.take j).flatten++b[j]:=by rw[List.take_add_one,gE9 h,List.flatten_append];simp
theorem sN(ls:List (List Sp))(i:Nat):(ls.take i).flatten.length≤ls.flatten.length:=by
 have:=congrArg List.length (congrArg List.flatten (List.take_append_drop i ls));rw[List.flatten_append,List.length_append]at this;omega
theorem aNL(ls:List (List Sp))(hl:ls.flatten.length≤100000)(hl2:ls.length≤100000):PSp prog 131 [.one (.t (lists ls))] (.one (.t (spans ls.flatten))):=by
 refine k131.aI (by simp) rfl rfl ?_;simp[c131,c131r0,c131r1,c131r2,lists];refine W.cR (fun k st=>CC1 ls k st) ls.length ⟨0,by simp,by simp,by simp,by simp[lists],by simp[lists],by simp,by simp,by simp⟩ ?_;rintro k st ⟨i,hk,hi,hh,h0,h9,h10,h11,h3⟩;have hpi:=sN ls i;rcases Nat.lt_or_ge i ls.length with hlt | hge
 ·have fE:(i:Int)<ls.length:=by omega
  have aPZ:=sN ls (i+1);have hstep:=aAQ hlt;obtain⟨l,hle⟩:∃ l,l=ls[i]:=⟨_,rfl⟩;obtain⟨t,ht⟩:∃ t:Nat,t=(ls.take i).flatten.length:=⟨_,rfl⟩;obtain⟨t1,ht1⟩:∃ t:Nat,t=(ls.take (i+1)).flatten.length:=⟨_,rfl⟩;have hsum:t1=t+l.length:=by rw[ht1,hstep,List.length_append,ht,hle]
  rw[←ht]at h3 hpi;rw[←ht1]at aPZ;have hw:IntKind.i64.wrap ((i:Int)+1)=((i+1:Nat):Int):=aH _ (by omega) (by omega);have hw2:IntKind.i64.wrap ((t:Int)+l.length)=(t1:Int):=aH _ (by omega) (by omega);have hng:¬ (t1:Int)<0:=by omega
  simp[c131b9,c131r3,c131r4,c131r5,c131r6,c131r8,h9,h10,h11,h3,lists,hlt,fE,←hle,spans,hw,hw2,hng];exact⟨ls.length - (i+1),by omega,i+1,rfl,by omega,by simp[hh],by simp[h0,lists],by simp[h9,lists],by simp[h10],by simp,by simp[ht1]⟩
 ·have hi':i=ls.length:=by omega
  subst hi';have fE:¬ (ls.length:Int)<ls.length:=by omega
  rw[List.take_length]at h3;obtain⟨t,ht⟩:∃ t:Nat,t=ls.flatten.length:=⟨_,rfl⟩;rw[←ht]at h3 hl;have ho0:∀ n,aF jE n:=fun n=>⟨fun _ _=>rfl,fun id o h=>by cases h⟩
  have after:∀ (d:D) (g:Hp) (tm:Nat→D) (nx:Nat),tm 0= .one (.t (lists ls))→tm 6=d→aSV d g nx [] t→
    aY prog 36 (aB [.tmp 2] (.one (.t (spans ls.flatten)))) (.seq (.seq (.region 10 false 3 c131r10) (.block 2 (.loop c131b16))) (.seq (.region 15 false 2 c131r15) .ret)) [] ⟨tm,g,nx⟩:=by
   intro d g tm nx u0 u6 uo;simp[c131r10,u0,lists];refine W.cR (fun k st=>CC2 ls k st) ls.length ⟨0,by simp,by simp,by simp[lists],by simp,by simp,?_⟩ ?_
   ·rw[←ht];rcases uo with⟨a,b,c⟩ | ⟨a,id,ver,b,c,e⟩
    ·exact .inl ⟨a,by simp,by simp[u6,c]⟩
    ·exact .inr ⟨a,id,ver,by simp;omega,by simp[u6,c],by simpa using e⟩
   rintro k st2 ⟨i,hk,hi,h25,h26,h27,h6⟩;have hpi:=sN ls i;rcases Nat.lt_or_ge i ls.length with hlt | hge
   ·have fE:(i:Int)<ls.length:=by omega
    have aPZ:=sN ls (i+1);have hstep:=aAQ hlt;obtain⟨l,hle⟩:∃ l,l=ls[i]:=⟨_,rfl⟩;rw[←hle]at hstep;obtain⟨acc,hacc⟩:∃ acc,acc=(ls.take i).flatten:=⟨_,rfl⟩;rw[←hacc]at h6 hstep hpi;rw[hstep,List.length_append]at aPZ;have hw:IntKind.i64.wrap ((i:Int)+1)=((i+1:Nat):Int):=aH _ (by omega) (by omega);rcases h6 with⟨a,b,c⟩ | ⟨a,id,ver,b,c,e⟩
    ·have hlz:l=[]:=List.eq_nil_of_length_eq_zero (by omega);rw[hlz]at hle hstep;simp[c131b16,c131r11,c131r12,c131r13,c131r14,h25,h26,h27,c,lists,hlt,fE,←hle,spans,hw];exact⟨ls.length - (i+1),by omega,i+1,rfl,by omega,by simp[h25,lists],by simp[h26],by simp,.inl ⟨a,by rw[hstep];simp[b],by simp⟩⟩
    ·have hln:(st2.heap.rows id).length=acc.length:=by rw[e.rows];simp
     simp[c131b16,c131r11,c131r12,c131r13,c131r14,h25,h26,h27,c,lists,hlt,fE,←hle,spans,hw,e.alive,e.sz,hln];refine⟨by omega,ls.length - (i+1),by omega,i+1,rfl,by omega,by simp[h25,lists],by simp[h26],by simp,.inr ⟨a,id,ver+1,by simp;omega,by rw[hstep];simp,⟨by simp,?_,by simp,by simp[e.open_]⟩⟩⟩;rw[dH,if_pos rfl,e.rows,hstep];simp[cell,spr]
   ·have hi':i=ls.length:=by omega
    subst hi';have fE:¬ (ls.length:Int)<ls.length:=by omega
    rw[List.take_length]at h6;simp[c131b16,c131r11,h26,h27,c131r15,aB];rcases h6 with⟨a,b,c⟩ | ⟨a,id,ver,b,c,e⟩
    ·rw[c,b];simp[spans]
    ·have e1:(ls.flatten.map spr).length=ls.flatten.length:=List.length_map _;rw[c,←e1];have q2':st2.heap.rows id=(ls.flatten.map spr).map (·.map .t):=by rw[e.rows,List.map_map];rfl
     refine⟨iP e.alive e.sz q2',?_⟩;simp only[kR q2',spans]
  by_cases ht0:t=0
  ·subst ht0;have h3':st.tmps 3= .one (.t (I 0)):=by rw[h3];rfl
   simp[c131b9,c131r3,h10,h11,c131r9,h3',hh];refine aD.imp (aPY jE _ (ho0 _)) ?_;simp only[vO];exact after (.one (.tt 2 [])) _ _ _ h0 rfl (.inl ⟨rfl,rfl,rfl⟩)
  ·simp[c131b9,c131r3,h10,h11,c131r9,h3,hh];refine aD.imp (aSU t (by omega) (by omega) jE _ (ho0 _)) ?_;simp only[vO];exact after (.one (.ref _ 1 0 0 2 false)) _ _ _ h0 rfl (.inr ⟨by omega,_,1,by omega,rfl,bE⟩)
theorem aL2(a b:List Sp)(hs:a.length+b.length≤100000)(hoa:∀ x∈a,bad x=false)(hob:∀ x∈b,bad x=false):PSp prog 86 [.one (.t (I 0)),.one (.t (spans a)),.one (.t (spans b))] (.one (.t (spans (bI (a++b))))):=by
 refine k86.aI (by simp) rfl rfl ?_;simp[c86,c86r0,c86r1,c86r2,c86r3,spans];have hc:=aNL [a,b] (by simp;omega) (by simp);simp[spans]at hc;refine aD.pure hc (by simp) (by simp[lists,spans]) ?_;have hn:=vD (a++b) (by simp;omega) (fun x hx=>by rcases List.mem_append.1 hx with h | h;exact hoa x h;exact hob x h);simp[spans]at hn;simp;refine aD.pure hn (by simp) (by simp) ?_;simp[aB]
section
attribute [local simp] bD aN aS aG aU aO aZ tyC fdC vlC ndC aL D.cK D.pt
theorem aC1{bg:List Nat}{i:Nat}{x:Nd}(N:wT bg i x.args){k:Nat}(h:k<x.args.length):x.args[k]? =some ((aJ x k:Nat):Int):=by
 obtain⟨c,c1,_,_⟩:=N.arg _ (gL9 h);simp only[aJ,List.getD_eq_getElem?_getD,gE9 h,Option.getD_some,c1];simp
end
section
attribute [local simp] bD aN aS aG aU aO aZ tyC fdC vlC ndC aL D.cK D.pt
attribute [local simp] c80 in
theorem P80(t:Ty)(hn:t.narrow=true):PSp prog 80 [.agg (tyC t)] (.one (.t (I (dF t).2))):=by
 refine k80.aI (by simp) (by simp[D.closed,A.closed]) rfl ?_;have p:=P14 t hn;generalize dF t=R at*;simp -implicitDefEqProofs [-aA,-gval];refine aD.tree p rfl ?_;simp -implicitDefEqProofs [-aA,-gval,aB]
attribute [local simp] c29 in
theorem P29(t:Ty)(hn:t.narrow=true):PSp prog 29 [.agg (tyC t)] (.one (.t (I (wV t).2))):=by
 refine k29.aI (by simp) (by simp[D.closed,A.closed]) rfl ?_;have p:=P16 t hn;generalize wV t=R at*;simp -implicitDefEqProofs [-aA,-gval];refine aD.tree p rfl ?_;simp -implicitDefEqProofs [-aA,-gval,aB]
def jP:List Sp:=[(-1152921504606846976,1152921504606846976)]
def kA(t:Ty):List Sp:=if t.limits.length==0 then(if t.kind==2 then jP else[(0,40)])else spL t.limits t.limits.length (t.limits.length - 1)
def mZ(t:Ty):List Sp:=if t.limits.length==0 then(if t.kind==2 then jP else[(0,40)])else if t.kind==2 then nuR t.limits t.limits.length (t.limits.length - 1)else szR t.limits t.limits.length (t.limits.length - 1)
attribute [local simp] c82 in
theorem P82(t:Ty)(hl:t.limits.length≤40)(h90:t.limits.length≠0→PSp prog 90 [.one (.t (aG t.limits)),.one (.t (I ((t.limits.length - 1:Nat):Int)))] (.one (.t (spans (spL t.limits t.limits.length (t.limits.length - 1)))))):
  PSp prog 82 [.agg (tyC t)] (.one (.t (spans (kA t)))):=by
 refine k82.aI (by simp) (by simp[D.closed,A.closed]) rfl ?_
 by_cases z:t.limits.length=0
 ·have zI:¬ 0<t.limits.length:=by omega
  rcases eqCases t.kind 2 with k2 | k2
  ·have e:kA t=jP:=by simp[kA,z,k2]
   rw[e];simp -implicitDefEqProofs [-aA,-gval,z,k2,aB,spans,spr,jP]
  ·have e:kA t=[(0,40)]:=by simp[kA,z,k2]
   rw[e];simp -implicitDefEqProofs [-aA,-gval,z,k2,aB,spans,spr]
 ·have zI:0<t.limits.length:=by omega
  have hw:IntKind.i64.wrap ((t.limits.length:Int) - 1)=((t.limits.length - 1:Nat):Int):=by rw[wrap_i64 (by omega) (by omega)];omega
  have e:kA t=spL t.limits t.limits.length (t.limits.length - 1):=by simp[kA,z]
  rw[e];have c:=h90 z;generalize spL t.limits t.limits.length (t.limits.length - 1)=R at*;simp -implicitDefEqProofs [-aA,-gval,zI,hw];refine aD.tree c rfl ?_;simp -implicitDefEqProofs [-aA,-gval,aB]
attribute [local simp] c31 in
theorem P31(t:Ty)(hl:t.limits.length≤40)(h83:t.limits.length≠0→t.kind=2→PSp prog 83 [.one (.t (aG t.limits)),.one (.t (I ((t.limits.length - 1:Nat):Int)))] (.one (.t (spans (nuR t.limits t.limits.length (t.limits.length - 1))))))
  (h84:t.limits.length≠0→t.kind≠2→PSp prog 84 [.one (.t (aG t.limits)),.one (.t (I ((t.limits.length - 1:Nat):Int)))] (.one (.t (spans (szR t.limits t.limits.length (t.limits.length - 1)))))):
  PSp prog 31 [.agg (tyC t)] (.one (.t (spans (mZ t)))):=by
 refine k31.aI (by simp) (by simp[D.closed,A.closed]) rfl ?_
 by_cases z:t.limits.length=0
 ·have hw:IntKind.i64.wrap ((t.limits.length:Int) - 1)= -1:=by rw[z];decide
  have hw0:IntKind.i64.wrap ((0:Int) - 1)= -1:=by decide
  have hw1:IntKind.i64.wrap (-1:Int)= -1:=by decide
  have zl:t.limits=[]:=List.length_eq_zero_iff.1 z;rcases eqCases t.kind 2 with k2 | k2
  ·have e:mZ t=jP:=by simp[mZ,z,k2]
   rw[e];simp -implicitDefEqProofs [-aA,-gval,zl,hw1,k2,aB,spans,spr,jP]
  ·have e:mZ t=[(0,40)]:=by simp[mZ,z,k2]
   rw[e];simp -implicitDefEqProofs [-aA,-gval,zl,hw1,k2,aB,spans,spr]
 ·have hw:IntKind.i64.wrap ((t.limits.length:Int) - 1)=((t.limits.length - 1:Nat):Int):=by rw[wrap_i64 (by omega) (by omega)];omega
  obtain⟨m,hm⟩:∃ m:Nat,t.limits.length - 1=m:=⟨_,rfl⟩;have hneg:¬ ((m:Int)<0):=by omega
  rw[hm]at hw h83 h84;rcases eqCases t.kind 2 with k2 | k2
  ·have e:mZ t=nuR t.limits t.limits.length m:=by simp[mZ,z,k2,hm]
   rw[e];have c:=h83 z k2;generalize nuR t.limits t.limits.length m=R at*;simp -implicitDefEqProofs [-aA,-gval,hw,hneg,k2];refine aD.tree c rfl ?_;simp -implicitDefEqProofs [-aA,-gval,aB]
  ·have e:mZ t=szR t.limits t.limits.length m:=by simp[mZ,z,k2,hm]
   rw[e];have c:=h84 z k2.2.1;generalize szR t.limits t.limits.length m=R at*;simp -implicitDefEqProofs [-aA,-gval,hw,hneg,k2];refine aD.tree c rfl ?_;simp -implicitDefEqProofs [-aA,-gval,aB]
end
section
attribute [local simp] bD aN aS aG aU aO aZ tyC fdC vlC ndC aL D.cK D.pt
end
section
attribute [local simp] bD aN aS aG aU aO aZ tyC fdC vlC ndC aL D.cK D.pt
theorem aL3(v:Vl):v.row.map A.t=vlC v:=by
 cases v;rw[Vl.row,dL];rfl
attribute [local simp] c118 in
theorem aW5(v:Vl)(hv:v.fine):PSp prog 118 [.agg (vlC v)] (.one (.t (I v.cS))):=by
 have k145:=vY v hv;rw[aL3]at k145;refine k118.aI (by simp) (by simp[D.closed,A.closed]) rfl ?_;have e0:v.cS=if(v.sz 8 (120,false)).2 then 2 else v.fH:=by rw[Vl.cS,Vl.tL]
 rw[e0];simp -implicitDefEqProofs [-aA,-gval];refine aD.imp (ISp.ok fun ho=>k145 _ _ _ 8 (120,false) ho (by simp[rY,xZ])) ?_;obtain⟨⟨s1,s2⟩,hs⟩:∃ s,v.sz 8 (120,false)=s:=⟨_,rfl⟩;rw[hs];cases s2
 ·simp -implicitDefEqProofs [-aA,-gval,dQ,hs];refine aD.tree (aRC v hv) rfl ?_;simp -implicitDefEqProofs [-aA,-gval,aB]
 ·simp -implicitDefEqProofs [-aA,-gval,dQ,hs,aB]
attribute [local simp] c123 in
theorem aW6(l:List Sp)(c:Int)(hl:l.length≤1000000)(hc:0≤c∧c≤255)(h:Hp)(id:Nat)(e:h id=some (.arr 0 false 1 [[.t (spans l)]]))(n0:Nat):
  ISp prog 123 h n0 [.one (.t (.int .u8 c)),.one (.ptr ⟨id,0,1,0,0⟩)] (.one (.t (.bool (!inS l c)))) h:=by
 refine ISp.ok fun ho=>?_
 have h1:=fS ho e;have aHV:=aPE l c (by simp only[short];omega);refine k123.gI (by simp) ?_;obtain⟨o1,o2,o3,o4⟩:=aK e
 have hcv:D.cU .i64 (.one (.t (.int .u8 c)))= .one (.t (I c)):=by
  have:IntKind.i64.wrap c=c:=wrap_i64 (by omega) (by omega);simp[D.cU,this]
 simp -implicitDefEqProofs [-aA,-gval,o1,o2,o3,hcv];refine aD.tree aHV rfl ?_;simp -implicitDefEqProofs [-aA,-gval];exact dI (.inr rfl) (by exact rfl) (fun j hj=>by simp) ho
def gX(v:Vl):Int:=if v.kind==10||v.kind==11 then(v.items.length:Int)else(v.s.size:Int)
attribute [local simp] c121r0 c121r1 c121r2 c121r3 c121 in
theorem aW7(v:Vl):PSp prog 121 [.agg (vlC v)] (.one (.t (I (gX v)))):=by
 rw[gX];obtain⟨a,ea⟩:∃ a,(v.kind==10)=a:=⟨_,rfl⟩;obtain⟨b,eb⟩:∃ a,(v.kind==11)=a:=⟨_,rfl⟩;rw[ea,eb];refine k121.aI (by simp) (by simp[D.closed,A.closed]) rfl ?_;cases a<;>cases b<;>simp -implicitDefEqProofs [-aA,-gval,ea,eb,aB]
def gK(l:List Nd):Int×Bool:=if l.length==0 then(-1,false)else((cJ l:Nat),match l[l.length - 1]? with | some x=>x.k==7 | none=>false)
attribute [local simp] c74 in
theorem P74{l:List Nd}{bg:List Nat}(T:eC l bg)(hok:∀ x∈l,x.ok=true)(hl:l.length≤20):PSp prog 74 [.one (.t (aG l))] (.tup [.one (.t (I (gK l).1)),.one (.t (.bool (gK l).2))]):=by
 refine k74.aI (by simp) rfl rfl ?_
 by_cases z:l.length=0
 ·have zl:l=[]:=List.length_eq_zero_iff.1 z;subst zl;simp -implicitDefEqProofs [-aA,-gval,aB,gK]
 ·have zI:((l.length:Int)==0)=false:=by simpa using z
  obtain⟨m,hm⟩:∃ m:Nat,l.length - 1=m:=⟨_,rfl⟩;have hml:m<l.length:=by omega
  have hx:l[m]? =some (l[m]'hml):=gE9 _;generalize l[m]'hml=x at hx;have N:=T.node m x hx;have hmI:(m:Int)<(l.length:Int):=by omega
  have hw:IntKind.i64.wrap ((l.length:Int) - 1)=(m:Int):=by rw[wrap_i64 (by omega) (by omega)];omega
  obtain⟨r1,r2,r3,r4⟩:=eL (hok x (gM9 hx))
  have er:gK l=(((if x.k==7 then aJ x 0 else m:Nat):Int),x.k==7):=by
   have zN:(l.length==0)=false:=by simpa using z
   simp[gK,zN,cJ,hm,hx]
  rw[er];rcases eqCases x.k 7 with k7 | k7
  ·have pos:=(r4 (by omega) (by omega)).1;have a0:=fM N pos;have l0:(0:Int)<(x.args.length:Int):=by omega
   simp -implicitDefEqProofs [-aA,-gval,zI,hw,hml,hmI,aE hx,Nd.row,k7,pos,aE a0,aB,-List.getElem_map]
  ·simp -implicitDefEqProofs [-aA,-gval,zI,hw,hml,hmI,aE hx,Nd.row,k7,aB,-List.getElem_map]
end
section
attribute [local simp] bD aN aS aG aU aO aZ tyC fdC vlC ndC aL D.cK D.pt
def sO:List Int:=[0,1,2,3,4,5,6,7,8,9,11,12,13,14,16]
def uR(t:Ty)(v:Vl):Bool:=(v.kind==9&&t.kind==10)||(sO.getD v.kind.toNat 0==t.kind&&(t.kind != 6|| !(chars v.s).any fun c=> !inS (alpha t.name) c))
attribute [local simp] c119 in
theorem aW8(t:Ty)(v:Vl)(hvs:v.s.size≤1000000)(hk:0≤v.kind∧v.kind≤14):PSp prog 119 [.agg (tyC t),.agg (vlC v)] (.one (.t (.bool (uR t v)))):=by
 obtain⟨R0,hR0⟩:∃ R,uR t v=R:=⟨_,rfl⟩;rw[hR0];have aK3:=aSB t.name v.s (by omega);obtain⟨m,hm⟩:∃ m:Nat,v.kind=(m:Int):=⟨v.kind.toNat,by omega⟩;have aL4:m<15:=by omega
 have hmI:(m:Int)<15:=by omega
 obtain⟨y,hy⟩:∃ y,sO[m]? =some y:=⟨_,gE9 (by simpa[sO]using aL4)⟩
 have hyD:sO.getD v.kind.toNat 0=y:=by
  have:v.kind.toNat=m:=by omega
  rw[this,List.getD_eq_getElem?_getD,hy];rfl
 obtain⟨i,ei⟩:∃ i,(!(chars v.s).any fun c=> !inS (alpha t.name) c)=i:=⟨_,rfl⟩;rw[ei]at aK3;have e1:R0=((v.kind==9&&t.kind==10)||(y==t.kind&&(t.kind != 6||i))):=by rw[←hR0,uR,hyD,ei]
 have hrow:∀ hh,(sO.map fun a=>[I a])[m]'hh=[I y]:=fun hh=>aE hy hh
 obtain⟨a,ea⟩:∃ a,(v.kind==9)=a:=⟨_,rfl⟩;obtain⟨b,eb⟩:∃ a,(t.kind==10)=a:=⟨_,rfl⟩;obtain⟨c,ec⟩:∃ a,(y==t.kind)=a:=⟨_,rfl⟩;obtain⟨d,ed⟩:∃ a,(t.kind != 6)=a:=⟨_,rfl⟩;rw[ea,eb,ec,ed]at e1;rw[hm]at ea;clear hR0 ei hyD;refine k119.aI (by simp) (by simp[D.closed,A.closed]) rfl ?_;have hrow':∀ hh,([[I 0],[I 1],[I 2],[I 3],[I 4],[I 5],[I 6],[I 7],[I 8],[I 9],[I 11],[I 12],[I 13],[I 14],[I 16]]:List (List T))[m]'hh=[I y]:=hrow;have ed':(t.kind != 6)=d:=ed;have rest:(y==t.kind&&(t.kind != 6||i))=(c&&(d||i)):=by rw[ec,ed]
 have body:(a&&b)=false→R0=(c&&(d||i)):=fun h=>by rw[e1,h,Bool.false_or]
 cases a<;>cases b
 case true.true=>
  have:R0=true:=by rw[e1];rfl
  subst this;simp -implicitDefEqProofs [-aA,-gval,hm,ea,eb,aB]
 all_goals
  have e2:=body rfl;clear e1 body;cases c<;>cases d
  ·subst e2;simp -implicitDefEqProofs [-aA,-gval,hm,ea,eb,aL4,hmI,hrow',ec,ed,aB]
  ·subst e2;simp -implicitDefEqProofs [-aA,-gval,hm,ea,eb,aL4,hmI,hrow',ec,ed,aB]
  ·have:R0=i:=by rw[e2];simp
   subst this;simp -implicitDefEqProofs [-aA,-gval,hm,ea,eb,aL4,hmI,hrow',ec,ed];refine aD.aW aK3 rfl ?_;simp -implicitDefEqProofs [-aA,-gval,aB]
  ·subst e2;simp -implicitDefEqProofs [-aA,-gval,hm,ea,eb,aL4,hmI,hrow',ec,ed,aB]
end
section
attribute [local simp] bD aN aS aG aU aO aZ tyC fdC vlC ndC aL D.cK D.pt
def eB(t:Ty)(v:Vl):Int:=if bU [(dF t).2,v.cS] != 0 then bU [(dF t).2,v.cS] else if uR t v then 0 else 17
attribute [local simp] c71 in
theorem P71(t:Ty)(hn:t.narrow=true)(v:Vl)(hv:v.fine)(hvs:v.s.size≤1000000)(hk:v.cS=0→0≤v.kind∧v.kind≤14):PSp prog 71 [.agg (tyC t),.agg (vlC v)] (.one (.t (I (eB t v)))):=by
 have p80:=P80 t hn;have aW9:=aW5 v hv;have aWA:=fun h=>aW8 t v hvs (hk h)
 have eR:eB t v=if bU [(dF t).2,v.cS] != 0 then bU [(dF t).2,v.cS] else if uR t v then 0 else 17:=rfl
 rw[eR];generalize (dF t).2=e at*;generalize v.cS=f at*;generalize uR t v=b at*;have p79:=P79 [e,f] (by simp[short])
 have hz:bU [e,f]=0→f=0:=fun h=>by
  simp only[bW,cZ]at h
  by_cases q:e=0
  ·by_cases q2:f=0
   ·exact q2
   ·simp[q,q2]at h
  ·simp[q]at h
 generalize bU [e,f]=E at*;refine k71.aI (by simp) (by simp[D.closed,A.closed]) rfl ?_;simp -implicitDefEqProofs [-aA,-gval];refine aD.aW p80 rfl ?_;simp -implicitDefEqProofs [-aA,-gval];refine aD.aW aW9 rfl ?_;simp -implicitDefEqProofs [-aA,-gval];refine aD.draw p79 (by simp) (by simp) (.inl rfl) ?_;rcases eqCases E 0 with z | z
 ·simp -implicitDefEqProofs [-aA,-gval,z];refine aD.tree (aWA (hz z)) rfl ?_;simp -implicitDefEqProofs [-aA,-gval];refine aD.tree (P81 b 17) rfl ?_;simp -implicitDefEqProofs [-aA,-gval,aB]
 ·simp -implicitDefEqProofs [-aA,-gval,z,aB]
end
theorem aIC{v:Vl}(h:v.cS=0):(0≤v.kind∧v.kind≤14)∧v.cA=false∧v.large=false:=by
 have h1:v.fH=0:=by
  rw[Vl.cS,Vl.tL]at h;split at h
  ·cases h
  ·exact h
 have h2:v.fY=0:=by
  rw[Vl.qV]at h1;split at h1
  ·rename_i e;rw[h1]at e;simp at e
  ·rename_i e;simpa using e
 rw[Vl.fY]at h2;split at h2
 ·rename_i e;simp only[Bool.and_eq_true,decide_eq_true_eq]at e;rw[Vl.aF7]at h2;split at h2
  ·cases h2
  ·rename_i e2;rw[Vl.aHK]at h2;split at h2
   ·rw[Vl.aF6]at h2;split at h2
    ·cases h2
    ·rename_i e3;exact⟨e,by simpa using e2,by simpa using e3⟩
   ·cases h2
 ·cases h2
section
attribute [local simp] bD aN aS aG aU aO aZ tyC fdC vlC ndC aL D.cK D.pt
theorem aWB(l:List Int)(hl:short l)(p:Int→Bool)(clo:FuncId)(caps:List Pt)(h:Hp)(n0:Nat)(hc:callable prog clo=true)
  (hp:∀ x∈l,∀new K,n0≤new→K (.one (.t (.bool (p x)))) h→aD prog false clo (.one (.t (I x))::caps.map fun q=> .one (.ptr q)) h new K):
  ISp prog 124 h n0 [.one (.t (aZ l)),.one (.fn clo caps)] (.one (.t (.bool (l.any p)))) h:=
 gQ (sz:=1) (g:=false) k124 k157 l (fun a=>[I a]) (fun _x=>rfl) (fun _=>rfl) hl p clo caps h n0 hc hp
attribute [local simp] c125 in
theorem aWC(l:List Nd)(v:Vl)(a:Int)(r:Bool)(hc:PSp prog 72 [.one (.t (aG l)),.one (.t (I a)),.agg (vlC v)] (.one (.t (.bool r))))(h:Hp)(i1 i2:Nat)(e1:h i1=some (.arr 0 false 1 [[.t (aG l)]]))(e2:h i2=some (.arr 0 false 6 [vlC v]))(n0:Nat):
  ISp prog 125 h n0 [.one (.t (I a)),.one (.ptr ⟨i1,0,1,0,0⟩),.one (.ptr ⟨i2,0,6,0,0⟩)] (.one (.t (.bool r))) h:=by
 refine ISp.ok fun ho=>?_
 have h1:=fS ho e1;have h2:=fS ho e2;refine k125.gI (by simp) ?_;obtain⟨o1,o2,o3,o4⟩:=aK e1;obtain⟨p1,p2,p3,p4⟩:=aK e2;simp -implicitDefEqProofs [-aA,-gval,o1,o2,o3,p1,p2,p3];refine aD.tree hc rfl ?_;simp -implicitDefEqProofs [-aA,-gval];exact dI (.inr rfl) (by exact rfl) (fun j hj=>by simp) ho
attribute [local simp] c72 in
theorem P72{l:List Nd}{bg:List Nat}(T:eC l bg)(hok:∀ x∈l,x.ok=true)(v:Vl)(hvs:v.s.size≤1000000)(P Q:Nat→Prop)
  (hf:∀ p x,l[p]? =some x→Q p→∀c:Nat,(c:Int)∈x.args→if x.k=2∨x.k=3 then P c else Q c)
  (c90:∀ n i,i<n→i<l.length→P i→(spL l n i).length≤1000∧PSp prog 90 [.one (.t (aG l)),.one (.t (I ((i:Nat):Int)))] (.one (.t (spans (spL l n i))))):
  ∀n i,i<n→i<l.length→Q i→PSp prog 72 [.one (.t (aG l)),.one (.t (I ((i:Nat):Int))),.agg (vlC v)] (.one (.t (.bool (hoL l v.n v.s (gX v) n i)))):=by
 intro n
 induction n with
 | zero=>intro i hi;omega
 | succ n ih=>
  intro i hin hil hQ;have hx:l[i]? =some (l[i]'hil):=gE9 _;generalize l[i]'hil=x at hx;have N:=T.node i x hx;have hiI:(i:Int)<(l.length:Int):=by omega
  obtain⟨r1,r2,r3,r4⟩:=eL (hok x (gM9 hx))
  have all:¬ (x.k=2∨x.k=3)→∀a∈x.args,PSp prog 72 [.one (.t (aG l)),.one (.t (I a)),.agg (vlC v)] (.one (.t (.bool (hoL l v.n v.s (gX v) n a.toNat)))):=fun h23 a ha=>by
   obtain⟨c,c1,c2,c3⟩:=N.arg a ha;have hq:=hf i x hx hQ c (by rw[←c1];exact ha);rw[if_neg h23]at hq;have:=ih c (by omega) (by omega) hq;rw[c1,Int.toNat_natCast];exact this
  have sub:¬ (x.k=2∨x.k=3)→∀k,k<x.args.length→PSp prog 72 [.one (.t (aG l)),.one (.t (I ((aJ x k:Nat):Int))),.agg (vlC v)] (.one (.t (.bool (hoL l v.n v.s (gX v) n (aJ x k))))):=fun h23 k hk=>by
   obtain⟨m1,m2,m3⟩:=dG N hk;have:=all h23 _ m1;rw[Int.toNat_natCast]at this;exact this
  obtain⟨R0,hR0⟩:∃ R,hoL l v.n v.s (gX v) (n+1) i=R:=⟨_,rfl⟩;rw[hR0];refine k72.aI (by simp) (by simp[D.closed,A.closed]) rfl ?_;rcases eqCases x.k 0 with k0 | k0
  ·have e1:R0=(decide (x.lo≤v.n)&&decide (v.n≤x.hi)):=by rw[←hR0];simp[hoL,hx,k0]
   rw[e1];simp -implicitDefEqProofs [-aA,-gval,hil,hiI,aE hx,Nd.row,k0,-List.getElem_map];refine aD.tree (P85 v.n x.lo x.hi) rfl ?_;simp -implicitDefEqProofs [-aA,-gval,aB]
  ·rcases eqCases x.k 1 with k1 | k1
   ·obtain⟨b,eb⟩:∃ b,(v.s.toList==x.s.toList)=b:=⟨_,rfl⟩;have e1:R0=b:=by rw[←hR0,←eb];simp[hoL,hx,k1,bN]
    subst e1;simp -implicitDefEqProofs [-aA,-gval,hil,hiI,aE hx,Nd.row,k1,eb,aB,-List.getElem_map]
   ·obtain⟨pos,aH7⟩:=r4 k0.2.1 k1.2.1;have a0:=fM N pos;have l0:(0:Int)<(x.args.length:Int):=by omega
    obtain⟨m1,m2,m3⟩:=dG N pos;rcases eqCases x.k 2 with k2 | k2
    ·have hP:=hf i x hx hQ _ m1;rw[if_pos (.inl k2)]at hP;obtain⟨hl,c⟩:=c90 n _ (by omega) (by omega) hP;have e1:R0=inS (spL l n (aJ x 0)) (gX v):=by rw[←hR0];simp[hoL,hx,k2]
     have aWD:=aW7 v;have aHV:=aPE (spL l n (aJ x 0)) (gX v) (by simp only[short];omega);rw[←e1]at aHV;generalize spL l n (aJ x 0)=S at*;generalize gX v=z at*;simp -implicitDefEqProofs [-aA,-gval,hil,hiI,aE hx,Nd.row,k2,pos,aE a0,-List.getElem_map];refine aD.aW c rfl ?_;simp -implicitDefEqProofs [-aA,-gval];refine aD.aW aWD rfl ?_;simp -implicitDefEqProofs [-aA,-gval];refine aD.aW aHV rfl ?_;simp -implicitDefEqProofs [-aA,-gval,aB]
    ·rcases eqCases x.k 3 with k3 | k3
     ·have hP:=hf i x hx hQ _ m1;rw[if_pos (.inr k3)]at hP;obtain⟨hl,c⟩:=c90 n _ (by omega) (by omega) hP;have e1:R0= !(chars v.s).any (fun c=> !inS (spL l n (aJ x 0)) c):=by rw[←hR0];simp only[hoL,hx];simp[k3]
      generalize spL l n (aJ x 0)=S at*;subst e1;simp -implicitDefEqProofs [-aA,-gval,hil,hiI,aE hx,Nd.row,k3,pos,aE a0,-List.getElem_map];refine aD.aW c rfl ?_;simp -implicitDefEqProofs [-aA,-gval];refine aD.imp (aOT v.s (by omega) (fun c=> !inS S c) 123 [⟨25,0,1,0,0⟩] _ _ (by kernel_rfl) fun c hc new K hn hK=>aD.imp (aW6 S c (by omega) (by have:=jG hc;omega) _ 25 (by simp[Hp.set]) new) hK) ?_;simp -implicitDefEqProofs [-aA,-gval,aB]
     ·have sub:=sub (by omega);have all:=all (by omega);have c0:=sub 0 pos;obtain⟨A,hA⟩:∃ A,hoL l v.n v.s (gX v) n (aJ x 0)=A:=⟨_,rfl⟩;rcases eqCases x.k 5 with k5 | k5
      ·rw[hA]at c0;have one':1<x.args.length:=by have:=r3 (by omega);omega
       have a1:=fM N one';have l1:(1:Int)<(x.args.length:Int):=by omega
       have c1:=sub 1 one';have e1:R0=(A&&hoL l v.n v.s (gX v) n (aJ x 1)):=by rw[←hR0];simp[hoL,hx,k5,hA]
       generalize hoL l v.n v.s (gX v) n (aJ x 1)=B at*;subst e1;simp -implicitDefEqProofs [-aA,-gval,hil,hiI,aE hx,Nd.row,k5,pos,aE a0,-List.getElem_map];refine aD.aW c0 rfl ?_;cases A
       ·simp -implicitDefEqProofs [-aA,-gval,aB]
       ·simp -implicitDefEqProofs [-aA,-gval,one',l1,aE a1,-List.getElem_map];refine aD.aW c1 rfl ?_;simp -implicitDefEqProofs [-aA,-gval,aB]
      ·rcases eqCases x.k 6 with k6 | k6
       ·rw[hA]at c0;have one':1<x.args.length:=by have:=r3 (by omega);omega
        have a1:=fM N one';have l1:(1:Int)<(x.args.length:Int):=by omega
        have c1:=sub 1 one';have e1:R0=(A&& !hoL l v.n v.s (gX v) n (aJ x 1)):=by rw[←hR0];simp[hoL,hx,k6,hA]
        generalize hoL l v.n v.s (gX v) n (aJ x 1)=B at*;subst e1;simp -implicitDefEqProofs [-aA,-gval,hil,hiI,aE hx,Nd.row,k6,pos,aE a0,-List.getElem_map];refine aD.aW c0 rfl ?_;cases A
        ·simp -implicitDefEqProofs [-aA,-gval,aB]
        ·simp -implicitDefEqProofs [-aA,-gval,one',l1,aE a1,-List.getElem_map];refine aD.aW c1 rfl ?_;simp -implicitDefEqProofs [-aA,-gval,aB]
       ·have e1:R0=x.args.any fun a=>hoL l v.n v.s (gX v) n a.toNat:=by rw[←hR0];simp[hoL,hx,k0,k1,k2,k3,k5,k6]
        subst e1;simp -implicitDefEqProofs [-aA,-gval,hil,hiI,aE hx,Nd.row,k0,k1,k2,k3,k5,k6,-List.getElem_map];refine aD.imp (aWB x.args (by simp only[short];omega) (fun a=>hoL l v.n v.s (gX v) n a.toNat) 125 [⟨0,0,1,0,0⟩,⟨1,0,6,0,0⟩] _ _ (by kernel_rfl) fun a ha new K hn hK=>aD.imp (aWC l v a _ (all a ha) _ 0 1 (by simp[Hp.set]) (by simp[Hp.set]) new) hK) ?_;simp -implicitDefEqProofs [-aA,-gval,aB]
end
section
attribute [local simp] bD aN aS aG aU aO aZ tyC fdC vlC ndC aL D.cK D.pt
def aNM(t:Ty)(v:Vl):Bool:=t.limits.length==0||hoL t.limits v.n v.s (gX v) t.limits.length (t.limits.length - 1)
def aNN(t:Ty)(v:Vl):Bool:=t.limits.length==0||hoL t.limits v.n v.s (gX v) t.limits.length (cJ t.limits)
attribute [local simp] c22 in
theorem P22(t:Ty)(v:Vl)(c71:PSp prog 71 [.agg (tyC t),.agg (vlC v)] (.one (.t (I (eB t v)))))
  (c72:eB t v=0→t.limits.length≠0→t.limits.length≤20∧PSp prog 72 [.one (.t (aG t.limits)),.one (.t (I ((t.limits.length - 1:Nat):Int))),.agg (vlC v)] (.one (.t (.bool (hoL t.limits v.n v.s (gX v) t.limits.length (t.limits.length - 1)))))):
  PSp prog 22 [.agg (tyC t),.agg (vlC v)] (.tup [.one (.t (.bool (eB t v==0&&aNM t v))),.one (.t (I (eB t v)))]):=by
 rw[aNM];generalize eB t v=e at*;refine k22.aI (by simp) (by simp[D.closed,A.closed]) rfl ?_;simp -implicitDefEqProofs [-aA,-gval];refine aD.tree c71 rfl ?_;rcases eqCases e 0 with z | z
 ·by_cases q:t.limits.length=0
  ·have ql:t.limits=[]:=List.length_eq_zero_iff.1 q;simp -implicitDefEqProofs [-aA,-gval,z,ql,aB]
  ·obtain⟨hl,c⟩:=c72 z q;have qI:((t.limits.length:Int)==0)=false:=by simpa using q
   have qN:(t.limits.length==0)=false:=by simpa using q
   have hw:IntKind.i64.wrap ((t.limits.length:Int) - 1)=((t.limits.length - 1:Nat):Int):=by rw[wrap_i64 (by omega) (by omega)];omega
   rw[qN];generalize hoL t.limits v.n v.s (gX v) t.limits.length (t.limits.length - 1)=R at*;simp -implicitDefEqProofs [-aA,-gval,z,qI,hw];refine aD.tree c rfl ?_;simp -implicitDefEqProofs [-aA,-gval,aB]
 ·simp -implicitDefEqProofs [-aA,-gval,z,aB]
attribute [local simp] c24 in
theorem P24(t:Ty)(v:Vl)(c71:PSp prog 71 [.agg (tyC t),.agg (vlC v)] (.one (.t (I (eB t v)))))
  (c72:eB t v=0→(∃bg,eC t.limits bg)∧(∀x∈t.limits,x.ok=true)∧t.limits.length≤20∧(t.limits.length≠0→PSp prog 72 [.one (.t (aG t.limits)),.one (.t (I ((cJ t.limits:Nat):Int))),.agg (vlC v)] (.one (.t (.bool (hoL t.limits v.n v.s (gX v) t.limits.length (cJ t.limits))))))):
  PSp prog 24 [.agg (tyC t),.agg (vlC v)] (.tup [.one (.t (.bool (eB t v==0&&aNN t v))),.one (.t (I (eB t v)))]):=by
 rw[aNN];generalize eB t v=e at*;refine k24.aI (by simp) (by simp[D.closed,A.closed]) rfl ?_;simp -implicitDefEqProofs [-aA,-gval];refine aD.tree c71 rfl ?_;rcases eqCases e 0 with z | z
 ·obtain⟨⟨bg,T⟩,hok,hl,c⟩:=c72 z;have c74:=P74 T hok hl
  by_cases q:t.limits.length=0
  ·have ql:t.limits=[]:=List.length_eq_zero_iff.1 q;have e1:(gK t.limits).1= -1:=by simp[gK,ql]
   rw[e1]at c74;simp -implicitDefEqProofs [-aA,-gval,z];refine aD.tree c74 rfl ?_;simp -implicitDefEqProofs [-aA,-gval,ql,aB]
  ·have c:=c q;have qN:(t.limits.length==0)=false:=by simpa using q
   have e1:(gK t.limits).1=((cJ t.limits:Nat):Int):=by simp[gK,qN]
   have nn:¬ ((cJ t.limits:Nat):Int)<0:=by omega
   have nn2:(0:Int)≤((cJ t.limits:Nat):Int):=by omega
   rw[e1]at c74;rw[qN];generalize hoL t.limits v.n v.s (gX v) t.limits.length (cJ t.limits)=R at*;generalize cJ t.limits=r at*;simp -implicitDefEqProofs [-aA,-gval,z];refine aD.tree c74 rfl ?_;simp -implicitDefEqProofs [-aA,-gval,nn];refine aD.tree c rfl ?_;simp -implicitDefEqProofs [-aA,-gval,aB]
 ·simp -implicitDefEqProofs [-aA,-gval,z,aB]
end
theorem aAR{t:Ty}{x:Nd}{r:Bool}{a:Int}(h:mR t x r a=0)(k1:x.k=1):bT t x.s a=true∧x.s.size≤200:=by
 obtain⟨s1,_⟩:=iS h;simp only[mR,s1]at h;cases hf:bT t x.s a
 ·simp[bW,cZ,k1,hf]at h
 ·by_cases q:x.s.size≤200
  ·exact⟨rfl,q⟩
  ·simp[bW,cZ,k1,hf,q]at h
theorem aFZ{x:Nd}{k a:Int}(h:kC x (gW k a)=true)(ha:a=3∨a=4):0≤x.lo∧x.lo≤x.hi∧x.hi≤200:=by
 simp only[kC,Bool.and_eq_true,decide_eq_true_eq]at h;obtain⟨⟨h1,h2⟩,h3⟩:=h;rcases ha with rfl | rfl
 ·have e:gW k 3=(0,bX k):=rfl;rw[e]at h2 h3;have m:bX k≤200:=by unfold bX;split<;>omega
  exact⟨h2,h1,by omega⟩
 ·have e:gW k 4=(0,127):=rfl;rw[e]at h2 h3;exact⟨h2,h1,by omega⟩
structure aL5 (l:List Nd) (bg:List Nat) (P Q:Nat→Prop):Prop where
 tree:eC l bg
 few:l.length≤20
 ok:∀ x∈l,x.ok=true
 node:∀ p x,l[p]? =some x→P p→x.k≠2∧x.k≠3∧(x.k=0→0≤x.lo∧x.lo≤x.hi∧x.hi≤200)∧(x.k=1→x.s.size≤200∧∀c∈chars x.s,c≤127)
 edge:∀ p x,l[p]? =some x→P p→∀c:Nat,(c:Int)∈x.args→P c
 from_:∀ p x,l[p]? =some x→Q p→∀c:Nat,(c:Int)∈x.args→if x.k=2∨x.k=3 then P c else Q c
 last:Q (l.length - 1)
theorem aAS{t:Ty}(h:(dF t).2=0)(hl:t.limits.length≠0):t.kind=2∨t.kind=4∨t.kind=5∨t.kind=6∨t.kind=11∨t.kind=12:=by
 obtain⟨_,h2⟩:=lI h;simp only[yC]at h2;have e:(t.limits.length==0)=false:=by simpa using hl
 rw[e]at h2;simp only[Bool.false_eq_true,if_false]at h2
 by_cases q:(eJ t.kind==0&&t.kind != 2)=true
 ·rw[if_pos q]at h2;cases h2
 ·simp only[eJ]at q
  by_cases a2:t.kind=2
  ·exact .inl a2
  ·by_cases a4:t.kind=4
   ·exact .inr (.inl a4)
   ·by_cases a5:t.kind=5
    ·exact .inr (.inr (.inl a5))
    ·by_cases a6:t.kind=6
     ·exact .inr (.inr (.inr (.inl a6)))
     ·by_cases a11:t.kind=11
      ·exact .inr (.inr (.inr (.inr (.inl a11))))
      ·by_cases a12:t.kind=12
       ·exact .inr (.inr (.inr (.inr (.inr a12))))
       ·simp[a2,a4,a5,a6,a11,a12]at q
theorem aAT{t:Ty}(h:(dF t).2=0)(hl:t.limits.length≠0):∃ bg,∃P Q:Nat→Prop,aL5 t.limits bg P Q:=by
 obtain⟨ht,L,h1,h2,h3⟩:=pE h hl;obtain⟨hlen,bg,T⟩:=bL ht
 have hn:∀ p x,t.limits[p]? =some x→(L p=3∨L p=4)→x.k≠2∧x.k≠3∧(x.k=0→0≤x.lo∧x.lo≤x.hi∧x.hi≤200)∧(x.k=1→x.s.size≤200∧∀c∈chars x.s,c≤127):=fun p x hx ha=>by
  obtain⟨r,hr⟩:=h3 p x hx;obtain⟨s1,s2⟩:=iS hr;refine⟨fun e=>?_,fun e=>?_,fun e=>aFZ (s2 e) ha,fun e=>?_⟩
  ·rw[e]at s1;rcases ha with q | q<;>rw[q]at s1<;>simp[cM]at s1
  ·rw[e]at s1;rcases ha with q | q<;>rw[q]at s1<;>simp[cM]at s1
  ·obtain⟨t1,t2⟩:=aAR hr e;refine⟨t2,fun c hc=>?_⟩
   have a4:L p=4:=by
    rcases ha with q | q
    ·rw[e,q]at s1;simp[cM]at s1
    ·exact q
   rw[a4]at t1;have t3:(!bN x.s (bs [])&& !(chars x.s).any (fun c=>decide (127<c)))=true:=by simpa[bT]using t1
   rw[Bool.and_eq_true,Bool.not_eq_true',Bool.not_eq_true',List.any_eq_false]at t3;have:=t3.2 c hc;simpa using this
 refine⟨bg,fun p=>L p=3∨L p=4,fun p=>L p≠3∧L p≠4,T,hlen,iR ht,hn,fun p x hx ha c hc=>?_,fun p x hx ha c hc=>?_,?_⟩
 ·have hp:=(gS9.1 hx).1;obtain⟨k2,k3,_⟩:=hn p x hx ha;show L c=3∨L c=4;rw[h2.edge p x (Nat.zero_le _) (by omega) hx c hc];simpa[fO,k2,k3]using ha
 ·have hp:=(gS9.1 hx).1;have e:=h2.edge p x (Nat.zero_le _) (by omega) hx c hc
  by_cases k2:x.k=2
  ·rw[if_pos (.inl k2)];left;rw[e];simp[fO,k2]
  ·by_cases k3:x.k=3
   ·rw[if_pos (.inr k3)];right;rw[e];simp[fO,k3]
   ·rw[if_neg (by simp[k2,k3])];show L c≠3∧L c≠4;rw[e];simpa[fO,k2,k3]using ha
 ·show L (t.limits.length - 1)≠3∧L (t.limits.length - 1)≠4;rw[h1];rcases aAS h hl with q | q | q | q | q | q<;>rw[q]<;>decide
theorem aGO{l:List Nd}{bg:List Nat}(T:eC l bg)(hok:∀ x∈l,x.ok=true)(P:Nat→Prop)(B:Int)
  (hn:∀ p x,l[p]? =some x→P p→(x.k=0→0≤x.lo∧x.hi≤B)∧(x.k=1→∀c∈chars x.s,c≤B)) (he:∀ p x,l[p]? =some x→P p→∀c:Nat,(c:Int)∈x.args→P c):
  ∀n i m,i<l.length→P i→cN l n i m=true→0≤m∧m≤B:=by
 intro n
 induction n with
 | zero=>intro i m _ _ h;cases h
 | succ n ih=>
  intro i m hil hP h;have hx:l[i]? =some (l[i]'hil):=gE9 _;generalize l[i]'hil=x at hx;have N:=T.node i x hx;obtain⟨k0,k1⟩:=hn i x hx hP;obtain⟨r1,r2,r3,r4⟩:=eL (hok x (gM9 hx))
  have sub:∀ k,k<x.args.length→cN l n (aJ x k) m=true→0≤m∧m≤B:=fun k hk=>by
   obtain⟨m1,m2,m3⟩:=dG N hk;exact ih _ m (by omega) (he i x hx hP _ m1)
  by_cases q0:x.k=0
  ·have:=k0 q0;simp[cN,hx,q0]at h;omega
  ·by_cases q1:x.k=1
   ·have k1:=k1 q1;have e2:cN l (n+1) i m=(chars x.s).any (fun c=>c==m):=by simp[cN,hx,q1]
    rw[e2,List.any_eq_true]at h;obtain⟨c,hc,e⟩:=h;have e:c=m:=by simpa using e
    have a:=k1 c hc;have b:=aDM hc;omega
   ·have pos:=(r4 q0 q1).1
    by_cases q5:x.k=5
    ·have e2:cN l (n+1) i m=(cN l n (aJ x 0) m&&cN l n (aJ x 1) m):=by simp[cN,hx,q5]
     rw[e2,Bool.and_eq_true]at h;exact sub 0 pos h.1
    ·by_cases q6:x.k=6
     ·have e2:cN l (n+1) i m=(cN l n (aJ x 0) m&& !cN l n (aJ x 1) m):=by simp[cN,hx,q6]
      rw[e2,Bool.and_eq_true]at h;exact sub 0 pos h.1
     ·have e2:cN l (n+1) i m=(cN l n (aJ x 0) m||(decide (1<x.args.length)&&cN l n (aJ x 1) m)):=by simp[cN,hx,q0,q1,q5,q6]
      rw[e2,Bool.or_eq_true,Bool.and_eq_true,decide_eq_true_eq]at h;rcases h with h | ⟨h1,h⟩
      ·exact sub 0 pos h
      ·exact sub 1 h1 h
theorem aAU{l:List Nd}{bg:List Nat}{P Q:Nat→Prop}(H:aL5 l bg P Q)(n i:Nat)(m:Int)(h1:i<l.length)(h2:P i)(h3:cN l n i m=true):0≤m∧m≤200:=
 aGO H.tree H.ok P 200 (fun p x hx hp=>by
  obtain⟨_,_,a,b⟩:=H.node p x hx hp
  exact⟨fun q=>⟨(a q).1,(a q).2.2⟩,fun q c hc=>by have:=(b q).2 c hc;omega⟩) H.edge n i m h1 h2 h3
theorem aE5{l:List Nd}{bg:List Nat}{P Q:Nat→Prop}(H:aL5 l bg P Q):∀ n i,i<n→i<l.length→P i→Gap (spL l n i)∧(∀y∈spL l n i,bad y=false)∧(spL l n i).length≤101:=by
 intro n i hin hil hP
 obtain⟨g,e⟩:=aGM H.tree H.ok P (fun p x hx hp=>by
  obtain⟨a,b,c,_⟩:=H.node p x hx hp
  exact⟨a,b,fun q=>(c q).2.1⟩) H.edge n i hin hil hP
 have key:∀ y∈spL l n i,0≤y.1∧y.2≤200:=fun y hy=>by
  have hv:=g.valid y hy;have in1:inS (spL l n i) y.1=true:=fD.2 ⟨y,hy,by omega,hv⟩;have in2:inS (spL l n i) y.2=true:=fD.2 ⟨y,hy,hv,by omega⟩;rw[e]at in1 in2;exact⟨(aAU H n i _ hil hP in1).1,(aAU H n i _ hil hP in2).2⟩
 refine⟨g,fun y hy=>(kM y).2 ⟨g.valid y hy,by have:=key y hy;omega,by have:=key y hy;omega⟩,?_⟩;have:=aC0 _ 0 200 g key (by omega);omega
theorem val_zero{t:Ty}{v:Vl}(h:eB t v=0):(dF t).2=0∧v.cS=0∧uR t v=true:=by
 rw[eB]at h
 by_cases q:bU [(dF t).2,v.cS]=0
 ·simp only[q,bne_self_eq_false,Bool.false_eq_true,if_false]at h;simp only[bW,cZ]at q
  by_cases a:(dF t).2=0
  ·by_cases b:v.cS=0
   ·refine⟨a,b,?_⟩;cases hf:uR t v
    ·simp[hf]at h
    ·rfl
   ·simp[a,b]at q
  ·simp[a]at q
 ·have:(bU [(dF t).2,v.cS] != 0)=true:=by simpa using q
  rw[if_pos this]at h;exact absurd h q
theorem aNO{l:List Nd}{bg:List Nat}{P Q:Nat→Prop}(H:aL5 l bg P Q)(hl:l.length≠0):Q (cJ l):=by
 have hx:l[l.length - 1]? =some (l[l.length - 1]'(by omega)):=gE9 _;generalize l[l.length - 1]'(by omega)=x at hx;rw[cJ,hx]
 by_cases q:x.k=7
 ·simp only[q,beq_self_eq_true,if_true];obtain⟨_,_,_,r4⟩:=eL (H.ok x (gM9 hx));obtain⟨m1,_,_⟩:=dG (H.tree.node _ x hx) (k:=0) (r4 (by omega) (by omega)).1;have:=H.from_ _ x hx H.last _ m1;rwa [if_neg (by omega)]at this
 ·have:(x.k==7)=false:=by simpa using q
  simp only[this,Bool.false_eq_true,if_false];exact H.last
end Go.Proofs.YtdpbobkcbakpfaaGreatDoor
