/- Texts of this proof. -/
import Derived.Test.YtdpbobkcbakpfaaGreatDoorProg
import Derived.Test.YtdpbobkcbakpfaaGreatDoorMrzH
namespace Go.Proofs.YtdpbobkcbakpfaaGreatDoor
open Go Go.Ab
open Go.Proofs.Tryz
set_option maxRecDepth 100000
set_option maxHeartbeats 4000000
theorem aBZ(acc:List Sp)(s:Sp):(dD acc s).length≤acc.length+1:=by
 unfold dD;split
 ·split
  ·first | (simp;done) | (simp;omega)
  ·simp
 ·simp
theorem aFV(l:List Sp):(mC l).length≤l.length:=by
 have:∀ (l acc:List Sp),(l.foldl dD acc).length≤acc.length+l.length:=by
  intro l
  induction l with
  | nil=>intro acc;simp
  | cons x r ih=>
   intro acc;have h1:=ih (dD acc x);have h2:=aBZ acc x;rw[List.foldl_cons,List.length_cons];omega
 have:=this l [];simpa[mC]using this
theorem pG(l:List Sp):(bK l).length≤l.length:=by
 have:=aFV (sO l);rw[aAM]at this;exact this
theorem aAN:∀ (r:List Nd) (bg out:List Nat),fL r bg=some out→∀x∈r,x.ok=true
 | [],_,_,_,x,hx=>by cases hx
 | y::r,bg,out,h,x,hx=>by
  rw[fL]at h;split at h
  ·rename_i hy;split at h
   ·cases h
   ·rcases List.mem_cons.1 hx with e | e
    ·rw[e];exact hy
    ·exact aAN r _ out h x e
  ·cases h
theorem jH{l:List Nd}(h:bS l=true):∀ x∈l,x.ok=true:=by
 simp only[bS,Bool.and_eq_true,decide_eq_true_eq]at h;obtain⟨_,h⟩:=h;split at h
 ·cases h
 ·rename_i bg hbg;exact aAN l [] bg hbg
theorem aDX(x y:Sp):(meet x y).length≤1:=by
 unfold meet;split<;>simp
theorem aAO{x y:Sp}(h:y.2<x.1∨x.2<y.1):meet x y=[]:=by
 unfold meet;rw[if_neg];omega
theorem tR{α:Type}{f:α→List Sp}:∀ {l:List α},(∀y∈l,f y=[])→l.flatMap f=[]
 | [],_=>rfl
 | y::r,h=>by rw[List.flatMap_cons,h y (by simp),tR fun z hz=>h z (by simp[hz])];rfl
theorem aAP(c:Int):∀ b:List Sp,Gap b→∃b1 b2,b=b1++b2∧(∀y∈b1,y.2≤c)∧(∀y∈b2,c<y.2)∧Gap b2
 | [],_=>⟨[],[],rfl,by simp,by simp,trivial⟩
 | y::r,h=>by
  by_cases hy:y.2≤c
  ·obtain⟨b1,b2,e,h1,h2,h3⟩:=aAP c r h.tail
   exact⟨y::b1,b2,by rw[e];rfl,fun z hz=>by
    rcases List.mem_cons.1 hz with q | q
    ·rw[q];exact hy
    ·exact h1 z q,h2,h3⟩
  ·refine⟨[],y::r,rfl,by simp,fun z hz=>?_,h⟩;rcases List.mem_cons.1 hz with q | q
   ·rw[q];omega
   ·have h1:=h.2.1 z q;have h2:=h.valid z hz;omega
theorem aDY{f:Sp→List Sp}(hf:∀ y,(f y).length≤1):∀ l:List Sp,(l.flatMap f).length≤l.length
 | []=>by simp
 | y::r=>by
  have:=hf y;have:=aDY hf r;rw[List.flatMap_cons,List.length_append,List.length_cons];omega
theorem mV:∀ (a b:List Sp),Gap a→Gap b→(cI a b).length≤a.length+b.length
 | [],b,_,_=>by simp[cI]
 | x::a,b,ha,hb=>by
  obtain⟨b1,b2,e,h1,h2,h3⟩:=aAP x.2 b hb;have ih:=mV a b2 ha.tail h3;have e1:cI (x::a) b=b.flatMap (meet x)++cI a b:=by simp[cI]
  have e2:cI a b=cI a b2:=by
   have:∀ a':List Sp,(∀z∈a',z∈a)→cI a' b=cI a' b2:=by
    intro a'
    induction a' with
    | nil=>intro _;rfl
    | cons z r ih=>
     intro hz;have hza:=hz z (by simp)
     have q:b.flatMap (meet z)=b2.flatMap (meet z):=by
      rw[e,List.flatMap_append,tR (l:=b1),List.nil_append];intro y hy;have k1:=h1 y hy;have k2:=ha.2.1 z hza;exact aAO (by omega)
     have ih':=ih fun w hw=>hz w (by simp[hw])
     simp only[cI,List.flatMap_cons]at ih' ⊢;rw[ih'];congr 1
   exact this a fun z hz=>hz
  have e3:(b.flatMap (meet x)).length≤b1.length+1:=by
   rw[e,List.flatMap_append,List.length_append];have k1:=aDY (aDX x) b1
   have k2:(b2.flatMap (meet x)).length≤1:=by
    cases b2 with
    | nil=>simp
    | cons y r=>
     rw[List.flatMap_cons,tR (l:=r),List.append_nil]
     ·exact aDX x y
     ·intro z hz;have k3:=h3.2.1 z hz;have k4:=h2 y (by simp);exact aAO (by omega)
   omega
  have e4:b.length=b1.length+b2.length:=by rw[e];simp
  rw[e1,List.length_append,e2,List.length_cons];omega
theorem aFW{x y z:Sp}(h:z∈meet x y):z.1≤z.2:=by
 unfold meet at h;split at h
 ·rename_i hc;have:=List.mem_singleton.1 h;subst this;exact hc
 ·cases h
theorem uU{a b:List Sp}:∀ z∈cI a b,z.1≤z.2:=by
 intro z hz;simp only[cI,List.mem_flatMap]at hz;obtain⟨x,_,y,_,h⟩:=hz;exact aFW h
theorem kP(x:Sp):bad x=false↔x.1≤x.2∧ -1152921504606846976≤x.1∧x.2≤1152921504606846976:=by
 simp[bad,and_assoc]
theorem aKW{a b c:List Sp}(hc:Gap c)(h:∀ n,inS c n=true→inS a n=true∨inS b n=true)(ha:∀ x∈a,bad x=false)(hb:∀ x∈b,bad x=false):∀ x∈c,bad x=false:=by
 intro x hx;have hv:=hc.valid x hx;have in1:inS c x.1=true:=eA.2 ⟨x,hx,by omega,hv⟩;have in2:inS c x.2=true:=eA.2 ⟨x,hx,hv,by omega⟩
 have bnd:∀ n,inS c n=true→ -1152921504606846976≤n∧n≤1152921504606846976:=fun n hn=>by
  rcases h n hn with q | q
  ·obtain⟨y,hy,y1,y2⟩:=eA.1 q;have:=(kP y).1 (ha y hy);omega
  ·obtain⟨y,hy,y1,y2⟩:=eA.1 q;have:=(kP y).1 (hb y hy);omega
 exact(kP x).2 ⟨hv,(bnd _ in1).1,(bnd _ in2).2⟩
def aG(x:Nd)(k:Nat):Nat:=(x.args.getD k 0).toNat
def spL(l:List Nd):Nat→Nat→List Sp
 | 0,_=>[]
 | n+1,i=>match l[i]? with
  | none=>[]
  | some x=>if x.k==0 then[(x.lo,x.hi)] else if x.k==1 then bK ((chars x.s).map fun c=>(c,c))else if x.k==2 then spL l n (aG x 0)
   else if x.args.length<2 then spL l n (aG x 0)else if x.k==5 then bK (cI (spL l n (aG x 0)) (spL l n (aG x 1)))
   else if x.k==6 then bK (bE (spL l n (aG x 0)) (spL l n (aG x 1)))else bK (spL l n (aG x 0)++spL l n (aG x 1))
def opN(k:Int):Int:=if k==6 then 2 else if k==5 then 1 else 0
def nuR(l:List Nd):Nat→Nat→List Sp
 | 0,_=>[]
 | n+1,i=>match l[i]? with
  | none=>[]
  | some x=>if x.k==0 then[(x.lo,x.hi)] else if x.k==1 then(chars x.s).foldl (fun out c=>fJ 0 out [(c,c)] [] (dU (out++[(c,c)]))) []
   else if x.args.length==1 then nuR l n (aG x 0)
   else fJ (opN x.k) (nuR l n (aG x 0)) (nuR l n (aG x 1)) [] (dU (nuR l n (aG x 0)++nuR l n (aG x 1)))
def szR(l:List Nd):Nat→Nat→List Sp
 | 0,_=>[]
 | n+1,i=>match l[i]? with
  | none=>[]
  | some x=>if x.k==2 then nuR l n (aG x 0)else if x.args.length==1 then szR l n (aG x 0)
   else fJ (opN x.k) (szR l n (aG x 0)) (szR l n (aG x 1)) [] (dU (szR l n (aG x 0)++szR l n (aG x 1)))
structure Both (bg:List Nat) (i:Nat) (a b:List Sp):Prop where
 eq:a=b
 gap:Gap a
 good:∀ x∈a,bad x=false
 few:2*a.length≤i - bg.getD i 0+2
theorem aC0(op:Int){a b:List Sp}(ga:Gap a)(gb:Gap b)(ha:∀ x∈a,bad x=false)(hb:∀ x∈b,bad x=false)(c:List Sp)(hc:c=bK (if op=1 then cI a b else if op=2 then bE a b else a++b))(ho:op=0∨op=1∨op=2):
  c=fJ op a b [] (dU (a++b))∧Gap c∧(∀x∈c,bad x=false)∧c.length≤a.length+b.length:=by
 have va:=ga.valid;have vb:=gb.valid;obtain⟨q1,q2⟩:=gU op a b;have w:=gT (b:=b) (a:=a) ga.asc vb
 have key:Gap c∧(∀n,inS c n=fK op (inS a n) (inS b n))∧c.length≤a.length+b.length:=by
  rcases ho with rfl | rfl | rfl
  ·have n1:=gK (l:=a++b) fun x hx=>by
    rcases List.mem_append.1 hx with h | h
    ·exact va x h
    ·exact vb x h
   have n2:=pG (a++b);simp only[show ¬(0:Int)=1 by decide,show ¬(0:Int)=2 by decide,if_false]at hc;subst hc;refine⟨n1.1,fun n=>by rw[n1.2,fP];simp[fK],by rw[List.length_append]at n2;exact n2⟩
  ·have n1:=gK (l:=cI a b) uU;have n2:=pG (cI a b);have n3:=mV a b ga gb;simp only[if_true]at hc;subst hc;exact⟨n1.1,fun n=>by rw[n1.2,xJ];simp[fK],by omega⟩
  ·have n1:=gK (l:=bE a b) w.1.valid;have n2:=pG (bE a b);simp only[show ¬(2:Int)=1 by decide,if_true,if_false]at hc;subst hc;exact⟨n1.1,fun n=>by rw[n1.2,pE va vb];simp[fK],by have:=w.2.1;omega⟩
 obtain⟨k1,k2,k3⟩:=key;refine⟨nW k1 q1 fun n=>by rw[k2,q2],k1,aKW (a:=a) (b:=b) k1 (fun n hn=>?_) ha hb,k3⟩;rw[k2]at hn;revert hn;rcases ho with rfl | rfl | rfl<;>cases inS a n<;>cases inS b n<;>simp[fK]
theorem cK{bg:List Nat}{i:Nat}{x:Nd}(N:xA bg i x.args){k:Nat}(h:k<x.args.length):(aG x k:Int)∈x.args∧aG x k<i∧bg.getD i 0≤bg.getD (aG x k) 0:=by
 have hm:x.args[k]'h∈x.args:=gL9 h;obtain⟨c,c1,c2,c3⟩:=N.arg _ hm
 have e:aG x k=c:=by
  simp only[aG,List.getD_eq_getElem?_getD,gE9 h,Option.getD_some,c1];simp
 rw[e,←c1];exact⟨hm,c2,c3⟩
theorem aKX{bg:List Nat}{i:Nat}{x:Nd}(N:xA bg i x.args)(h:x.args.length=2):aG x 0<bg.getD (aG x 1) 0:=by
 obtain⟨a,b,e⟩:∃ a b,x.args=[a,b]:=by
  match hx:x.args,h with
  | [a,b],_=>exact⟨a,b,rfl⟩
 have hp:=N.apart;rw[e]at hp;have:=(List.pairwise_cons.1 hp).1 b (by simp);have e0:aG x 0=a.toNat:=by simp[aG,e]
 have e1:aG x 1=b.toNat:=by simp[aG,e]
 obtain⟨c,c1,_,_⟩:=N.arg a (by rw[e];simp);rw[e0,e1];omega
theorem aIA(k:Int):opN k=0∨opN k=1∨opN k=2:=by
 unfold opN;split
 ·simp
 ·split<;>simp
theorem aKY{l:List Nd}{bg:List Nat}(T:eB l bg)(hok:∀ x∈l,x.ok=true)(P:Nat→Prop)
  (hn:∀ p x,l[p]? =some x→P p→x.k≠1∧x.k≠2∧x.k≠3∧(x.k=0→bad (x.lo,x.hi)=false)) (he:∀ p x,l[p]? =some x→P p→∀c:Nat,(c:Int)∈x.args→P c):
  ∀n i,i<n→i<l.length→P i→Both bg i (spL l n i) (nuR l n i):=by
 intro n
 induction n with
 | zero=>intro i hi;omega
 | succ n ih=>
  intro i hin hil hP;have hx:l[i]? =some (l[i]'hil):=gE9 _;generalize l[i]'hil=x at hx;have N:=T.node i x hx;obtain⟨k1,k2,k3,k0⟩:=hn i x hx hP;have hxok:=hok x (gM9 hx);simp only[Nd.ok,Bool.and_eq_true]at hxok;have hr:=hxok.1.1;have hle:=N.le
  by_cases q0:x.k=0
  ·have e1:spL l (n+1) i=[(x.lo,x.hi)]:=by simp[spL,hx,q0]
   have e2:nuR l (n+1) i=[(x.lo,x.hi)]:=by simp[nuR,hx,q0]
   have hb:=(kP _).1 (k0 q0);rw[e1,e2];exact⟨rfl,⟨hb.1,by simp,trivial⟩,fun y hy=>by rw[List.mem_singleton.1 hy];exact k0 q0,by simp⟩
  ·have sub:∀ k,k<x.args.length→Both bg (aG x k) (spL l n (aG x k)) (nuR l n (aG x k)):=fun k hk=>by
    obtain⟨m1,m2,m3⟩:=cK N hk;exact ih _ (by omega) (by omega) (he i x hx hP _ m1)
   by_cases one:x.args.length=1
   ·have e1:spL l (n+1) i=spL l n (aG x 0):=by simp[spL,hx,q0,k1,k2,one]
    have e2:nuR l (n+1) i=nuR l n (aG x 0):=by simp[nuR,hx,q0,k1,one]
    obtain⟨m1,m2,m3⟩:=cK N (k:=0) (by omega);obtain⟨b1,b2,b3,b4⟩:=sub 0 (by omega);rw[e1,e2];exact⟨b1,b2,b3,by omega⟩
   ·have two:x.args.length=2:=by
     unfold Nd.right at hr;simp only[q0,k1,k2,k3,or_self,if_false]at hr;split at hr
     ·simpa using hr
     ·split at hr
      ·have:=of_decide_eq_true hr;omega
      ·cases hr
    obtain⟨m1,m2,m3⟩:=cK N (k:=0) (by omega);obtain⟨p1,p2,p3⟩:=cK N (k:=1) (by omega);have ap:=aKX N two;have le0:=(T.node (aG x 0) _ (gE9 (show aG x 0<l.length by omega))).le;have le1:=(T.node (aG x 1) _ (gE9 (show aG x 1<l.length by omega))).le;obtain⟨a1,a2,a3,a4⟩:=sub 0 (by omega);obtain⟨b1,b2,b3,b4⟩:=sub 1 (by omega)
    have e2:nuR l (n+1) i=fJ (opN x.k) (nuR l n (aG x 0)) (nuR l n (aG x 1)) [] (dU (nuR l n (aG x 0)++nuR l n (aG x 1))):=by
     simp[nuR,hx,q0,k1,one]
    rw[←a1,←b1]at e2
    have e1:spL l (n+1) i=bK (if opN x.k=1 then cI (spL l n (aG x 0)) (spL l n (aG x 1))else if opN x.k=2 then bE (spL l n (aG x 0)) (spL l n (aG x 1))else spL l n (aG x 0)++spL l n (aG x 1)):=by
     by_cases q5:x.k=5
     ·simp[spL,hx,q5,two,opN]
     ·by_cases q6:x.k=6
      ·simp[spL,hx,q6,two,opN]
      ·simp[spL,hx,q0,k1,k2,q5,q6,two,opN]
    obtain⟨c1,c2,c3,c4⟩:=aC0 (opN x.k) a2 b2 a3 b3 _ e1 (aIA _);exact⟨c1.trans e2.symm,c2,c3,by omega⟩
def cA(l:List Nd):Nat→Nat→Int→Bool
 | 0,_,_=>false
 | n+1,i,m=>match l[i]? with
  | none=>false
  | some x=>if x.k==0 then decide (x.lo≤m)&&decide (m≤x.hi)else if x.k==1 then(chars x.s).any (fun c=>c==m)
   else if x.k==5 then cA l n (aG x 0) m&&cA l n (aG x 1) m else if x.k==6 then cA l n (aG x 0) m&& !cA l n (aG x 1) m
   else cA l n (aG x 0) m||(decide (1<x.args.length)&&cA l n (aG x 1) m)
theorem aC1:∀ (l:List Sp) (a b:Int),Gap l→(∀x∈l,a≤x.1∧x.2≤b)→a≤b+2→2*(l.length:Int)≤b - a+2
 | [],a,b,_,_,h=>by simp;omega
 | x::r,a,b,h,hb,_=>by
  obtain⟨h1,h2,h3⟩:=h;have hx:=hb x (by simp);have ih:=aC1 r (x.2+2) b h3 (fun y hy=>⟨by have:=h2 y hy;omega,(hb y (by simp[hy])).2⟩) (by omega);rw[List.length_cons];omega
theorem aC2{l:List Nd}{bg:List Nat}(T:eB l bg)(hok:∀ x∈l,x.ok=true)(P:Nat→Prop)
  (hn:∀ p x,l[p]? =some x→P p→x.k≠2∧x.k≠3∧(x.k=0→x.lo≤x.hi)) (he:∀ p x,l[p]? =some x→P p→∀c:Nat,(c:Int)∈x.args→P c):
  ∀n i,i<n→i<l.length→P i→Gap (spL l n i)∧∀m,inS (spL l n i) m=cA l n i m:=by
 intro n
 induction n with
 | zero=>intro i hi;omega
 | succ n ih=>
  intro i hin hil hP;have hx:l[i]? =some (l[i]'hil):=gE9 _;generalize l[i]'hil=x at hx;have N:=T.node i x hx;obtain⟨k2,k3,k0⟩:=hn i x hx hP;have hr:=hok x (gM9 hx);simp only[Nd.ok,Bool.and_eq_true]at hr;have hr:=hr.1.1
  have sub:∀ k,k<x.args.length→Gap (spL l n (aG x k))∧∀m,inS (spL l n (aG x k)) m=cA l n (aG x k) m:=fun k hk=>by
   obtain⟨m1,m2,m3⟩:=cK N hk;exact ih _ (by omega) (by omega) (he i x hx hP _ m1)
  by_cases q0:x.k=0
  ·have e1:spL l (n+1) i=[(x.lo,x.hi)]:=by simp[spL,hx,q0]
   rw[e1];refine⟨⟨k0 q0,by simp,trivial⟩,fun m=>?_⟩;simp[cA,hx,q0,inS]
  ·by_cases q1:x.k=1
   ·have e1:spL l (n+1) i=bK ((chars x.s).map fun c=>(c,c)):=by simp[spL,hx,q1]
    obtain⟨g1,g2⟩:=gK (l:=(chars x.s).map fun c=>((c,c):Sp)) fun y hy=>by
     obtain⟨c,_,rfl⟩:=List.mem_map.1 hy;exact Int.le_refl _
    rw[e1];refine⟨g1,fun m=>?_⟩;rw[g2];have e2:cA l (n+1) i m=(chars x.s).any (fun c=>c==m):=by simp[cA,hx,q1]
    rw[e2,inS,List.any_map];refine any_congr fun c _=>?_
    rw[Bool.eq_iff_iff];simp;omega
   ·have pos:0<x.args.length:=by
     unfold Nd.right at hr;simp only[q0,q1,or_self,if_false]at hr;split at hr
     ·have:=of_decide_eq_true hr;omega
     ·split at hr
      ·have:=of_decide_eq_true hr;omega
      ·split at hr
       ·have:=of_decide_eq_true hr;omega
       ·cases hr
    obtain⟨a1,a2⟩:=sub 0 pos
    by_cases one:x.args.length=1
    ·have n5:x.k≠5:=fun e=>by
      unfold Nd.right at hr;simp[e]at hr;omega
     have n6:x.k≠6:=fun e=>by
      unfold Nd.right at hr;simp[e]at hr;omega
     have e1:spL l (n+1) i=spL l n (aG x 0):=by simp[spL,hx,q0,q1,k2,one]
     rw[e1];refine⟨a1,fun m=>?_⟩;have e2:cA l (n+1) i m=cA l n (aG x 0) m:=by simp[cA,hx,q0,q1,n5,n6,one]
     rw[e2,a2]
    ·obtain⟨b1,b2⟩:=sub 1 (by omega);have two:¬ x.args.length<2:=by omega
     have two':1<x.args.length:=by omega
     have va:=a1.valid;have vb:=b1.valid
     by_cases q5:x.k=5
     ·have e1:spL l (n+1) i=bK (cI (spL l n (aG x 0)) (spL l n (aG x 1))):=by simp[spL,hx,q5,two]
      obtain⟨g1,g2⟩:=gK (l:=cI (spL l n (aG x 0)) (spL l n (aG x 1))) uU;rw[e1];refine⟨g1,fun m=>?_⟩;have e2:cA l (n+1) i m=(cA l n (aG x 0) m&&cA l n (aG x 1) m):=by simp[cA,hx,q5]
      rw[g2,xJ,a2,b2,e2]
     ·by_cases q6:x.k=6
      ·have e1:spL l (n+1) i=bK (bE (spL l n (aG x 0)) (spL l n (aG x 1))):=by simp[spL,hx,q6,two]
       have w:=gT (b:=spL l n (aG x 1)) (a:=spL l n (aG x 0)) a1.asc vb;obtain⟨g1,g2⟩:=gK (l:=bE (spL l n (aG x 0)) (spL l n (aG x 1))) w.1.valid;rw[e1];refine⟨g1,fun m=>?_⟩;have e2:cA l (n+1) i m=(cA l n (aG x 0) m&& !cA l n (aG x 1) m):=by simp[cA,hx,q6]
       rw[g2,pE va vb,a2,b2,e2]
      ·have e1:spL l (n+1) i=bK (spL l n (aG x 0)++spL l n (aG x 1)):=by simp[spL,hx,q0,q1,k2,q5,q6,two]
       obtain⟨g1,g2⟩:=gK (l:=spL l n (aG x 0)++spL l n (aG x 1)) fun y hy=>by
        rcases List.mem_append.1 hy with q | q
        ·exact va y q
        ·exact vb y q
       rw[e1];refine⟨g1,fun m=>?_⟩;have e2:cA l (n+1) i m=(cA l n (aG x 0) m||cA l n (aG x 1) m):=by simp[cA,hx,q0,q1,q5,q6,two']
       rw[g2,fP,a2,b2,e2]
def hoL(l:List Nd)(vn:Int)(vs:ByteArray)(sz:Int):Nat→Nat→Bool
 | 0,_=>false
 | n+1,i=>match l[i]? with
  | none=>false
  | some x=>if x.k==0 then decide (x.lo≤vn)&&decide (vn≤x.hi)else if x.k==1 then bL vs x.s else if x.k==2 then inS (spL l n (aG x 0)) sz
   else if x.k==3 then !(chars vs).any (fun c=> !inS (spL l n (aG x 0)) c)else if x.k==5 then hoL l vn vs sz n (aG x 0)&&hoL l vn vs sz n (aG x 1)
   else if x.k==6 then hoL l vn vs sz n (aG x 0)&& !hoL l vn vs sz n (aG x 1)else x.args.any fun a=>hoL l vn vs sz n a.toNat
def saR(l:List Nd)(vn:Int)(vs:ByteArray)(sz:Int):Nat→Nat→Bool
 | 0,_=>false
 | n+1,i=>match l[i]? with
  | none=>false
  | some x=>if x.k==0 then decide (x.lo≤vn)&&decide (vn≤x.hi)else if x.k==1 then bL vs x.s else if x.k==2 then cA l n (aG x 0) sz
   else if x.k==3 then(chars vs).all (fun c=>cA l n (aG x 0) c)else if x.k==5 then saR l vn vs sz n (aG x 0)&&saR l vn vs sz n (aG x 1)
   else if x.k==6 then saR l vn vs sz n (aG x 0)&& !saR l vn vs sz n (aG x 1)else saR l vn vs sz n (aG x 0)||(decide (1<x.args.length)&&saR l vn vs sz n (aG x 1))
theorem aFX{l:List Nd}{bg:List Nat}(T:eB l bg)(hok:∀ x∈l,x.ok=true)(P Q:Nat→Prop)
  (hn:∀ p x,l[p]? =some x→P p→x.k≠2∧x.k≠3∧(x.k=0→x.lo≤x.hi)) (he:∀ p x,l[p]? =some x→P p→∀c:Nat,(c:Int)∈x.args→P c)
  (hf:∀ p x,l[p]? =some x→Q p→∀c:Nat,(c:Int)∈x.args→if x.k=2∨x.k=3 then P c else Q c) (vn:Int) (vs:ByteArray) (sz:Int):
  ∀n i,i<n→i<l.length→Q i→hoL l vn vs sz n i=saR l vn vs sz n i:=by
 intro n
 induction n with
 | zero=>intro i hi;omega
 | succ n ih=>
  intro i hin hil hQ;have hx:l[i]? =some (l[i]'hil):=gE9 _;generalize l[i]'hil=x at hx;have N:=T.node i x hx;have hr:=hok x (gM9 hx);simp only[Nd.ok,Bool.and_eq_true]at hr;have hr:=hr.1.1
  by_cases q0:x.k=0
  ·simp[hoL,saR,hx,q0]
  ·by_cases q1:x.k=1
   ·simp[hoL,saR,hx,q1]
   ·by_cases q23:x.k=2∨x.k=3
    ·have one:x.args.length=1:=by
      unfold Nd.right at hr;simp only[q0,q1,or_self,if_false,q23,if_true]at hr;exact of_decide_eq_true hr
     obtain⟨m1,m2,m3⟩:=cK N (k:=0) (by omega);have hP:=hf i x hx hQ _ m1;rw[if_pos q23]at hP;obtain⟨_,g⟩:=aC2 T hok P hn he n _ (by omega) (by omega) hP;rcases q23 with q | q
     ·simp[hoL,saR,hx,q,g]
     ·have e1:hoL l vn vs sz (n+1) i= !(chars vs).any (fun c=> !inS (spL l n (aG x 0)) c):=by simp only[hoL,hx];simp[q]
      have e2:saR l vn vs sz (n+1) i=(chars vs).all (fun c=>cA l n (aG x 0) c):=by simp only[saR,hx];simp[q]
      rw[e1,e2,List.not_any_eq_all_not];congr 1;funext c;rw[g];simp
    ·have sub:∀ k,k<x.args.length→hoL l vn vs sz n (aG x k)=saR l vn vs sz n (aG x k):=fun k hk=>by
      obtain⟨m1,m2,m3⟩:=cK N hk;have:=hf i x hx hQ _ m1;rw[if_neg q23]at this;exact ih _ (by omega) (by omega) this
     have n2:x.k≠2:=fun e=>q23 (.inl e)
     have n3:x.k≠3:=fun e=>q23 (.inr e)
     have len:x.args.length=1∨x.args.length=2:=by
      unfold Nd.right at hr;simp only[q0,q1,n2,n3,or_self,if_false]at hr;split at hr
      ·right;exact of_decide_eq_true hr
      ·split at hr
       ·exact of_decide_eq_true hr
       ·cases hr
     have c0:=sub 0 (by omega)
     by_cases q5:x.k=5
     ·have two:x.args.length=2:=by
       unfold Nd.right at hr;simpa[q5]using hr
      have c1:=sub 1 (by omega);simp[hoL,saR,hx,q5,c0,c1]
     ·by_cases q6:x.k=6
      ·have two:x.args.length=2:=by
        unfold Nd.right at hr;simpa[q6]using hr
       have c1:=sub 1 (by omega);simp[hoL,saR,hx,q6,c0,c1]
      ·have e1:hoL l vn vs sz (n+1) i=x.args.any fun a=>hoL l vn vs sz n a.toNat:=by simp[hoL,hx,q0,q1,n2,n3,q5,q6]
       have e2:saR l vn vs sz (n+1) i=(saR l vn vs sz n (aG x 0)||(decide (1<x.args.length)&&saR l vn vs sz n (aG x 1))):=by simp[saR,hx,q0,q1,n2,n3,q5,q6]
       rw[e1,e2];rcases len with q | q
       ·obtain⟨a,ea⟩:∃ a,x.args=[a]:=by
         match h:x.args,q with
         | [a],_=>exact⟨a,rfl⟩
        have e3:aG x 0=a.toNat:=by simp[aG,ea]
        rw[←c0,e3];simp[ea]
       ·have c1:=sub 1 (by omega)
        obtain⟨a,b,ea⟩:∃ a b,x.args=[a,b]:=by
         match h:x.args,q with
         | [a,b],_=>exact⟨a,b,rfl⟩
        have e3:aG x 0=a.toNat:=by simp[aG,ea]
        have e4:aG x 1=b.toNat:=by simp[aG,ea]
        rw[←c0,←c1,e3,e4];simp[ea]
def c123:aB:=zs 0 1 [zW 3 false] (zs 1 6 [zl 4 1,zv 5 0,zo 6 (.cT .i64 (.tmp 5)),zq 7 120 [4,6],zN 8 7,zv 3 8] .ret)
theorem k123:Compiled prog 123 9 [.tmp 3] c123:=kMk [] func123
def c50:aB:=zs 0 2 [zX 1 6 0,zM 2 0] (zs 1 8 [zf 3 3 1,zl 4 3,zp 5 4,zf 6 5 1,zl 7 6,zL 8 7,zB 9 .add 5 8,zv 2 9] .ret)
theorem k50:Compiled prog 50 10 [.tmp 2] c50:=kMk [] func50
def c128:aB:=zs 0 1 [zM 2 0] (.seq (zs 1 1 [zv 3 0] (.block 0 (.seq (zs 2 2 [zK 5 .eql 3 9,zv 4 5] (zd 4 .skip (zr 3 2 [zK 6 .eql 3 10,zv 4 6]))) (zd 4 (zs 4 1 [zM 2 9] .ret) (zs 5 2 [zK 8 .eql 3 11,zv 7 8] (zd 7 (zs 6 1 [zM 2 10] .ret) (zs 7 2 [zK 10 .eql 3 12,zv 9 10] (zd 9 (zs 8 1 [zM 2 11] .ret) (zs 9 2 [zK 12 .eql 3 13,zv 11 12] (zd 11 (zs 10 1 [zM 2 12] .ret) (zs 11 2 [zK 14 .eql 3 14,zv 13 14] (zd 13 (zs 12 1 [zM 2 13] .ret) (zs 13 2 [zK 16 .eql 3 15,zv 15 16] (zd 15 (zs 14 1 [zM 2 (-1)] .ret) .skip)))))))))))))) (zs 15 2 [zv 17 0,zv 2 17] .ret))
theorem k128:Compiled prog 128 18 [.tmp 2] c128:=kMk [] func128
def c76b8:aB:= .seq (zs 4 10 [zv 12 5,zf 13 3 3,zl 14 13,zp 15 14,zB 16 .lss 12 15,zv 17 16,.grp 17 true [zg 18 (zF 0 2) 17 true,zg 19 (zy 18) 17 true,zg 20 (zU .eql 19 6) 17 true],zP 21 17 20] (zd 21 .skip (.exit 0))) (.seq (.block 1 (.seq (.region 6 true 10 [zf 24 1 2,zl 25 24,zq 26 18 [25],zf 27 3 3,zl 28 27,zv 29 5,zo 30 (.ixs (.tmp 28) (.tmp 29)),zo 31 (.cT .i64 (.tmp 30)),zq 32 41 [26,31],zN 33 32]) (zd 33 (zs 7 1 [zW 4 false] .ret) .skip))) (zr 5 3 [zv 22 5,zK 23 .add 22 1,zv 5 23]))
def c76:aB:=zs 0 3 [zX 2 8 0,zX 3 6 1,zW 4 false] (.seq (.seq (.region 1 true 6 [zf 6 0 3,zl 7 6,zf 8 0 2,zl 9 8,zq 10 128 [9],zB 11 .neq 7 10]) (zd 11 (zs 2 1 [zW 4 false] .ret) .skip)) (.seq (zs 3 1 [zM 5 0] (.block 0 (.loop c76b8))) (zs 8 1 [zW 4 true] .ret)))
theorem k76:Compiled prog 76 34 [.tmp 4] c76:=kMk [] func76
def c25:aB:=zs 0 3 [zX 2 8 0,zX 3 6 1,zM 4 0] (.seq (zs 1 3 [zA 7 8 2,zq 8 29 [7],zv 5 8] (zs 2 2 [zv 9 5,zK 10 .neq 9 0] (zd 10 (zs 3 2 [zv 11 5,zv 4 11] .ret) .skip))) (.seq (zs 4 3 [zA 12 6 3,zq 13 75 [12],zv 6 13] (zs 5 2 [zv 14 6,zK 15 .neq 14 0] (zd 15 (zs 6 2 [zv 16 6,zv 4 16] .ret) .skip))) (zs 7 7 [zA 17 8 2,zA 18 6 3,zq 19 76 [17,18],zN 20 19,zq 21 19 [20],zo 22 (.bin .mul false (zi 17) (.tmp 21)),zv 4 22] .ret)))
theorem k25:Compiled prog 25 23 [.tmp 4] c25:=kMk [] func25
def c4t3:aB:=zd 11 (zs 2 1 [zW 4 false] .ret) .skip
def c4t6:aB:=zd 19 (zs 4 1 [zW 4 true] .ret) .skip
def c4t12:aB:=zd 40 (zs 9 17 [zv 41 6,zv 42 9,zB 43 .eql 41 42,zv 44 43,.grp 44 true [zg 45 (zm 8) 44 true,zg 46 (zm 9) 44 true,zg 47 (zO .eql 45 46) 44 true],zP 48 44 47,zv 49 48,.grp 49 true [zg 50 (zm 5) 49 true,zg 51 (zV 50) 49 true],zP 52 49 51,zv 53 52,.grp 53 true [zg 54 (zm 7) 53 true,zg 55 (zV 54) 53 true],zP 56 53 55,zv 4 56] .ret) .skip
def c4t14:aB:= .seq (zs 8 2 [zv 39 9,zK 40 .neq 39 0] c4t12) (zs 10 21 [zv 57 6,zK 58 .eql 57 0,zv 59 58,.grp 59 true [zg 60 (zm 8) 59 true,zg 61 (zU .eql 60 0) 59 true],zP 62 59 61,zv 63 62,.br 63 true [zg 64 (zm 5) 63 true,zg 65 (zt 8 2) 63 true,zg 66 (zt 6 3) 63 true,.mk (some 67) (zw 26 [65,66]) (some (63,true)),zg 68 (.bin .eql true (.tmp 64) (.tmp 67)) 63 true],zP 69 63 68,zv 70 69,.br 70 true [zg 71 (zm 7) 70 true,zg 72 (zt 8 2) 70 true,zg 73 (zt 6 3) 70 true,.mk (some 74) (zw 27 [72,73]) (some (70,true)),zg 75 (.bin .eql true (.tmp 71) (.tmp 74)) 70 true],zP 76 70 75,zv 4 76] .ret)
def c4t15:aB:=zs 7 4 [zA 36 8 2,zA 37 6 3,zq 38 25 [36,37],zv 9 38] c4t14
def c4t16:aB:= .seq (.region 6 true 10 [zA 29 8 2,zq 30 15 [29],zA 31 6 3,zq 32 23 [31],zq 33 24 [30,32],zv 28 33,zE 34 0 28,zE 35 1 28,zv 7 34,zv 8 35]) c4t15
def c4t17:aB:= .seq (.region 5 true 10 [zA 21 8 2,zq 22 15 [21],zA 23 6 3,zq 24 23 [23],zq 25 22 [22,24],zv 20 25,zE 26 0 20,zE 27 1 20,zv 5 26,zv 6 27]) c4t16
def c4t18:aB:= .seq (zs 3 8 [zA 12 8 2,zq 13 13 [12],zN 14 13,zv 15 14,.br 15 false [zg 16 (zt 6 3) 15 false,.mk (some 17) (zw 21 [16]) (some (15,false)),zg 18 (zV 17) 15 false],zQ 19 15 18] c4t6) c4t17
def c4t19:aB:= .seq (zs 1 2 [zc 10 12 [],zN 11 10] c4t3) c4t18
def c4:aB:=zs 0 3 [zX 2 8 0,zX 3 6 1,zW 4 false] c4t19
theorem k4:Compiled prog 4 77 [.tmp 4] c4:=kMk [] func4
section
attribute [local simp] bB aN aS aI aU aO aX tyC fdC vlC ndC aL D.cO D.pt
theorem kF{bg:List Nat}{i:Nat}{x:Nd}(N:xA bg i x.args){k:Nat}(h:k<x.args.length):x.args[k]? =some ((aG x k:Nat):Int):=by
 obtain⟨c,c1,_,_⟩:=N.arg _ (gL9 h);simp only[aG,List.getD_eq_getElem?_getD,gE9 h,Option.getD_some,c1];simp
theorem dE{x:Nd}(h:x.ok=true):(x.k=0∨x.k=1→x.args.length=0)∧(x.k=2∨x.k=3→x.args.length=1)∧(x.k=4∨x.k=5∨x.k=6→x.args.length=2)∧(x.k≠0→x.k≠1→0<x.args.length∧x.args.length≤2):=by
 simp only[Nd.ok,Bool.and_eq_true]at h;have hr:=h.1.1;unfold Nd.right at hr;split at hr
 ·have:=of_decide_eq_true hr;rename_i q;exact⟨fun _=>this,by omega,by omega,by omega⟩
 ·split at hr
  ·have:=of_decide_eq_true hr;rename_i q _;exact⟨by omega,by omega,by omega,by omega⟩
  ·split at hr
   ·have:=of_decide_eq_true hr;exact⟨by omega,by omega,by omega,by omega⟩
   ·split at hr
    ·have:=of_decide_eq_true hr;exact⟨by omega,by omega,by omega,by omega⟩
    ·cases hr
attribute [local simp] nL D.mD
end
section
attribute [local simp] bB aN aS aI aU aO aX tyC fdC vlC ndC aL D.cO D.pt
attribute [local simp] nL D.mD
attribute [local simp] c50 in
theorem P50(v:Vl)(hs:v.s.size≤1000000)(hi:v.items.length≤1000000):PSp prog 50 [.agg (vlC v)] (.one (.t (I ((v.s.size:Int)+v.items.length)))):=by
 have w:IntKind.i64.wrap ((v.s.size:Int)+v.items.length)=(v.s.size:Int)+v.items.length:=wrap_i64 (by omega) (by omega);refine k50.aJ (by simp) (by simp[D.closed,A.closed]) rfl ?_;simp -implicitDefEqProofs [-aA,-gval,w,aC]
end
section
attribute [local simp] bB aN aS aI aU aO aX tyC fdC vlC ndC aL D.cO D.pt
attribute [local simp] nL D.mD
def iG(k:Int):Int:=if k==9||k==10 then 9 else if k==11 then 10 else if k==12 then 11 else if k==13 then 12 else if k==14 then 13 else if k==15 then -1 else k
attribute [local simp] c128 in
theorem aW6(k:Int):PSp prog 128 [.one (.t (I k))] (.one (.t (I (iG k)))):=by
 refine k128.aJ (by simp) rfl rfl ?_;rcases eqCases k 9 with q | q
 ·subst q;simp -implicitDefEqProofs [-aA,-gval,aC,iG]
 ·rcases eqCases k 10 with q2 | q2
  ·subst q2;simp -implicitDefEqProofs [-aA,-gval,aC,iG]
  ·rcases eqCases k 11 with q3 | q3
   ·subst q3;simp -implicitDefEqProofs [-aA,-gval,aC,iG]
   ·rcases eqCases k 12 with q4 | q4
    ·subst q4;simp -implicitDefEqProofs [-aA,-gval,aC,iG]
    ·rcases eqCases k 13 with q5 | q5
     ·subst q5;simp -implicitDefEqProofs [-aA,-gval,aC,iG]
     ·rcases eqCases k 14 with q6 | q6
      ·subst q6;simp -implicitDefEqProofs [-aA,-gval,aC,iG]
      ·rcases eqCases k 15 with q7 | q7
       ·subst q7;simp -implicitDefEqProofs [-aA,-gval,aC,iG]
       ·simp -implicitDefEqProofs [-aA,-gval,q,q2,q3,q4,q5,q6,q7,aC,iG]
def oH(t:Ty)(v:Vl):Bool:=v.kind==iG t.kind&& !(t.kind==6&&(chars v.s).any fun c=> !inS (alpha t.name) c)
attribute [local simp] c76b8 c76 in
theorem P76(t:Ty)(v:Vl)(hvs:v.s.size≤1000000):PSp prog 76 [.agg (tyC t),.agg (vlC v)] (.one (.t (.bool (oH t v)))):=by
 obtain⟨R0,hR0⟩:∃ R,oH t v=R:=⟨_,rfl⟩;rw[hR0];have aW7:=aW6 t.kind;have hal:=pU t.name;have hcl:=cW v.s;refine k76.aJ (by simp) (by simp[D.closed,A.closed]) rfl ?_;obtain⟨b,eb⟩:∃ b,(v.kind==iG t.kind)=b:=⟨_,rfl⟩;have eb':(v.kind != iG t.kind)= !b:=by rw[←eb];rfl
 simp -implicitDefEqProofs [-aA,-gval];refine aD.bF aW7 rfl ?_;cases b
 ·have:R0=false:=by rw[←hR0];simp[oH,eb]
  subst this;simp -implicitDefEqProofs [-aA,-gval,eb',aC]
 ·simp -implicitDefEqProofs [-aA,-gval,eb'];rcases eqCases t.kind 6 with k6 | k6
  ·have e1:R0= !(chars v.s).any fun c=> !inS (alpha t.name) c:=by rw[←hR0];simp only[oH,eb];simp[k6]
   subst e1;refine bJ (chars v.s) (fun c=> !inS (alpha t.name) c) [2,3] [0,1] (fun i st=>st.tmps 5= .one (.t (I i))) (by simp only[short];omega) ?_ ?_ ?_
   ·exact⟨by simp,by simp,by simp⟩
   ·intro j y st' hj hjI hw hg hy hany hx hk hh;simp at hk;simp[Hp.set]at hh;rw[hcl]at hj hjI;obtain⟨o1,o2,o3,o4⟩:=aK hh.1.1;obtain⟨p1,p2,p3,p4⟩:=aK hh.2.1;have hc:(chars v.s)[j]?.getD 0=y:=by rw[hg];rfl
    have hm:=jC hy
    have hcv:D.cT .i64 (.one (.t (.int .u8 y)))= .one (.t (I y)):=by
     have:IntKind.i64.wrap y=y:=wrap_i64 (by omega) (by omega);simp[D.cT,this]
    obtain⟨B,hB⟩:∃ B,inS (alpha t.name) y=B:=⟨_,rfl⟩;have pin:=InP (alpha t.name) y (by omega);have p18:=P18 t.name;rw[hB]at pin;generalize alpha t.name=al at*;simp -implicitDefEqProofs [-aA,-gval,hx,hk,hjI,o1,o2,o3,p1,p2,p3,k6];refine aD.bF p18 rfl ?_;simp -implicitDefEqProofs [-aA,-gval,hx,hk,hjI,hc,hcv,p1,p2,p3];refine aD.bF pin rfl ?_;cases B
    ·have ha:=hany (by rw[hB];rfl);simp -implicitDefEqProofs [-aA,-gval];simp -implicitDefEqProofs [-aA,-gval,ha,aC]
    ·simp -implicitDefEqProofs [-aA,-gval,hx,hk,hw,hB,hh.1.1,hh.2.1];simp[Hp.set,k6]
   ·intro st' hany hx hk hh;simp at hk;simp[Hp.set]at hh;rw[hcl]at hx;obtain⟨o1,o2,o3,o4⟩:=aK hh.2.1;simp -implicitDefEqProofs [-aA,-gval,hx,hk,o1,o2,o3,aC,hany]
  ·have e1:R0=true:=by rw[←hR0];simp[oH,eb,k6]
   subst e1;refine bJ ([]:List Int) (fun c=>false) [2,3] [0,1] (fun i st=>st.tmps 5= .one (.t (I i))) (by simp[short]) ?_ ?_ ?_
   ·exact⟨by simp,by simp,by simp⟩
   ·intro j y st' hj;simp at hj
   ·intro st' hany hx hk hh;simp at hk hx;simp[Hp.set]at hh;obtain⟨o1,o2,o3,o4⟩:=aK hh.1.1;obtain⟨p1,p2,p3,p4⟩:=aK hh.2.1;obtain⟨w,ew⟩:∃ w,decide ((0:Int)<(v.s.size:Int))=w:=⟨_,rfl⟩;cases w<;>simp -implicitDefEqProofs [-aA,-gval,hx,hk,o1,o2,o3,p1,p2,p3,k6,aC]
end
section
attribute [local simp] bB aN aS aI aU aO aX tyC fdC vlC ndC aL D.cO D.pt
def cJ(l:List Nd):Nat:=match l[l.length - 1]? with | some x=>if x.k==7 then aG x 0 else l.length - 1 | none=>0
theorem sP{l:List Nd}{bg:List Nat}(T:eB l bg)(hok:∀ x∈l,x.ok=true)(hne:l.length≠0):cJ l<l.length:=by
 have hx:l[l.length - 1]? =some (l[l.length - 1]'(by omega)):=gE9 _;generalize l[l.length - 1]'(by omega)=x at hx;obtain⟨r1,r2,r3,r4⟩:=dE (hok x (gM9 hx));simp only[cJ,hx];split
 ·rename_i k7;have k7:x.k=7:=by simpa using k7
  have pos:=(r4 (by omega) (by omega)).1;have:=(cK (T.node _ x hx) pos).2.1;omega
 ·omega
end
theorem nY:∀ {l:List Int},(cY l).2=0→∀e∈l,e=0
 | [],_,e,he=>by cases he
 | x::r,h,e,he=>by
  by_cases hx:x=0
  ·simp only[cY,hx,beq_self_eq_true,if_true]at h;rcases List.mem_cons.1 he with q | q
   ·rw[q];exact hx
   ·exact nY h e q
  ·simp[cY,hx]at h
theorem iM{t:Ty}{x:Nd}{r:Bool}{a:Int}(h:lF t x r a=0):cQ t.kind x.k a=true∧(x.k=0→kC x (gW t.kind a)=true):=by
 simp only[lF]at h;cases hs:cQ t.kind x.k a
 ·rw[hs]at h;simp only[bI,dC]at h
  by_cases q:(x.k != 7||r)=true
  ·simp[q]at h
  ·simp[q]at h
 ·refine⟨rfl,fun k0=>?_⟩;rw[hs]at h;cases hb:kC x (gW t.kind a)
  ·simp[bI,dC,k0,hb]at h
  ·rfl
theorem aDZ{x:Nd}{k a:Int}(h:kC x (gW k a)=true)(ha:a=0∨a=3):bad (x.lo,x.hi)=false:=by
 rw[kP];simp only[kC,Bool.and_eq_true,decide_eq_true_eq]at h;obtain⟨⟨h1,h2⟩,h3⟩:=h;rcases ha with rfl | rfl
 ·simp only[gW,show((0:Int)==3)=false by decide,show((0:Int)==4)=false by decide,Bool.false_eq_true,if_false]at h2 h3;exact⟨h1,h2,h3⟩
 ·have e:gW k 3=(0,cB k):=rfl;rw[e]at h2 h3;have m:cB k≤200:=by unfold cB;split<;>omega
  exact⟨h1,by omega,by omega⟩
theorem gL{t:Ty}(h:(dM t).2=0):t.check=0∧(xB t).2=0:=by
 simp only[dM]at h
 by_cases q:t.check=0
 ·simp only[q,bne_self_eq_false,Bool.false_eq_true,if_false]at h;exact⟨q,h⟩
 ·have:(t.check != 0)=true:=by simpa using q
  rw[if_pos this]at h;exact absurd h q
theorem pH{t:Ty}(h:(dM t).2=0)(hl:t.limits.length≠0):bS t.limits=true∧∃L:Nat→Int,L (t.limits.length - 1)=eI t.kind∧Lab t.limits fN L (t.limits.length - 1) 0∧∀p x,t.limits[p]? =some x→∃r,lF t x r (L p)=0:=by
 obtain⟨h1,h2⟩:=gL h;have ht:=dQ t h1;obtain⟨hlen,bg,T⟩:=bO ht
 have h3:(cY (kJ t (lk (cM t)))).2=0:=by
  simp only[xB]at h2;have e:(t.limits.length==0)=false:=by simpa using hl
  rw[e]at h2;simp only[Bool.false_eq_true,if_false]at h2;split at h2
  ·cases h2
  ·exact h2
 obtain⟨_,p2,p3⟩:=uP (f:=fN) T t.limits.length (t.limits.length - 1) (eI t.kind) (List.replicate t.limits.length 0) (by omega) (by omega) (by simp);rw[T.root]at p3;refine⟨ht,lk (cM t),p2,p3,fun p x hx=>⟨p+1==t.limits.length,?_⟩⟩;have hp:=(gS9.1 hx).1
 have he:(kJ t (lk (cM t)))[p]? =some (lF t x (p+1==t.limits.length) (lk (cM t) p)):=by
  simp[kJ,List.getElem?_mapIdx,hx]
 exact nY h3 _ (gM9 he)
theorem xP{t:Ty}(h:(dM t).2=0)(hl:t.limits.length≠0)(hk:t.kind=2∨t.kind=11∨t.kind=12):∃ bg,∃P Q:Nat→Prop,eB t.limits bg∧t.limits.length≤20∧(∀x∈t.limits,x.ok=true)∧
  (∀p x,t.limits[p]? =some x→P p→x.k≠1∧x.k≠2∧x.k≠3∧(x.k=0→bad (x.lo,x.hi)=false))∧(∀p x,t.limits[p]? =some x→P p→∀c:Nat,(c:Int)∈x.args→P c)∧
  (∀p x,t.limits[p]? =some x→Q p→x.k≠0∧x.k≠1∧x.k≠3)∧(∀p x,t.limits[p]? =some x→Q p→∀c:Nat,(c:Int)∈x.args→if x.k=2 then P c else Q c)∧
  (t.kind=2→P (t.limits.length - 1))∧(t.kind≠2→Q (t.limits.length - 1)):=by
 obtain⟨ht,L,h1,h2,h3⟩:=pH h hl;obtain⟨hlen,bg,T⟩:=bO ht
 have hn:∀ p x,t.limits[p]? =some x→(L p=0∨L p=3)→x.k≠1∧x.k≠2∧x.k≠3∧(x.k=0→bad (x.lo,x.hi)=false):=fun p x hx ha=>by
  obtain⟨r,hr⟩:=h3 p x hx;obtain⟨s1,s2⟩:=iM hr;refine⟨fun e=>?_,fun e=>?_,fun e=>?_,fun e=>aDZ (s2 e) ha⟩
  all_goals
   rw[e]at s1;rcases ha with q | q<;>rw[q]at s1<;>simp[cQ]at s1
 have hq:∀ p x,t.limits[p]? =some x→L p=2→x.k≠0∧x.k≠1∧x.k≠3:=fun p x hx ha=>by
  obtain⟨r,hr⟩:=h3 p x hx;obtain⟨s1,_⟩:=iM hr;refine⟨fun e=>?_,fun e=>?_,fun e=>?_⟩
  all_goals
   rw[e,ha]at s1;simp[cQ]at s1
 refine⟨bg,fun p=>L p=0∨L p=3,fun p=>L p=2,T,hlen,jH ht,hn,fun p x hx ha c hc=>?_,hq,fun p x hx ha c hc=>?_,fun hk2=>?_,fun hk2=>?_⟩
 ·have hp:=(gS9.1 hx).1;obtain⟨_,k2,k3,_⟩:=hn p x hx ha;show L c=0∨L c=3;rw[h2.edge p x (Nat.zero_le _) (by omega) hx c hc];simpa[fN,k2,k3]using ha
 ·have hp:=(gS9.1 hx).1;obtain⟨_,_,k3⟩:=hq p x hx ha;have e:=h2.edge p x (Nat.zero_le _) (by omega) hx c hc
  by_cases k2:x.k=2
  ·rw[if_pos k2];right;rw[e];simp[fN,k2]
  ·rw[if_neg k2];show L c=2;rw[e];simpa[fN,k2,k3]using ha
 ·left;rw[h1,hk2];rfl
 ·show L (t.limits.length - 1)=2;rw[h1];rcases hk with q | q | q
  ·exact absurd q hk2
  ·rw[q];rfl
  ·rw[q];rfl
theorem tQ.more{d:D}{h:Hp}{nx nx' did did':Nat}{acc:List Sp}(ho:tQ d h nx acc did)(hn:nx≤nx')(hd:nx≤did'∨did'=did):tQ d h nx' acc did':=by
 rcases ho with ho | ⟨h1,id,ver,h2,h3,h4⟩
 ·exact .inl ho
 ·exact .inr ⟨h1,id,ver,by omega,by omega,h4⟩
theorem tQ.set{d:D}{h:Hp}{nx did j:Nat}{o:O}{acc:List Sp}(ho:tQ d h nx acc did)(hj:nx≤j):tQ d (h.set j o) nx acc did:=by
 rcases ho with ho | ⟨h1,id,ver,h2,h3,h4,h5,h6,h7,h8⟩
 ·exact .inl ho
 ·have hne:id≠j:=by omega
  refine .inr ⟨h1,id,ver,h2,h3,h4,?_,?_,?_,?_⟩
  ·unfold Ab.alive Hp.set at*; rw[if_neg hne];exact h5
  ·unfold Hp.rows Hp.set at*; rw[if_neg hne];exact h6
  ·unfold Hp.sz Hp.set at*; rw[if_neg hne];exact h7
  ·unfold Hp.shut Hp.set at*; rw[if_neg hne];exact h8
def BIn(x:Sp)(b:List Sp)(bx:Nat)(yH:List Sp)(st:St)(k:Nat)(st1:St):Prop:=
 ∃(j:Nat) (acc:List Sp),k=b.length - j∧j≤b.length∧acc=yH++(b.take j).flatMap (meet x)∧acc.length≤yH.length+j∧st1.tmps 7=st.tmps 7∧Data st1.heap bx 0 #[x]∧st.nx≤st1.nx∧st1.tmps 18=st.tmps 18∧st1.tmps 19=st.tmps 19∧st1.tmps 20= .one (.t (I j))∧
  tQ (st1.tmps 5) st1.heap st1.nx acc bx∧st1.tmps 0=st.tmps 0∧st1.tmps 1=st.tmps 1∧st1.tmps 12=st.tmps 12∧st1.tmps 13=st.tmps 13∧st1.tmps 14=st.tmps 14
theorem take_one{b:List Sp}{j:Nat}(h:j<b.length):b.take (j+1)=b.take j++[b[j]]:=by rw[List.take_add_one,gE9 h];rfl
theorem aIB{n:Nat}{A:Exit→St→Prop}{ks:List KF}(x:Sp)(b:List Sp)(bx:Nat)(yH:List Sp)(hlen:yH.length+b.length≤100000)(st:St)(h7:st.tmps 7= .one (.ptr ⟨bx,0,2,0,0⟩))(hx:Data st.heap bx 0 #[x])(hbx:bx<st.nx)
  (h18:st.tmps 18= .one (.t (spans b))) (h19:st.tmps 19= .one (.t (I b.length))) (h20:st.tmps 20= .one (.t (I 0))) (h5:tQ (st.tmps 5) st.heap st.nx yH bx)
  (K:∀ st':St,tQ (st'.tmps 5) st'.heap st'.nx (yH++b.flatMap (meet x)) bx→st.nx≤st'.nx→st'.tmps 0=st.tmps 0→st'.tmps 1=st.tmps 1→st'.tmps 12=st.tmps 12→st'.tmps 13=st.tmps 13→st'.tmps 14=st.tmps 14→cS prog n A ks .normal st'):
  W prog n (.loop c132b12) (kont prog n A (.blk 2::ks)) st:=by
 refine W.dO (fun k st1=>BIn x b bx yH st k st1) b.length
  ⟨0,yH,by simp,by simp,by simp,by simp,rfl,hx,Nat.le_refl _,rfl,rfl,h20,h5,rfl,rfl,rfl,rfl,rfl⟩ ?_
 rintro k st1 ⟨j,acc,hk,hj,hacc,hal,e7,hd,hnx,e18,e19,e20,e5,e0,e1,e12,e13,e14⟩;rw[h7]at e7;rw[h18]at e18;rw[h19]at e19;rcases Nat.lt_or_ge j b.length with hlt | hge
 ·have gF:(j:Int)<b.length:=by omega
  have hw:IntKind.i64.wrap ((j:Int)+1)=((j+1:Nat):Int):=aH _ (by omega) (by omega);have hr:st1.heap.rows bx=[cell x]:=by rw[hd.rows];rfl
  have hn1:¬ bx=st1.nx+1+2:=by omega
  have hn1':¬ st1.nx+1+2=bx:=by omega
  obtain⟨y,hy⟩:∃ y,y=b[j]:=⟨_,rfl⟩
  have htake:yH++(b.take (j+1)).flatMap (meet x)=acc++meet x y:=by
   rw[hacc,take_one hlt,List.flatMap_append,hy];simp
  have hmax:max x.1 y.1=if x.1<y.1 then y.1 else x.1:=by rw[Int.max_def];split<;>split<;>omega
  have hmin:min x.2 y.2=if y.2<x.2 then y.2 else x.2:=by rw[Int.min_def];split<;>split<;>omega
  simp[c132b12,c132r6,c132r7,c132r8,c132r9,e18,e19,e20,spans,hlt,gF,spr,e7,hd.alive,hd.sz,hr,hn1,cell,←hy];rw[←hmax,←hmin];have hml:(meet x y).length≤1:=by unfold meet;split<;>simp
  have xG:∀ st':St,st'.tmps 7= .one (.ptr ⟨bx,0,2,0,0⟩)→Data st'.heap bx 0 #[x]→st1.nx≤st'.nx→st'.tmps 18=st1.tmps 18→st'.tmps 19=st1.tmps 19→st'.tmps 20= .one (.t (I ((j+1:Nat):Int)))→tQ (st'.tmps 5) st'.heap st'.nx (acc++meet x y) bx→
    st'.tmps 0=st1.tmps 0→st'.tmps 1=st1.tmps 1→st'.tmps 12=st1.tmps 12→st'.tmps 13=st1.tmps 13→st'.tmps 14=st1.tmps 14→∃k',k'<k∧BIn x b bx yH st k' st':=by
   intro st' u7 ud un u18 u19 u20 u5 u0 u1 u12 u13 u14;refine⟨b.length - (j+1),by omega,j+1,_,rfl,by omega,htake.symm,by simp;omega,by rw[u7,h7],ud,by omega,by rw[u18,e18,h18],by rw[u19,e19,h19],u20,u5,by rw[u0,e0],by rw[u1,e1],by rw[u12,e12],by rw[u13,e13],by rw[u14,e14]⟩
  have hmt:meet x y=if max x.1 y.1≤min x.2 y.2 then[(max x.1 y.1,min x.2 y.2)] else[]:=rfl
  generalize max x.1 y.1=lo at*;generalize min x.2 y.2=hiV at*;have hd':∀ o:O,∀o':O,Data ((st1.heap.set (st1.nx+1+2) o).set (st1.nx+1+2) o') bx 0 #[x]:=fun o o'=>(hd.set (by omega)).set (by omega)
  constructor
  ·intro hle;rw[if_pos hle]at hmt;rw[hmt]at xG;rcases e5 with⟨rfl,e5⟩ | ⟨hne,id,ver,h2,h3,h4,h5',h6,h7',h8⟩
   ·simp[c132r10,c132r11,e5,hw,e20];refine xG _ (by simp[e7]) ((hd' _ _).set (by omega)) (by simp;omega) (by simp) (by simp) (by simp) (.inr ⟨by simp,_,0,?_,?_,by simp;rfl,by simp,?_,by simp,by simp⟩) (by simp) (by simp) (by simp) (by simp) (by simp)
    ·simp<;>omega
    ·omega
    ·rw[dW,if_pos rfl];rfl
   ·have aDW:¬ id=st1.nx+1+2:=by omega
    have xO:(st1.heap.rows id).length=acc.length:=by rw[h6];simp
    simp[c132r10,c132r11,h4,hw,e20,h5',h7',xO,aDW];refine⟨by omega,xG _ (by simp[e7]) ((hd' _ _).set (by omega)) (by simp;omega) (by simp) (by simp) (by simp) (.inr ⟨by simp,id,ver+1,by simp;omega,by omega,by simp,by simp,?_,by simp,by simp[h8]⟩) (by simp) (by simp) (by simp) (by simp) (by simp)⟩;rw[dW,if_pos rfl,h6];simp[cell]
  ·intro hgt;rw[if_neg (by omega)]at hmt;rw[hmt]at xG;simp[c132r11,hw,e20];exact xG _ (by simp[e7]) (hd' _ _) (by simp;omega) (by simp) (by simp) (by simp) (by simpa using((e5.set (by omega)).set (by omega)).more (by omega) (.inr rfl)) (by simp) (by simp) (by simp) (by simp) (by simp)
 ·have hj':j=b.length:=by omega
  subst hj';have gF:¬ (b.length:Int)<b.length:=by omega
  simp at hacc;simp[c132b12,c132r6,e19,e20];exact K _ (by rw[←hacc];exact e5.more (by simp) (.inr rfl)) (by simp;omega) (by simp[e0]) (by simp[e1]) (by simp[e12]) (by simp[e13]) (by simp[e14])
def aW8(a b:List Sp)(k:Nat)(st1:St):Prop:=
 ∃(i:Nat),k=a.length - i∧i≤a.length∧st1.tmps 0= .one (.t (spans a))∧st1.tmps 1= .one (.t (spans b))∧st1.tmps 12= .one (.t (spans a))∧st1.tmps 13= .one (.t (I a.length))∧st1.tmps 14= .one (.t (I i))∧
  tQ (st1.tmps 5) st1.heap st1.nx (cI (a.take i) b) st1.nx
theorem aKZ{x y:Sp}:(meet x y).length≤1:=by unfold meet;split<;>simp
theorem aAQ(x:Sp):∀ b:List Sp,(b.flatMap (meet x)).length≤b.length
 | []=>by simp
 | y::b=>by
  have h1:=aAQ x b;have h2:=aKZ (x:=x) (y:=y);rw[List.flatMap_cons,List.length_append,List.length_cons];omega
theorem aAR(b:List Sp):∀ a:List Sp,(cI a b).length≤a.length*b.length
 | []=>by simp[cI]
 | x::a=>by
  have h1:=aAR b a;have h2:(b.flatMap fun y=>meet x y).length≤b.length:=aAQ x b;unfold cI at*;rw[List.flatMap_cons,List.length_append,List.length_cons,Nat.add_mul];simp only[Nat.one_mul]at*;omega
theorem aL0{a b:List Sp}(ha:∀ x∈a,bad x=false)(hb:∀ x∈b,bad x=false):∀ z∈cI a b,bad z=false:=by
 intro z hz;obtain⟨x,hx,hz⟩:=List.mem_flatMap.1 hz;obtain⟨y,hy,hz⟩:=List.mem_flatMap.1 hz;have h1:=ha x hx;have h2:=hb y hy;unfold meet at hz;split at hz
 ·rename_i h;simp at hz;subst hz;simp[bad]at h1 h2 ⊢;omega
 ·cases hz
theorem aL1(a b:List Sp)(hs:(cI a b).length≤100000)(ha:a.length≤300)(hb:b.length≤300)(hoa:∀ x∈a,bad x=false)(hob:∀ x∈b,bad x=false):PSp prog 132 [.one (.t (spans a)),.one (.t (spans b))] (.one (.t (spans (bK (cI a b))))):=by
 refine k132.aJ (by simp) rfl rfl ?_;simp[c132,c132r0,c132r1,c132r2,spans]
 have hbl:∀ i,i≤a.length→(cI (a.take i) b).length+b.length≤100000:=fun i hi=>by
  have h1:=aAR b (a.take i);have h2:(a.take i).length*b.length≤300*300:=Nat.mul_le_mul (by rw[List.length_take];omega) hb;omega
 refine W.dO (fun k st=>aW8 a b k st) a.length ⟨0,by simp,by simp,by simp[spans],by simp[spans],by simp[spans],by simp,by simp,.inl ⟨by simp[cI],by simp⟩⟩ ?_;rintro k st ⟨i,hk,hi,h0,h1,h12,h13,h14,h5⟩;rcases Nat.lt_or_ge i a.length with hlt | hge
 ·have gF:(i:Int)<a.length:=by omega
  have hw:IntKind.i64.wrap ((i:Int)+1)=((i+1:Nat):Int):=aH _ (by omega) (by omega);obtain⟨x,hx⟩:∃ x,x=a[i]:=⟨_,rfl⟩;simp[c132b14,c132r3,c132r4,c132r5,h1,h12,h13,h14,hlt,gF,spans,spr,←hx];refine aIB x b (st.nx+1+2) (cI (a.take i) b) (hbl i hi) _ (by simp) ⟨by simp,?_,by simp,by simp⟩ (by simp<;>omega) (by simp[spans]) (by simp) (by simp) (by simpa using((h5.set (by omega)).set (by omega)).more (by omega) (.inl (by omega))) fun st' u5 un u0 u1 u12 u13 u14=>?_
  ·rw[dW,if_pos rfl];simp[cell]
  simp[h0,h1,h12,h13,h14]at u0 u1 u12 u13 u14;simp[c132r12,u14,hw];refine⟨a.length - (i+1),by omega,i+1,rfl,by omega,by simp[u0],by simp[u1],by simp[u12],by simp[u13],by simp,?_⟩
  have e:cI (a.take (i+1)) b=cI (a.take i) b++b.flatMap (meet x):=by
   rw[take_one hlt];unfold cI;rw[List.flatMap_append,hx];simp
  rw[e];simpa using u5.more (by simp) (.inl (by simp))
 ·have hi':i=a.length:=by omega
  subst hi';have gF:¬ (a.length:Int)<a.length:=by omega
  simp at h5;have hN:=vH (cI a b) hs (aL0 hoa hob);simp[c132b14,c132r3,h13,h14,c132r13];rcases h5 with⟨e,h5⟩ | ⟨_,id,ver,_,_,h5,q1,q2,q3,q4⟩
  ·rw[e]at hN ⊢;rw[h5];refine aD.pure hN (by simp) (by simp[spans]) ?_;simp[aC,spans]
  ·have e1:((cI a b).map spr).length=(cI a b).length:=by simp
   rw[h5,←e1];have q2':st.heap.rows id=((cI a b).map spr).map (·.map .t):=by rw[q2,List.map_map];rfl
   refine aD.pure hN (by simpa using jZ q1 q3 q2') (by simp only[List.map_cons,List.map_nil,D.frz,mS q2',spans]) ?_;simp[aC,spans]
theorem Data.congr{h h':Hp}{id ver:Nat}{d:Array Sp}(hd:Data h id ver d)(e:h' id=h id):Data h' id ver d:=by
 obtain⟨a,b,c,f⟩:=hd;refine⟨?_,?_,?_,?_⟩
 ·unfold Ab.alive at*; rw[e];exact a
 ·unfold Hp.rows at*; rw[e];exact b
 ·unfold Hp.sz at*; rw[e];exact c
 ·unfold Hp.shut at*; rw[e];exact f
def uY(d:D)(h:Hp)(nx:Nat)(acc:List Sp)(base did:Nat):Prop:=
 (acc=[]∧d= .one (.tt 2 []))∨(acc≠[]∧∃id ver,base≤id∧id<nx∧id≠did∧d= .one (.ref id ver 0 acc.length 2 false)∧alive h id ver∧h.rows id=acc.map cell∧h.sz id=2∧h.shut id=false)
theorem uY.more{d:D}{h:Hp}{nx nx' base did did':Nat}{acc:List Sp}(ho:uY d h nx acc base did)(hn:nx≤nx')(hd:nx≤did'∨did'<base∨did'=did):uY d h nx' acc base did':=by
 rcases ho with ho | ⟨h1,id,ver,h2,h3,h4⟩
 ·exact .inl ho
 ·exact .inr ⟨h1,id,ver,h2,by omega,by omega,h4.2⟩
theorem uY.set{d:D}{h:Hp}{nx base did j:Nat}{o:O}{acc:List Sp}(ho:uY d h nx acc base did)(hj:nx≤j):uY d (h.set j o) nx acc base did:=by
 rcases ho with ho | ⟨h1,id,ver,h2,h3,h3',h4,h5,h6,h7,h8⟩
 ·exact .inl ho
 ·have hne:id≠j:=by omega
  refine .inr ⟨h1,id,ver,h2,h3,h3',h4,?_,?_,?_,?_⟩
  ·unfold Ab.alive Hp.set at*; rw[if_neg hne];exact h5
  ·unfold Hp.rows Hp.set at*; rw[if_neg hne];exact h6
  ·unfold Hp.sz Hp.set at*; rw[if_neg hne];exact h7
  ·unfold Hp.shut Hp.set at*; rw[if_neg hne];exact h8
theorem bM{h:Hp}{j id:Nat}{o:O}(hne:id≠j):(h.set j o) id=h id:=by simp[Hp.set,hne]
structure aFY (x y:Sp) (bx bY base:Nat) (acc:List Sp) (h:Hp) (nx:Nat) (tm:Nat→D):Prop where
 t9:tm 9= .one (.ptr ⟨bx,0,2,0,0⟩)
 t6:tm 6= .one (.ptr ⟨bY,0,2,0,0⟩)
 dx:Data h bx 0 #[x]
 dy:Data h bY 0 #[y]
 bxb:base≤bx
 bxn:bx<nx
 byb:bY<base
 out:uY (tm 7) h nx acc base bx
 len:acc.length≤100000
def pI(tm tm':Nat→D):Prop:=tm' 1=tm 1∧tm' 6=tm 6∧tm' 10=tm 10∧tm' 11=tm 11∧tm' 12=tm 12∧tm' 16=tm 16∧tm' 17=tm 17∧tm' 18=tm 18∧tm' 9=tm 9
theorem aW9{n:Nat}{A:Exit→St→Prop}{ks:List KF}{x y:Sp}{bx bY base:Nat}{acc:List Sp}{tm:Nat→D}{h:Hp}{nx nx':Nat}(cs:aFY x y bx bY base acc h nx tm)(_hx:bad x=false)(hy:bad y=false)(hnx:nx'=nx+13)
  (K:∀ tm' h',aFY x y bx bY base (acc++[(x.1,min x.2 (y.1 - 1))]) h' nx' tm'∨100000<acc.length+1→(∀id,id<base→h' id=h id)→pI tm tm'→cS prog n A ks .normal ⟨tm',h',nx'⟩):
  iP prog false nx c102r9 (oQ (kont prog n A ks) nx') 0 tm h:=by
 obtain⟨t9,t6,dx,dy,bxb,bxn,byb,out,len⟩:=cs;have rx:h.rows bx=[cell x]:=by rw[dx.rows];rfl
 have ry:h.rows bY=[cell y]:=by rw[dy.rows];rfl
 simp[bad]at hy;have hw:IntKind.i64.wrap (y.1 - 1)=y.1 - 1:=wrap_i64 (by omega) (by omega);have hmin:(if y.1 - 1<x.2 then y.1 - 1 else x.2)=min x.2 (y.1 - 1):=by rw[Int.min_def];split<;>split<;>omega
 rcases out with⟨rfl,out⟩ | ⟨hne,id,ver,h2,h3,h3',h4,h5,h6,h7,h8⟩
 ·simp[c102r9,t9,t6,dx.alive,dx.sz,rx,dy.alive,dy.sz,ry,cell,hw,hmin,out];refine K _ _ (.inl ⟨by simp[t9],by simp[t6],dx.set (by omega),dy.set (by omega),bxb,by omega,byb,.inr ⟨by simp,_,0,?_,?_,?_,by simp;rfl,by simp,?_,by simp,by simp⟩,by simp⟩) (fun id hid=>bM (by omega)) (by simp[pI])
  ·omega
  ·omega
  ·omega
  ·rw[dW,if_pos rfl];rfl
 ·have xO:(h.rows id).length=acc.length:=by rw[h6];simp
  simp[c102r9,t9,t6,dx.alive,dx.sz,rx,dy.alive,dy.sz,ry,cell,hw,hmin,h4,h5,h7,xO];refine⟨by omega,K _ _ ?_ (fun id hid=>bM (by omega)) (by simp[pI])⟩;rcases Nat.lt_or_ge 100000 (acc.length+1)with hb | hb
  ·exact .inr hb
  ·refine .inl ⟨by simp[t9],by simp[t6],dx.set (by omega),dy.set (by omega),bxb,by omega,byb,.inr ⟨by simp,id,ver+1,h2,by omega,h3',by simp,by simp,?_,by simp,by simp[h8]⟩,by simpa using hb⟩;rw[dW,if_pos rfl,h6];simp[cell]
theorem aWA{n:Nat}{A:Exit→St→Prop}{ks:List KF}{x y:Sp}{bx bY base:Nat}{acc:List Sp}{tm:Nat→D}{h:Hp}{nx nx':Nat}(cs:aFY x y bx bY base acc h nx tm)(_hx:bad x=false)(hy:bad y=false)(hnx:nx'=nx+13)
  (K:∀ tm' h',aFY x y bx bY base (acc++[(max x.1 (y.2+1),x.2)]) h' nx' tm'∨100000<acc.length+1→(∀id,id<base→h' id=h id)→pI tm tm'→cS prog n A ks .normal ⟨tm',h',nx'⟩):
  iP prog false nx c102r11 (oQ (kont prog n A ks) nx') 0 tm h:=by
 obtain⟨t9,t6,dx,dy,bxb,bxn,byb,out,len⟩:=cs;have rx:h.rows bx=[cell x]:=by rw[dx.rows];rfl
 have ry:h.rows bY=[cell y]:=by rw[dy.rows];rfl
 simp[bad]at hy;have hw:IntKind.i64.wrap (y.2+1)=y.2+1:=wrap_i64 (by omega) (by omega);have hmax:(if x.1<y.2+1 then y.2+1 else x.1)=max x.1 (y.2+1):=by rw[Int.max_def];split<;>split<;>omega
 rcases out with⟨rfl,out⟩ | ⟨hne,id,ver,h2,h3,h3',h4,h5,h6,h7,h8⟩
 ·simp[c102r11,t9,t6,dx.alive,dx.sz,rx,dy.alive,dy.sz,ry,cell,hw,hmax,out];refine K _ _ (.inl ⟨by simp[t9],by simp[t6],dx.set (by omega),dy.set (by omega),bxb,by omega,byb,.inr ⟨by simp,_,0,?_,?_,?_,by simp;rfl,by simp,?_,by simp,by simp⟩,by simp⟩) (fun id hid=>bM (by omega)) (by simp[pI])
  ·omega
  ·omega
  ·omega
  ·rw[dW,if_pos rfl];rfl
 ·have xO:(h.rows id).length=acc.length:=by rw[h6];simp
  simp[c102r11,t9,t6,dx.alive,dx.sz,rx,dy.alive,dy.sz,ry,cell,hw,hmax,h4,h5,h7,xO];refine⟨by omega,K _ _ ?_ (fun id hid=>bM (by omega)) (by simp[pI])⟩;rcases Nat.lt_or_ge 100000 (acc.length+1)with hb | hb
  ·exact .inr hb
  ·refine .inl ⟨by simp[t9],by simp[t6],dx.set (by omega),dy.set (by omega),bxb,by omega,byb,.inr ⟨by simp,id,ver+1,h2,by omega,h3',by simp,by simp,?_,by simp,by simp[h8]⟩,by simpa using hb⟩;rw[dW,if_pos rfl,h6];simp[cell]
theorem aGP{n:Nat}{A:Exit→St→Prop}{ks:List KF}{J:St→Prop}{x y:Sp}{bx bY base:Nat}{acc:List Sp}{tm:Nat→D}{h:Hp}{nx:Nat}{i:Nat}(cs:aFY x y bx bY base acc h nx tm)(hx:bad x=false)(hy:bad y=false)(hlen:acc.length+2≤100000)(hi:i≤100000)(h18:tm 18= .one (.t (I i)))
  (K:∀ st':St,uY (st'.tmps 7) st'.heap st'.nx (acc++iL y x) base st'.nx→(∀id,id<base→st'.heap id=h id)→nx≤st'.nx→st'.tmps 1=tm 1→st'.tmps 6=tm 6→st'.tmps 10=tm 10→st'.tmps 11=tm 11→st'.tmps 12=tm 12→st'.tmps 16=tm 16→st'.tmps 17=tm 17→st'.tmps 18= .one (.t (I ((i+1:Nat):Int)))→J st'):
  iP prog false nx c102r8 (oQ (kont prog n A (.thn (.cond (X.tmp 26) (.region 9 false 13 c102r9) .skip):: .thn (.seq (.region 10 false 5 c102r10) (.cond (X.tmp 43) (.region 11 false 13 c102r11) .skip)):: .blk 3:: .thn (.region 12 false 2 c102r12):: .post J::ks)) (nx+5)) 0 tm h:=by
 have cs0:=cs;obtain⟨t9,t6,dx,dy,bxb,bxn,byb,out,len⟩:=cs;have rx:h.rows bx=[cell x]:=by rw[dx.rows];rfl
 have ry:h.rows bY=[cell y]:=by rw[dy.rows];rfl
 have hw:IntKind.i64.wrap ((i:Int)+1)=((i+1:Nat):Int):=aH _ (by omega) (by omega)
 -- the second half
 have second:∀ (acc':List Sp) (tm':Nat→D) (h':Hp) (nx':Nat),aFY x y bx bY base acc' h' nx' tm'→acc'.length≤acc.length+1→(acc'++(if y.2<x.2 then[(max x.1 (y.2+1),x.2)] else[])=acc++iL y x)→(∀id,id<base→h' id=h id)→nx≤nx'→pI tm tm'→
   iP prog false nx' c102r10 (oQ (kont prog n A (.thn (.cond (X.tmp 43) (.region 11 false 13 c102r11) .skip):: .blk 3:: .thn (.region 12 false 2 c102r12):: .post J::ks)) (nx'+5)) 0 tm' h':=by
  intro acc' tm' h' nx' cs' hl he hk hn kt;have cs1:=cs';obtain⟨t9',t6',dx',dy',_,bxn',_,out',len'⟩:=cs';have rx':h'.rows bx=[cell x]:=by rw[dx'.rows];rfl
  have ry':h'.rows bY=[cell y]:=by rw[dy'.rows];rfl
  obtain⟨k1,k6,k10,k11,k12,k16,k17,k18,k9⟩:=kt;simp[c102r10,t9',t6',dx'.alive,dx'.sz,rx',dy'.alive,dy'.sz,ry',cell];constructor
  ·intro hlt;rw[if_pos hlt]at he;refine aWA (acc:=acc') ⟨by simp[t9'],by simp[t6'],dx',dy',bxb,by omega,byb,by simpa using out'.more (by omega) (.inr (.inr rfl)),len'⟩ hx hy rfl fun tm2 h2 c2 hk2 kt2=>?_
   obtain⟨j1,j6,j10,j11,j12,j16,j17,j18,j9⟩:=kt2;simp at j1 j6 j10 j11 j12 j16 j17 j18;rcases c2 with c2 | c2
   ·simp[c102r12,j18,k18,h18,hw];refine K _ ?_ (fun id hid=>(hk2 id hid).trans (hk id hid)) (by simp;omega) (by simp[j1,k1]) (by simp[j6,k6]) (by simp[j10,k10]) (by simp[j11,k11]) (by simp[j12,k12]) (by simp[j16,k16]) (by simp[j17,k17]) (by simp);rw[←he];simpa using c2.out.more (by omega) (.inl (by omega))
   ·omega
  ·intro hge;rw[if_neg (by omega)]at he;simp[c102r12,k18,h18,hw];refine K _ ?_ hk (by simp;omega) (by simp[k1]) (by simp[k6]) (by simp[k10]) (by simp[k11]) (by simp[k12]) (by simp[k16]) (by simp[k17]) (by simp);rw[←he];simpa using out'.more (by omega) (.inl (by omega))
 simp[c102r8,t9,t6,dx.alive,dx.sz,rx,dy.alive,dy.sz,ry,cell];constructor
 ·intro hlt;refine aW9 (acc:=acc) ⟨by simp[t9],by simp[t6],dx,dy,bxb,by omega,byb,by simpa using out.more (by omega) (.inr (.inr rfl)),len⟩ hx hy rfl fun tm2 h2 c2 hk2 kt2=>?_
  obtain⟨j1,j6,j10,j11,j12,j16,j17,j18,j9⟩:=kt2;simp at j1 j6 j10 j11 j12 j16 j17 j18 j9;rcases c2 with c2 | c2
  ·simp;refine second (acc++[(x.1,min x.2 (y.1 - 1))]) tm2 h2 _ c2 (by simp) (by simp[iL,hlt]) hk2 (by omega) ⟨j1,j6,j10,j11,j12,j16,j17,j18,j9⟩
  ·omega
 ·intro hge;have hng:¬ x.1<y.1:=by omega
  exact second acc _ h _ ⟨by simp[t9],by simp[t6],dx,dy,bxb,by omega,byb,by simpa using out.more (by omega) (.inr (.inr rfl)),len⟩ (by omega) (by simp[iL,hng]) (fun _ _=>rfl) (by omega) (by simp[pI])
theorem Asc.left:∀ {a b:List Sp},Asc (a++b)→Asc a
 | [],_,_=>trivial
 | x::a,b,h=>⟨h.1,fun y hy=>h.2.1 y (by simp[hy]),Asc.left h.2.2⟩
theorem Asc.take{a:List Sp}(h:Asc a)(j:Nat):Asc (a.take j):=Asc.left (b:=a.drop j) (by rw[List.take_append_drop];exact h)
def Cur(d:D)(h:Hp)(base:Nat)(l:List Sp):Prop:=
 d= .one (.t (spans l))∨(l=[]∧d= .one (.tt 2 []))∨∃id ver,id<base∧d= .one (.ref id ver 0 l.length 2 false)∧Data h id ver l.toArray
def CIn(y:Sp)(cur:List Sp)(base:Nat)(st:St)(k:Nat)(st1:St):Prop:=
 ∃j:Nat,k=cur.length - j∧j≤cur.length∧(∀id,id<base→st1.heap id=st.heap id)∧st.nx≤st1.nx∧uY (st1.tmps 7) st1.heap st1.nx (iU (cur.take j) y) base st1.nx∧
  st1.tmps 1=st.tmps 1∧st1.tmps 6=st.tmps 6∧st1.tmps 10=st.tmps 10∧st1.tmps 11=st.tmps 11∧st1.tmps 12=st.tmps 12∧st1.tmps 16=st.tmps 16∧st1.tmps 17=st.tmps 17∧st1.tmps 18= .one (.t (I j))
theorem xQ{n:Nat}{A:Exit→St→Prop}{ks:List KF}(y:Sp)(cur:List Sp)(bY base:Nat)(st:St)(hcur:Cur (st.tmps 16) st.heap base cur)(h17:st.tmps 17= .one (.t (I cur.length)))(h18:st.tmps 18= .one (.t (I 0)))(h7:st.tmps 7= .one (.tt 2 []))
  (h6:st.tmps 6= .one (.ptr ⟨bY,0,2,0,0⟩)) (dy:Data st.heap bY 0 #[y]) (byb:bY<base) (hbase:base≤st.nx) (hA:Asc cur) (hok:∀ x∈cur,bad x=false) (hy:bad y=false) (hlen:cur.length≤50000)
  (K:∀ st':St,uY (st'.tmps 7) st'.heap st'.nx (iU cur y) base st'.nx→(∀id,id<base→st'.heap id=st.heap id)→st.nx≤st'.nx→st'.tmps 1=st.tmps 1→st'.tmps 10=st.tmps 10→st'.tmps 11=st.tmps 11→st'.tmps 12=st.tmps 12→cS prog n A ks .normal st'):
  W prog n (.loop c102b13) (kont prog n A (.blk 2::ks)) st:=by
 have hyv:y.1≤y.2:=by simp[bad]at hy;omega
 refine W.dO (fun k st1=>CIn y cur base st k st1) cur.length ⟨0,by simp,by simp,fun _ _=>rfl,Nat.le_refl _,.inl ⟨by simp[iU],h7⟩,rfl,rfl,rfl,rfl,rfl,rfl,rfl,h18⟩ ?_;rintro k st1 ⟨j,hk,hj,hh,hnx,h7,e1,e6,e10,e11,e12,e16,e17,e18⟩;rw[h6]at e6;rw[h17]at e17;rcases Nat.lt_or_ge j cur.length with hlt | hge
 ·have gF:(j:Int)<cur.length:=by omega
  obtain⟨x,hx⟩:∃ x,x=cur[j]:=⟨_,rfl⟩;have hbx:bad x=false:=hok x (by rw[hx];exact gL9 hlt);have hl:=xM (hA.take j) hyv;rw[List.length_take]at hl
  have hstep:iU (cur.take j) y++iL y x=iU (cur.take (j+1)) y:=by
   rw[take_one hlt];unfold iU;rw[List.flatMap_append,hx];simp
  have dy1:Data st1.heap bY 0 #[y]:=dy.congr (hh bY byb)
  have fin:∀ (st':St),uY (st'.tmps 7) st'.heap st'.nx (iU (cur.take j) y++iL y x) base st'.nx→(∀id,id<base→st'.heap id=st1.heap id)→st1.nx≤st'.nx→st'.tmps 1=st1.tmps 1→st'.tmps 6=st1.tmps 6→st'.tmps 10=st1.tmps 10→st'.tmps 11=st1.tmps 11→st'.tmps 12=st1.tmps 12→st'.tmps 16=st1.tmps 16→st'.tmps 17=st1.tmps 17→st'.tmps 18= .one (.t (I ((j+1:Nat):Int)))→∃k',k'<k∧CIn y cur base st k' st':=by
   intro st' u7 uh un u1 u6 u10 u11 u12 u16 u17 u18;rw[hstep]at u7;exact⟨cur.length - (j+1),by omega,j+1,rfl,by omega,fun id hid=>(uh id hid).trans (hh id hid),by omega,u7,u1.trans e1,u6.trans (e6.trans h6.symm),u10.trans e10,u11.trans e11,u12.trans e12,u16.trans e16,u17.trans (e17.trans h17.symm),u18⟩
  have boxed:∀ (d16:D) (tm:Nat→D),st1.tmps 16=d16→tm 9= .one (.ptr ⟨st1.nx+1+2,0,2,0,0⟩)→tm 6=st1.tmps 6→tm 7=st1.tmps 7→
    aFY x y (st1.nx+1+2) bY base (iU (cur.take j) y) ((st1.heap.set (st1.nx+1+2) (.arr 0 false 2 [[.t (.int .i64 0),.t (.int .i64 0)]])).set (st1.nx+1+2) (.arr 0 false 2 [[.t (I x.1),.t (I x.2)]])) (st1.nx+1+4) tm:=by
   intro d16 tm _ t9 t6 t7;refine⟨t9,by rw[t6,e6],⟨by simp,?_,by simp,by simp⟩,(dy1.set (by omega)).set (by omega),by omega,by omega,byb,?_,by omega⟩
   ·rw[dW,if_pos rfl];simp[cell]
   ·rw[t7];exact((h7.set (by omega)).set (by omega)).more (by omega) (.inl (by omega))
  have keep:∀ id,id<base→((st1.heap.set (st1.nx+1+2) (.arr 0 false 2 [[.t (.int .i64 0),.t (.int .i64 0)]])).set (st1.nx+1+2) (.arr 0 false 2 [[.t (I x.1),.t (I x.2)]])) id=st1.heap id:=fun id hid=>by rw[bM (by omega),bM (by omega)]
  have aSX:Cur (st1.tmps 16) st1.heap base cur:=by
   rw[e16];rcases hcur with h | h | ⟨id,ver,q1,q2,q3⟩
   ·exact .inl h
   ·exact .inr (.inl h)
   ·exact .inr (.inr ⟨id,ver,q1,q2,q3.congr (hh id q1)⟩)
  rcases aSX with h | ⟨h,_⟩ | ⟨id,ver,q1,q2,q3⟩
  ·simp[c102b13,c102r6,c102r7,h,e17,e18,spans,hlt,gF,spr,←hx];refine aGP (i:=j) (boxed _ _ h (by simp) (by simp) (by simp)) hbx hy (by omega) (by omega) (by simp[e18]) fun st' u7 uh un u1 u6 u10 u11 u12 u16 u17 u18=>?_
   simp at u1 u6 u10 u11 u12 u16 u17;exact fin st' u7 (fun id hid=>(uh id hid).trans (keep id hid)) (by omega) u1 u6 u10 u11 u12 u16 u17 u18
  ·rw[h]at hlt;simp at hlt
  ·have hja:j<cur.toArray.size:=by simpa using hlt
   have hln:(st1.heap.rows id).length=cur.length:=by rw[q3.rows];simp
   have g1:∀ hh,(st1.heap.rows id)[j]'hh=cell x:=fun hh=>by have:=rowAt q3 hja hh;rw[hx];simpa using this
   simp[c102b13,c102r6,c102r7,q2,e17,e18,hlt,gF,q3.alive,q3.sz,hln,g1,cell];refine aGP (i:=j) (boxed _ _ q2 (by simp) (by simp) (by simp)) hbx hy (by omega) (by omega) (by simp[e18]) fun st' u7 uh un u1 u6 u10 u11 u12 u16 u17 u18=>?_
   simp at u1 u6 u10 u11 u12 u16 u17;exact fin st' u7 (fun id hid=>(uh id hid).trans (keep id hid)) (by omega) u1 u6 u10 u11 u12 u16 u17 u18
 ·have hj':j=cur.length:=by omega
  subst hj';have gF:¬ (cur.length:Int)<cur.length:=by omega
  simp at h7;simp[c102b13,c102r6,e17,e18];exact K _ (by simpa using h7.more (by simp) (.inl (by simp))) hh (by simp;omega) (by simp[e1]) (by simp[e10]) (by simp[e11]) (by simp[e12])
def CB(b a:List Sp)(k:Nat)(st:St):Prop:=
 ∃i:Nat,k=b.length - i∧i≤b.length∧Cur (st.tmps 0) st.heap st.nx (bE a (b.take i))∧st.tmps 1= .one (.t (spans b))∧st.tmps 10= .one (.t (spans b))∧st.tmps 11= .one (.t (I b.length))∧st.tmps 12= .one (.t (I i))
theorem aE0{a b:List Sp}(hA:Asc a)(hb:∀ y∈b,y.1≤y.2)(hoa:∀ x∈a,bad x=false):∀ z∈bE a b,bad z=false:=by
 intro z hz;obtain⟨h1,_,h3⟩:=gT hA hb;obtain⟨x,hx,h4⟩:=h3 z hz;have h5:=h1.valid z hz;have h6:=hoa x hx;simp[bad]at h6 ⊢;omega
theorem aL2(a b:List Sp)(hs:(bE a b).length≤100000)(ha:a.length≤300)(hb:b.length≤300)(hA:Asc a)(hoa:∀ x∈a,bad x=false)(hob:∀ x∈b,bad x=false):PSp prog 102 [.one (.t (spans a)),.one (.t (spans b))] (.one (.t (spans (bK (bE a b))))):=by
 have hvb:∀ y∈b,y.1≤y.2:=fun y hy=>by have:=hob y hy;simp[bad]at this;omega
 have hpart:∀ i,Asc (bE a (b.take i))∧(bE a (b.take i)).length≤600∧∀z∈bE a (b.take i),bad z=false:=fun i=>by
  have hv:∀ y∈b.take i,y.1≤y.2:=fun y hy=>hvb y (List.mem_of_mem_take hy)
  obtain⟨h1,h2,_⟩:=gT (b:=b.take i) hA hv;refine⟨h1,?_,aE0 hA hv hoa⟩;rw[List.length_take]at h2;omega
 refine k102.aJ (by simp) rfl rfl ?_;simp[c102,c102r0,c102r1,spans];refine W.dO (fun k st=>CB b a k st) b.length ⟨0,by simp,by simp,.inl (by simp[bE,spans]),by simp[spans],by simp[spans],by simp,by simp⟩ ?_;rintro k st ⟨i,hk,hi,hcur,h1,h10,h11,h12⟩;obtain⟨pA,pl,pok⟩:=hpart i;rcases Nat.lt_or_ge i b.length with hlt | hge
 ·have gF:(i:Int)<b.length:=by omega
  have hw:IntKind.i64.wrap ((i:Int)+1)=((i+1:Nat):Int):=aH _ (by omega) (by omega);obtain⟨y,hy⟩:∃ y,y=b[i]:=⟨_,rfl⟩;have hby:bad y=false:=hob y (by rw[hy];exact gL9 hlt)
  have hstep:bE a (b.take (i+1))=iU (bE a (b.take i)) y:=by
   unfold bE;rw[take_one hlt,List.foldl_append,hy];rfl
  obtain⟨cur,hc⟩:∃ cur,cur=bE a (b.take i):=⟨_,rfl⟩;rw[←hc]at hcur pA pl pok hstep
  have next:∀ st':St,uY (st'.tmps 7) st'.heap st'.nx (iU cur y) (st.nx+1+4+1+3) st'.nx→st'.tmps 1= .one (.t (spans b))→st'.tmps 10= .one (.t (spans b))→st'.tmps 11= .one (.t (I b.length))→st'.tmps 12= .one (.t (I i))→
    cS prog 61 (aC [.tmp 4] (.one (.t (spans (bK (bE a b)))))) [.thn (.region 13 false 2 c102r13),.blk 1,.thn (.region 14 false 2 c102r14),.post fun st'=>∃ k',k'<k∧CB b a k' st',.blk 0,.thn (.seq (.region 15 false 3 c102r15) .ret)] .normal st':=by
   intro st' u7 u1 u10 u11 u12;simp[c102r13,c102r14,u12,hw];refine⟨b.length - (i+1),by omega,i+1,rfl,by omega,?_,by simp[u1],by simp[u10],by simp[u11],by simp⟩;rw[hstep];rcases u7 with⟨e,u7⟩ | ⟨_,id,ver,q0,q1,q2,q3,q4,q5,q6,q7⟩
   ·exact .inr (.inl ⟨e,by simp[u7]⟩)
   ·exact .inr (.inr ⟨id,ver,by simp;omega,by simp[q3],⟨q4,by simpa using q5,q6,q7⟩⟩)
  have hnx:st.nx+1+4+1+3=st.nx+9:=by omega
  have dyS:∀ (o:O),Data ((st.heap.set (st.nx+1+2) o).set (st.nx+1+2) (.arr 0 false 2 [[.t (I y.1),.t (I y.2)]])) (st.nx+1+2) 0 #[y]:=fun o=>⟨by simp,by rw[dW,if_pos rfl];simp[cell],by simp,by simp⟩
  rcases hcur with h | ⟨h,h'⟩ | ⟨id,ver,q1,q2,q3⟩
  ·simp[c102b16,c102r2,c102r3,c102r4,c102r5,h,h10,h11,h12,spans,hlt,gF,spr,←hy];refine xQ y cur (st.nx+1+2) (st.nx+1+4+1+3) _ (.inl (by simp[spans])) (by simp) (by simp) (by simp) (by simp) (dyS _) (by omega) (by simp) pA pok hby (by omega) fun st' u7 uh un u1 u10 u11 u12=>?_
   exact next st' u7 (by rw[u1];simp[h1]) (by rw[u10];simp[h10]) (by rw[u11];simp[h11]) (by rw[u12];simp[h12])
  ·subst h;simp[c102b16,c102r2,c102r3,c102r4,c102r5,h',h10,h11,h12,spans,hlt,gF,spr,←hy];refine xQ y [] (st.nx+1+2) (st.nx+1+4+1+3) _ (.inr (.inl ⟨rfl,by simp⟩)) (by simp) (by simp) (by simp) (by simp) (dyS _) (by omega) (by simp) pA pok hby (by simp) fun st' u7 uh un u1 u10 u11 u12=>?_
   exact next st' u7 (by rw[u1];simp[h1]) (by rw[u10];simp[h10]) (by rw[u11];simp[h11]) (by rw[u12];simp[h12])
  ·simp[c102b16,c102r2,c102r3,c102r4,c102r5,q2,h10,h11,h12,spans,hlt,gF,spr,←hy];refine xQ y cur (st.nx+1+2) (st.nx+1+4+1+3) _ (.inr (.inr ⟨id,ver,by omega,by simp,(q3.set (by omega)).set (by omega)⟩)) (by simp) (by simp) (by simp) (by simp) (dyS _) (by omega) (by simp) pA pok hby (by omega) fun st' u7 uh un u1 u10 u11 u12=>?_
   exact next st' u7 (by rw[u1];simp[h1]) (by rw[u10];simp[h10]) (by rw[u11];simp[h11]) (by rw[u12];simp[h12])
 ·have hi':i=b.length:=by omega
  subst hi';have gF:¬ (b.length:Int)<b.length:=by omega
  simp at hcur pl pok;have hN:=vH (bE a b) hs (fun x hx=>by have:=pok x.1 x.2 hx;simpa using this);rcases hcur with h | ⟨h,h'⟩ | ⟨id,ver,q1,q2,q3⟩
  ·simp[c102b16,c102r2,h11,h12,c102r15,h];refine aD.pure hN (by simp) (by simp[spans]) ?_;simp[aC,spans]
  ·rw[h]at hN ⊢;simp[c102b16,c102r2,h11,h12,c102r15,h'];refine aD.pure hN (by simp) (by simp[spans]) ?_;simp[aC,spans]
  ·have e1:((bE a b).map spr).length=(bE a b).length:=by simp
   simp[c102b16,c102r2,h11,h12,c102r15,q2];rw[←e1];have q2':st.heap.rows id=((bE a b).map spr).map (·.map .t):=by rw[q3.rows,List.map_map];rfl
   refine aD.pure hN (by simpa using jZ q3.alive q3.sz q2') (by simp only[List.map_cons,List.map_nil,D.frz,mS q2',spans]) ?_;simp[aC,spans]
theorem aSY(m:Nat)(hm:0<m)(hm2:m≤100000)(h:Hp)(n0:Nat)(ho:aF h n0):
  ISp prog 162 h n0 [.one (.tt 2 []),.one (.t (I m))] (.one (.ref n0 1 0 0 2 false)) (aR h n0 1 #[]):=by
 refine k162.aOP (by simp) ?_;have w0:IntKind.i64.wrap (0:Int)=0:=wrap_i64 (by omega) (by omega);have w1:IntKind.i64.wrap (m:Int)=m:=wrap_i64 (by omega) (by omega);have hneg:¬ (m:Int)<0:=by omega
 have hpos:(0:Int)<m:=by omega
 simp[c162,c162r0,c162r1,c162r3,c162r4,c162r5,c162r6,hneg,hm,w0,w1,D.aII,D.vB,D.trunc,D.rL];refine⟨⟨by omega,by omega⟩,n0+1+2+8+2+5,.inr rfl,⟨by simp,by simp⟩,⟨.ref (n0+1+2+8+2+5) 1 0 0 2 false,rfl,by simp[A.only],by simp[A.ren,rY]⟩,by omega,fun id hid=>?_,?_,⟨.arr 1 false 2 [],by simp[Hp.set]⟩,fun id hid=>?_,fun id o hid=>?_⟩
 ·simp only[aR,Hp.set];rw[if_neg (by omega),if_neg (by omega),if_neg (by omega)]
 ·simp only[aR,Hp.set,if_true];rfl
 ·simp only[aR,Hp.set];rw[if_neg (by omega)];exact ho.above id (by omega)
 ·simp only[aR,Hp.set]at hid;split at hid
  ·simp only[sI9]at hid;subst hid;simp[O.below]
  ·exact ho.below id o hid
theorem aQ2(h:Hp)(n0:Nat)(ho:aF h n0):ISp prog 162 h n0 [.one (.tt 2 []),.one (.t (I 0))] (.one (.tt 2 [])) h:=by
 refine k162.ttK (by simp) ?_;have w0:IntKind.i64.wrap (0:Int)=0:=wrap_i64 (by omega) (by omega);simp[c162,c162r0,c162r1,c162r3,c162r4,c162r6,w0,D.aII];exact⟨.inr rfl,⟨by simp,by simp⟩,rfl,⟨2,[],rfl⟩,fun _ _=>rfl,ho.above,ho.below⟩
def lists(ls:List (List Sp)):T:= .rows 1 (ls.map fun l=>[spans l])
def aSZ(d:D)(h:Hp)(nx:Nat)(acc:List Sp)(tot:Nat):Prop:=
 (tot=0∧acc=[]∧d= .one (.tt 2 []))∨(0<tot∧∃id ver,id<nx∧d= .one (.ref id ver 0 acc.length 2 false)∧Data h id ver acc.toArray)
def CC1(ls:List (List Sp))(k:Nat)(st:St):Prop:=
 ∃i:Nat,k=ls.length - i∧i≤ls.length∧st.heap=jA∧st.tmps 0= .one (.t (lists ls))∧st.tmps 9= .one (.t (lists ls))∧st.tmps 10= .one (.t (I ls.length))∧st.tmps 11= .one (.t (I i))∧st.tmps 3= .one (.t (I ((ls.take i).flatten.length:Nat)))
def CC2(ls:List (List Sp))(k:Nat)(st:St):Prop:=
 ∃i:Nat,k=ls.length - i∧i≤ls.length∧st.tmps 25= .one (.t (lists ls))∧st.tmps 26= .one (.t (I ls.length))∧st.tmps 27= .one (.t (I i))∧aSZ (st.tmps 6) st.heap st.nx (ls.take i).flatten ls.flatten.length
theorem aAS{b:List (List Sp)}{j:Nat}(h:j<b.length):(b.take (j+1)).flatten=(b.take j).flatten++b[j]:=by rw[List.take_add_one,gE9 h,List.flatten_append];simp
theorem sQ(ls:List (List Sp))(i:Nat):(ls.take i).flatten.length≤ls.flatten.length:=by
 have:=congrArg List.length (congrArg List.flatten (List.take_append_drop i ls));rw[List.flatten_append,List.length_append]at this;omega
theorem aNR(ls:List (List Sp))(hl:ls.flatten.length≤100000)(hl2:ls.length≤100000):PSp prog 131 [.one (.t (lists ls))] (.one (.t (spans ls.flatten))):=by
 refine k131.aJ (by simp) rfl rfl ?_;simp[c131,c131r0,c131r1,c131r2,lists];refine W.dO (fun k st=>CC1 ls k st) ls.length ⟨0,by simp,by simp,by simp,by simp[lists],by simp[lists],by simp,by simp,by simp⟩ ?_;rintro k st ⟨i,hk,hi,hh,h0,h9,h10,h11,h3⟩;have hpi:=sQ ls i;rcases Nat.lt_or_ge i ls.length with hlt | hge
 ·have gF:(i:Int)<ls.length:=by omega
  have aQ3:=sQ ls (i+1);have hstep:=aAS hlt;obtain⟨l,hle⟩:∃ l,l=ls[i]:=⟨_,rfl⟩;obtain⟨t,ht⟩:∃ t:Nat,t=(ls.take i).flatten.length:=⟨_,rfl⟩;obtain⟨t1,ht1⟩:∃ t:Nat,t=(ls.take (i+1)).flatten.length:=⟨_,rfl⟩;have hsum:t1=t+l.length:=by rw[ht1,hstep,List.length_append,ht,hle]
  rw[←ht]at h3 hpi;rw[←ht1]at aQ3;have hw:IntKind.i64.wrap ((i:Int)+1)=((i+1:Nat):Int):=aH _ (by omega) (by omega);have hw2:IntKind.i64.wrap ((t:Int)+l.length)=(t1:Int):=aH _ (by omega) (by omega);have hng:¬ (t1:Int)<0:=by omega
  simp[c131b9,c131r3,c131r4,c131r5,c131r6,c131r8,h9,h10,h11,h3,lists,hlt,gF,←hle,spans,hw,hw2,hng];exact⟨ls.length - (i+1),by omega,i+1,rfl,by omega,by simp[hh],by simp[h0,lists],by simp[h9,lists],by simp[h10],by simp,by simp[ht1]⟩
 ·have hi':i=ls.length:=by omega
  subst hi';have gF:¬ (ls.length:Int)<ls.length:=by omega
  rw[List.take_length]at h3;obtain⟨t,ht⟩:∃ t:Nat,t=ls.flatten.length:=⟨_,rfl⟩;rw[←ht]at h3 hl;have ho0:∀ n,aF jA n:=fun n=>⟨fun _ _=>rfl,fun id o h=>by cases h⟩
  have after:∀ (d:D) (g:Hp) (tm:Nat→D) (nx:Nat),tm 0= .one (.t (lists ls))→tm 6=d→aSZ d g nx [] t→
    aY prog 36 (aC [.tmp 2] (.one (.t (spans ls.flatten)))) (.seq (.seq (.region 10 false 3 c131r10) (.block 2 (.loop c131b16))) (.seq (.region 15 false 2 c131r15) .ret)) [] ⟨tm,g,nx⟩:=by
   intro d g tm nx u0 u6 uo;simp[c131r10,u0,lists];refine W.dO (fun k st=>CC2 ls k st) ls.length ⟨0,by simp,by simp,by simp[lists],by simp,by simp,?_⟩ ?_
   ·rw[←ht];rcases uo with⟨a,b,c⟩ | ⟨a,id,ver,b,c,e⟩
    ·exact .inl ⟨a,by simp,by simp[u6,c]⟩
    ·exact .inr ⟨a,id,ver,by simp;omega,by simp[u6,c],by simpa using e⟩
   rintro k st2 ⟨i,hk,hi,h25,h26,h27,h6⟩;have hpi:=sQ ls i;rcases Nat.lt_or_ge i ls.length with hlt | hge
   ·have gF:(i:Int)<ls.length:=by omega
    have aQ3:=sQ ls (i+1);have hstep:=aAS hlt;obtain⟨l,hle⟩:∃ l,l=ls[i]:=⟨_,rfl⟩;rw[←hle]at hstep;obtain⟨acc,hacc⟩:∃ acc,acc=(ls.take i).flatten:=⟨_,rfl⟩;rw[←hacc]at h6 hstep hpi;rw[hstep,List.length_append]at aQ3;have hw:IntKind.i64.wrap ((i:Int)+1)=((i+1:Nat):Int):=aH _ (by omega) (by omega);rcases h6 with⟨a,b,c⟩ | ⟨a,id,ver,b,c,e⟩
    ·have hlz:l=[]:=List.eq_nil_of_length_eq_zero (by omega);rw[hlz]at hle hstep;simp[c131b16,c131r11,c131r12,c131r13,c131r14,h25,h26,h27,c,lists,hlt,gF,←hle,spans,hw];exact⟨ls.length - (i+1),by omega,i+1,rfl,by omega,by simp[h25,lists],by simp[h26],by simp,.inl ⟨a,by rw[hstep];simp[b],by simp⟩⟩
    ·have hln:(st2.heap.rows id).length=acc.length:=by rw[e.rows];simp
     simp[c131b16,c131r11,c131r12,c131r13,c131r14,h25,h26,h27,c,lists,hlt,gF,←hle,spans,hw,e.alive,e.sz,hln];refine⟨by omega,ls.length - (i+1),by omega,i+1,rfl,by omega,by simp[h25,lists],by simp[h26],by simp,.inr ⟨a,id,ver+1,by simp;omega,by rw[hstep];simp,⟨by simp,?_,by simp,by simp[e.open_]⟩⟩⟩;rw[dW,if_pos rfl,e.rows,hstep];simp[cell,spr]
   ·have hi':i=ls.length:=by omega
    subst hi';have gF:¬ (ls.length:Int)<ls.length:=by omega
    rw[List.take_length]at h6;simp[c131b16,c131r11,h26,h27,c131r15,aC];rcases h6 with⟨a,b,c⟩ | ⟨a,id,ver,b,c,e⟩
    ·rw[c,b];simp[spans]
    ·have e1:(ls.flatten.map spr).length=ls.flatten.length:=List.length_map _;rw[c,←e1];have q2':st2.heap.rows id=(ls.flatten.map spr).map (·.map .t):=by rw[e.rows,List.map_map];rfl
     refine⟨jZ e.alive e.sz q2',?_⟩;simp only[mS q2',spans]
  by_cases ht0:t=0
  ·subst ht0;have h3':st.tmps 3= .one (.t (I 0)):=by rw[h3];rfl
   simp[c131b9,c131r3,h10,h11,c131r9,h3',hh];refine aD.imp (aQ2 jA _ (ho0 _)) ?_;simp only[vU];exact after (.one (.tt 2 [])) _ _ _ h0 rfl (.inl ⟨rfl,rfl,rfl⟩)
  ·simp[c131b9,c131r3,h10,h11,c131r9,h3,hh];refine aD.imp (aSY t (by omega) (by omega) jA _ (ho0 _)) ?_;simp only[vU];exact after (.one (.ref _ 1 0 0 2 false)) _ _ _ h0 rfl (.inr ⟨by omega,_,1,by omega,rfl,bD⟩)
theorem aL3(a b:List Sp)(hs:a.length+b.length≤100000)(hoa:∀ x∈a,bad x=false)(hob:∀ x∈b,bad x=false):PSp prog 86 [.one (.t (I 0)),.one (.t (spans a)),.one (.t (spans b))] (.one (.t (spans (bK (a++b))))):=by
 refine k86.aJ (by simp) rfl rfl ?_;simp[c86,c86r0,c86r1,c86r2,c86r3,spans];have hc:=aNR [a,b] (by simp;omega) (by simp);simp[spans]at hc;refine aD.pure hc (by simp) (by simp[lists,spans]) ?_;have hn:=vH (a++b) (by simp;omega) (fun x hx=>by rcases List.mem_append.1 hx with h | h;exact hoa x h;exact hob x h);simp[spans]at hn;simp;refine aD.pure hn (by simp) (by simp) ?_;simp[aC]
section
attribute [local simp] bB aN aS aI aU aO aX tyC fdC vlC ndC aL D.cO D.pt
theorem aL4{bg:List Nat}{i:Nat}{x:Nd}(N:xA bg i x.args){k:Nat}(h:k<x.args.length):x.args[k]? =some ((aG x k:Nat):Int):=by
 obtain⟨c,c1,_,_⟩:=N.arg _ (gL9 h);simp only[aG,List.getD_eq_getElem?_getD,gE9 h,Option.getD_some,c1];simp
end
section
attribute [local simp] bB aN aS aI aU aO aX tyC fdC vlC ndC aL D.cO D.pt
attribute [local simp] c80 in
theorem P80(t:Ty)(hn:t.narrow=true):PSp prog 80 [.agg (tyC t)] (.one (.t (I (dM t).2))):=by
 refine k80.aJ (by simp) (by simp[D.closed,A.closed]) rfl ?_;have p:=P14 t hn;generalize dM t=R at*;simp -implicitDefEqProofs [-aA,-gval];refine aD.tree p rfl ?_;simp -implicitDefEqProofs [-aA,-gval,aC]
attribute [local simp] c29 in
theorem P29(t:Ty)(hn:t.narrow=true):PSp prog 29 [.agg (tyC t)] (.one (.t (I (qD t).2))):=by
 refine k29.aJ (by simp) (by simp[D.closed,A.closed]) rfl ?_;have p:=P16 t hn;generalize qD t=R at*;simp -implicitDefEqProofs [-aA,-gval];refine aD.tree p rfl ?_;simp -implicitDefEqProofs [-aA,-gval,aC]
def jN:List Sp:=[(-1152921504606846976,1152921504606846976)]
def kA(t:Ty):List Sp:=if t.limits.length==0 then(if t.kind==2 then jN else[(0,40)])else spL t.limits t.limits.length (t.limits.length - 1)
def aL5(t:Ty):List Sp:=if t.limits.length==0 then(if t.kind==2 then jN else[(0,40)])else if t.kind==2 then nuR t.limits t.limits.length (t.limits.length - 1)else szR t.limits t.limits.length (t.limits.length - 1)
attribute [local simp] c82 in
theorem P82(t:Ty)(hl:t.limits.length≤40)(h90:t.limits.length≠0→PSp prog 90 [.one (.t (aI t.limits)),.one (.t (I ((t.limits.length - 1:Nat):Int)))] (.one (.t (spans (spL t.limits t.limits.length (t.limits.length - 1)))))):
  PSp prog 82 [.agg (tyC t)] (.one (.t (spans (kA t)))):=by
 refine k82.aJ (by simp) (by simp[D.closed,A.closed]) rfl ?_
 by_cases z:t.limits.length=0
 ·have zI:¬ 0<t.limits.length:=by omega
  rcases eqCases t.kind 2 with k2 | k2
  ·have e:kA t=jN:=by simp[kA,z,k2]
   rw[e];simp -implicitDefEqProofs [-aA,-gval,z,k2,aC,spans,spr,jN]
  ·have e:kA t=[(0,40)]:=by simp[kA,z,k2]
   rw[e];simp -implicitDefEqProofs [-aA,-gval,z,k2,aC,spans,spr]
 ·have zI:0<t.limits.length:=by omega
  have hw:IntKind.i64.wrap ((t.limits.length:Int) - 1)=((t.limits.length - 1:Nat):Int):=by rw[wrap_i64 (by omega) (by omega)];omega
  have e:kA t=spL t.limits t.limits.length (t.limits.length - 1):=by simp[kA,z]
  rw[e];have c:=h90 z;generalize spL t.limits t.limits.length (t.limits.length - 1)=R at*;simp -implicitDefEqProofs [-aA,-gval,zI,hw];refine aD.tree c rfl ?_;simp -implicitDefEqProofs [-aA,-gval,aC]
end
section
attribute [local simp] bB aN aS aI aU aO aX tyC fdC vlC ndC aL D.cO D.pt
def vI(t:Ty)(v:Vl):Int:=if(qD t).2 != 0 then(qD t).2 else if v.bN != 0 then v.bN else if oH t v then 0 else 17
attribute [local simp] c25 in
theorem P25(t:Ty)(hn:t.narrow=true)(v:Vl)(hv:v.fine)(hvs:v.s.size≤1000000):PSp prog 25 [.agg (tyC t),.agg (vlC v)] (.one (.t (I (vI t v)))):=by
 have p29:=P29 t hn;have p75:=P75 v hv;have p76:=P76 t v hvs;have eR:vI t v=if(qD t).2 != 0 then(qD t).2 else if v.bN != 0 then v.bN else if oH t v then 0 else 17:=rfl
 rw[eR];generalize (qD t).2=e at*;generalize v.bN=f at*;generalize oH t v=b at*;have w1:IntKind.i64.wrap 17=17:=by decide
 have w0:IntKind.i64.wrap 0=0:=by decide
 refine k25.aJ (by simp) (by simp[D.closed,A.closed]) rfl ?_;simp -implicitDefEqProofs [-aA,-gval];refine aD.tree p29 rfl ?_;rcases eqCases e 0 with z | z
 ·simp -implicitDefEqProofs [-aA,-gval,z];refine aD.tree p75 rfl ?_;rcases eqCases f 0 with y | y
  ·simp -implicitDefEqProofs [-aA,-gval,y];refine aD.tree p76 rfl ?_;simp -implicitDefEqProofs [-aA,-gval];refine aD.tree (P19 _) rfl ?_;cases b<;>simp -implicitDefEqProofs [-aA,-gval,w0,w1,aC]
  ·simp -implicitDefEqProofs [-aA,-gval,y,aC]
 ·simp -implicitDefEqProofs [-aA,-gval,z,aC]
end
section
attribute [local simp] bB aN aS aI aU aO aX tyC fdC vlC ndC aL D.cO D.pt
theorem aL6(v:Vl):v.row.map A.t=vlC v:=by
 cases v;rw[Vl.row,dF];rfl
attribute [local simp] c118 in
theorem aWB(v:Vl)(hv:v.fine):PSp prog 118 [.agg (vlC v)] (.one (.t (I v.bN))):=by
 have k145:=wK v hv;rw[aL6]at k145;refine k118.aJ (by simp) (by simp[D.closed,A.closed]) rfl ?_;have e0:v.bN=if(v.sz 8 (120,false)).2 then 2 else v.fB:=by rw[Vl.bN,Vl.pT]
 rw[e0];simp -implicitDefEqProofs [-aA,-gval];refine aD.imp (ISp.ok fun ho=>k145 _ _ _ 8 (120,false) ho (by simp[sC,yB])) ?_;obtain⟨⟨s1,s2⟩,hs⟩:∃ s,v.sz 8 (120,false)=s:=⟨_,rfl⟩;rw[hs];cases s2
 ·simp -implicitDefEqProofs [-aA,-gval,dR,hs];refine aD.tree (aRG v hv) rfl ?_;simp -implicitDefEqProofs [-aA,-gval,aC]
 ·simp -implicitDefEqProofs [-aA,-gval,dR,hs,aC]
attribute [local simp] c123 in
theorem aWC(l:List Sp)(c:Int)(hl:l.length≤1000000)(hc:0≤c∧c≤255)(h:Hp)(id:Nat)(e:h id=some (.arr 0 false 1 [[.t (spans l)]]))(n0:Nat):
  ISp prog 123 h n0 [.one (.t (.int .u8 c)),.one (.ptr ⟨id,0,1,0,0⟩)] (.one (.t (.bool (!inS l c)))) h:=by
 refine ISp.ok fun ho=>?_
 have h1:=fR ho e;have aHX:=aPJ l c (by simp only[short];omega);refine k123.gJ (by simp) ?_;obtain⟨o1,o2,o3,o4⟩:=aK e
 have hcv:D.cT .i64 (.one (.t (.int .u8 c)))= .one (.t (I c)):=by
  have:IntKind.i64.wrap c=c:=wrap_i64 (by omega) (by omega);simp[D.cT,this]
 simp -implicitDefEqProofs [-aA,-gval,o1,o2,o3,hcv];refine aD.tree aHX rfl ?_;simp -implicitDefEqProofs [-aA,-gval];exact dI (.inr rfl) (by exact rfl) (fun j hj=>by simp) ho
def eL(v:Vl):Int:=if v.kind==10||v.kind==11 then(v.items.length:Int)else(v.s.size:Int)
attribute [local simp] c121r0 c121r1 c121r2 c121r3 c121 in
theorem aWD(v:Vl):PSp prog 121 [.agg (vlC v)] (.one (.t (I (eL v)))):=by
 rw[eL];obtain⟨a,ea⟩:∃ a,(v.kind==10)=a:=⟨_,rfl⟩;obtain⟨b,eb⟩:∃ a,(v.kind==11)=a:=⟨_,rfl⟩;rw[ea,eb];refine k121.aJ (by simp) (by simp[D.closed,A.closed]) rfl ?_;cases a<;>cases b<;>simp -implicitDefEqProofs [-aA,-gval,ea,eb,aC]
def iN(l:List Nd):Int×Bool:=if l.length==0 then(-1,false)else((cJ l:Nat),match l[l.length - 1]? with | some x=>x.k==7 | none=>false)
attribute [local simp] c74 in
theorem P74{l:List Nd}{bg:List Nat}(T:eB l bg)(hok:∀ x∈l,x.ok=true)(hl:l.length≤20):PSp prog 74 [.one (.t (aI l))] (.tup [.one (.t (I (iN l).1)),.one (.t (.bool (iN l).2))]):=by
 refine k74.aJ (by simp) rfl rfl ?_
 by_cases z:l.length=0
 ·have zl:l=[]:=List.length_eq_zero_iff.1 z;subst zl;simp -implicitDefEqProofs [-aA,-gval,aC,iN]
 ·have zI:((l.length:Int)==0)=false:=by simpa using z
  obtain⟨m,hm⟩:∃ m:Nat,l.length - 1=m:=⟨_,rfl⟩;have hml:m<l.length:=by omega
  have hx:l[m]? =some (l[m]'hml):=gE9 _;generalize l[m]'hml=x at hx;have N:=T.node m x hx;have hmI:(m:Int)<(l.length:Int):=by omega
  have hw:IntKind.i64.wrap ((l.length:Int) - 1)=(m:Int):=by rw[wrap_i64 (by omega) (by omega)];omega
  obtain⟨r1,r2,r3,r4⟩:=dE (hok x (gM9 hx))
  have er:iN l=(((if x.k==7 then aG x 0 else m:Nat):Int),x.k==7):=by
   have zN:(l.length==0)=false:=by simpa using z
   simp[iN,zN,cJ,hm,hx]
  rw[er];rcases eqCases x.k 7 with k7 | k7
  ·have pos:=(r4 (by omega) (by omega)).1;have a0:=kF N pos;have l0:(0:Int)<(x.args.length:Int):=by omega
   simp -implicitDefEqProofs [-aA,-gval,zI,hw,hml,hmI,aE hx,Nd.row,k7,pos,aE a0,aC,-List.getElem_map]
  ·simp -implicitDefEqProofs [-aA,-gval,zI,hw,hml,hmI,aE hx,Nd.row,k7,aC,-List.getElem_map]
end
section
attribute [local simp] bB aN aS aI aU aO aX tyC fdC vlC ndC aL D.cO D.pt
def qA:List Int:=[0,1,2,3,4,5,6,7,8,9,11,12,13,14,16]
def qL(t:Ty)(v:Vl):Bool:=(v.kind==9&&t.kind==10)||(qA.getD v.kind.toNat 0==t.kind&&(t.kind != 6|| !(chars v.s).any fun c=> !inS (alpha t.name) c))
attribute [local simp] c119 in
theorem aWE(t:Ty)(v:Vl)(hvs:v.s.size≤1000000)(hk:0≤v.kind∧v.kind≤14):PSp prog 119 [.agg (tyC t),.agg (vlC v)] (.one (.t (.bool (qL t v)))):=by
 obtain⟨R0,hR0⟩:∃ R,qL t v=R:=⟨_,rfl⟩;rw[hR0];have aK4:=aSG t.name v.s (by omega);obtain⟨m,hm⟩:∃ m:Nat,v.kind=(m:Int):=⟨v.kind.toNat,by omega⟩;have aL7:m<15:=by omega
 have hmI:(m:Int)<15:=by omega
 obtain⟨y,hy⟩:∃ y,qA[m]? =some y:=⟨_,gE9 (by simpa[qA]using aL7)⟩
 have hyD:qA.getD v.kind.toNat 0=y:=by
  have:v.kind.toNat=m:=by omega
  rw[this,List.getD_eq_getElem?_getD,hy];rfl
 obtain⟨i,ei⟩:∃ i,(!(chars v.s).any fun c=> !inS (alpha t.name) c)=i:=⟨_,rfl⟩;rw[ei]at aK4;have e1:R0=((v.kind==9&&t.kind==10)||(y==t.kind&&(t.kind != 6||i))):=by rw[←hR0,qL,hyD,ei]
 have hrow:∀ hh,(qA.map fun a=>[I a])[m]'hh=[I y]:=fun hh=>aE hy hh
 obtain⟨a,ea⟩:∃ a,(v.kind==9)=a:=⟨_,rfl⟩;obtain⟨b,eb⟩:∃ a,(t.kind==10)=a:=⟨_,rfl⟩;obtain⟨c,ec⟩:∃ a,(y==t.kind)=a:=⟨_,rfl⟩;obtain⟨d,ed⟩:∃ a,(t.kind != 6)=a:=⟨_,rfl⟩;rw[ea,eb,ec,ed]at e1;rw[hm]at ea;clear hR0 ei hyD;refine k119.aJ (by simp) (by simp[D.closed,A.closed]) rfl ?_;have hrow':∀ hh,([[I 0],[I 1],[I 2],[I 3],[I 4],[I 5],[I 6],[I 7],[I 8],[I 9],[I 11],[I 12],[I 13],[I 14],[I 16]]:List (List T))[m]'hh=[I y]:=hrow;have ed':(t.kind != 6)=d:=ed;have rest:(y==t.kind&&(t.kind != 6||i))=(c&&(d||i)):=by rw[ec,ed]
 have body:(a&&b)=false→R0=(c&&(d||i)):=fun h=>by rw[e1,h,Bool.false_or]
 cases a<;>cases b
 case true.true=>
  have:R0=true:=by rw[e1];rfl
  subst this;simp -implicitDefEqProofs [-aA,-gval,hm,ea,eb,aC]
 all_goals
  have e2:=body rfl;clear e1 body;cases c<;>cases d
  ·subst e2;simp -implicitDefEqProofs [-aA,-gval,hm,ea,eb,aL7,hmI,hrow',ec,ed,aC]
  ·subst e2;simp -implicitDefEqProofs [-aA,-gval,hm,ea,eb,aL7,hmI,hrow',ec,ed,aC]
  ·have:R0=i:=by rw[e2];simp
   subst this;simp -implicitDefEqProofs [-aA,-gval,hm,ea,eb,aL7,hmI,hrow',ec,ed];refine aD.bF aK4 rfl ?_;simp -implicitDefEqProofs [-aA,-gval,aC]
  ·subst e2;simp -implicitDefEqProofs [-aA,-gval,hm,ea,eb,aL7,hmI,hrow',ec,ed,aC]
end
section
attribute [local simp] bB aN aS aI aU aO aX tyC fdC vlC ndC aL D.cO D.pt
def cG(t:Ty)(v:Vl):Int:=if bT [(dM t).2,v.bN] != 0 then bT [(dM t).2,v.bN] else if qL t v then 0 else 17
attribute [local simp] c71 in
theorem P71(t:Ty)(hn:t.narrow=true)(v:Vl)(hv:v.fine)(hvs:v.s.size≤1000000)(hk:v.bN=0→0≤v.kind∧v.kind≤14):PSp prog 71 [.agg (tyC t),.agg (vlC v)] (.one (.t (I (cG t v)))):=by
 have p80:=P80 t hn;have aWF:=aWB v hv;have aWG:=fun h=>aWE t v hvs (hk h)
 have eR:cG t v=if bT [(dM t).2,v.bN] != 0 then bT [(dM t).2,v.bN] else if qL t v then 0 else 17:=rfl
 rw[eR];generalize (dM t).2=e at*;generalize v.bN=f at*;generalize qL t v=b at*;have p79:=P79 [e,f] (by simp[short])
 have hz:bT [e,f]=0→f=0:=fun h=>by
  simp only[bI,dC]at h
  by_cases q:e=0
  ·by_cases q2:f=0
   ·exact q2
   ·simp[q,q2]at h
  ·simp[q]at h
 generalize bT [e,f]=E at*;refine k71.aJ (by simp) (by simp[D.closed,A.closed]) rfl ?_;simp -implicitDefEqProofs [-aA,-gval];refine aD.bF p80 rfl ?_;simp -implicitDefEqProofs [-aA,-gval];refine aD.bF aWF rfl ?_;simp -implicitDefEqProofs [-aA,-gval];refine aD.draw p79 (by simp) (by simp) (.inl rfl) ?_;rcases eqCases E 0 with z | z
 ·simp -implicitDefEqProofs [-aA,-gval,z];refine aD.tree (aWG (hz z)) rfl ?_;simp -implicitDefEqProofs [-aA,-gval];refine aD.tree (P81 b 17) rfl ?_;simp -implicitDefEqProofs [-aA,-gval,aC]
 ·simp -implicitDefEqProofs [-aA,-gval,z,aC]
end
theorem aIC:∀ m:Fin 15,∀k:Fin 16,(((m.val:Int)==9&&(k.val:Int)==10)||qA.getD m.val 0==(k.val:Int))=((m.val:Int)==iG (k.val:Int)):=by decide+kernel
theorem tS(t:Ty)(v:Vl)(hv:0≤v.kind∧v.kind≤14)(ht:0≤t.kind∧t.kind≤15):qL t v=oH t v:=by
 obtain⟨m,hm⟩:∃ m:Nat,v.kind=(m:Int):=⟨v.kind.toNat,by omega⟩;obtain⟨k,hk⟩:∃ k:Nat,t.kind=(k:Int):=⟨t.kind.toNat,by omega⟩;have h:=aIC ⟨m,by omega⟩ ⟨k,by omega⟩;have e:v.kind.toNat=m:=by omega
 simp only at h;rw[qL,oH,e,hm,hk];generalize ((chars v.s).any fun c=> !inS (alpha t.name) c)=a
 by_cases q:(k:Int)=6
 ·rw[q]at h ⊢;rw[←h];cases a<;>simp
 ·have q1:((k:Int) != 6)=true:=by simpa using q
  have q2:((k:Int)==6)=false:=by simpa using q
  rw[q1,q2,←h];simp
theorem mW{v:Vl}(h:v.bN=0):(0≤v.kind∧v.kind≤14)∧v.bU=false∧v.large=false:=by
 have h1:v.fB=0:=by
  rw[Vl.bN,Vl.pT]at h;split at h
  ·cases h
  ·exact h
 have h2:v.fG=0:=by
  rw[Vl.nP]at h1;split at h1
  ·rename_i e;rw[h1]at e;simp at e
  ·rename_i e;simpa using e
 rw[Vl.fG]at h2;split at h2
 ·rename_i e;simp only[Bool.and_eq_true,decide_eq_true_eq]at e;rw[Vl.aD3]at h2;split at h2
  ·cases h2
  ·rename_i e2;rw[Vl.aF9]at h2;split at h2
   ·rw[Vl.aF8]at h2;split at h2
    ·cases h2
    ·rename_i e3;exact⟨e,by simpa using e2,by simpa using e3⟩
   ·cases h2
 ·cases h2
theorem aFZ{v:Vl}(h:v.bU=false)(hk:v.kind=2∨v.kind=4∨v.kind=5∨v.kind=6∨v.kind=10∨v.kind=11):eL v=(v.s.size:Int)+v.items.length:=by
 simp only[Vl.bU,Bool.or_eq_false_iff]at h;obtain⟨⟨⟨⟨_,_⟩,hs⟩,_⟩,hi⟩:=h
 have s0:bL v.s (bs [])=true→v.s.size=0:=fun e=>by
  have e1:v.s.toList=(bs []).toList:=by simpa[bL]using e
  have e2:(bs []).toList=[]:=by simp[bs]
  rw[e2,ByteArray.toList_eq]at e1;rw[←dsize,e1];rfl
 have no1:jT v.kind=false→v.s.size=0:=fun e=>by
  rw[e]at hs;exact s0 (by simpa using hs)
 have no2:fS v.kind=false→v.items.length=0:=fun e=>by
  rw[e]at hi;simpa using hi
 rcases hk with q | q | q | q | q | q
 ·have a:=no1 (by rw[q];rfl);have b:=no2 (by rw[q];rfl);simp[eL,q,a,b]
 ·have b:=no2 (by rw[q];rfl);simp[eL,q,b]
 ·have b:=no2 (by rw[q];rfl);simp[eL,q,b]
 ·have b:=no2 (by rw[q];rfl);simp[eL,q,b]
 ·have a:=no1 (by rw[q];rfl);simp[eL,q,a]
 ·have a:=no1 (by rw[q];rfl);simp[eL,q,a]
theorem rH{t:Ty}(h:t.check=0):0≤t.kind∧t.kind≤15:=by
 have h1:t.cF=0:=by
  rw[Ty.check]at h;split at h
  ·cases h
  ·exact h
 rw[Ty.nQ]at h1
 have h2:t.cE=0:=by
  split at h1
  ·rename_i e;rw[h1]at e;simp at e
  ·rename_i e;simpa using e
 cases t with
 | mk k nm tg fs o r of l=>
  rw[Ty.cE]at h2;split at h2
  ·cases h2
  ·rename_i e;have e2:(decide (0≤k)&&decide (k≤15))=true:=by simpa using e
   simpa[Ty.kind]using e2
theorem aL8(t:Ty)(v:Vl):cG t v=vI t v:=by
 rw[cG,vI,←aDN]
 by_cases h:(dM t).2=0
 ·by_cases f:v.bN=0
  ·have hf:=tS t v (mW f).1 (rH (gL h).1);rw[h,f,hf];rfl
  ·have e:bT [(dM t).2,v.bN]=v.bN:=by rw[bI,bI];simp[h,f]
   have e2:(v.bN != 0)=true:=by simpa using f
   rw[e,h,e2];rfl
 ·have e2:((dM t).2 != 0)=true:=by simpa using h
  have e:bT [(dM t).2,v.bN]=(dM t).2:=by rw[bI,e2];rfl
  rw[e,e2];rfl
section
attribute [local simp] bB aN aS aI aU aO aX tyC fdC vlC ndC aL D.cO D.pt
theorem aWH(l:List Int)(hl:short l)(p:Int→Bool)(clo:FuncId)(caps:List Pt)(h:Hp)(n0:Nat)(hc:callable prog clo=true)
  (hp:∀ x∈l,∀new K,n0≤new→K (.one (.t (.bool (p x)))) h→aD prog false clo (.one (.t (I x))::caps.map fun q=> .one (.ptr q)) h new K):
  ISp prog 124 h n0 [.one (.t (aX l)),.one (.fn clo caps)] (.one (.t (.bool (l.any p)))) h:=
 gP (sz:=1) (g:=false) k124 k157 l (fun a=>[I a]) (fun _x=>rfl) (fun _=>rfl) hl p clo caps h n0 hc hp
attribute [local simp] c125 in
theorem aWI(l:List Nd)(v:Vl)(a:Int)(r:Bool)(hc:PSp prog 72 [.one (.t (aI l)),.one (.t (I a)),.agg (vlC v)] (.one (.t (.bool r))))(h:Hp)(i1 i2:Nat)(e1:h i1=some (.arr 0 false 1 [[.t (aI l)]]))(e2:h i2=some (.arr 0 false 6 [vlC v]))(n0:Nat):
  ISp prog 125 h n0 [.one (.t (I a)),.one (.ptr ⟨i1,0,1,0,0⟩),.one (.ptr ⟨i2,0,6,0,0⟩)] (.one (.t (.bool r))) h:=by
 refine ISp.ok fun ho=>?_
 have h1:=fR ho e1;have h2:=fR ho e2;refine k125.gJ (by simp) ?_;obtain⟨o1,o2,o3,o4⟩:=aK e1;obtain⟨p1,p2,p3,p4⟩:=aK e2;simp -implicitDefEqProofs [-aA,-gval,o1,o2,o3,p1,p2,p3];refine aD.tree hc rfl ?_;simp -implicitDefEqProofs [-aA,-gval];exact dI (.inr rfl) (by exact rfl) (fun j hj=>by simp) ho
attribute [local simp] c72 in
theorem P72{l:List Nd}{bg:List Nat}(T:eB l bg)(hok:∀ x∈l,x.ok=true)(v:Vl)(hvs:v.s.size≤1000000)(P Q:Nat→Prop)
  (hf:∀ p x,l[p]? =some x→Q p→∀c:Nat,(c:Int)∈x.args→if x.k=2∨x.k=3 then P c else Q c)
  (c90:∀ n i,i<n→i<l.length→P i→(spL l n i).length≤1000∧PSp prog 90 [.one (.t (aI l)),.one (.t (I ((i:Nat):Int)))] (.one (.t (spans (spL l n i))))):
  ∀n i,i<n→i<l.length→Q i→PSp prog 72 [.one (.t (aI l)),.one (.t (I ((i:Nat):Int))),.agg (vlC v)] (.one (.t (.bool (hoL l v.n v.s (eL v) n i)))):=by
 intro n
 induction n with
 | zero=>intro i hi;omega
 | succ n ih=>
  intro i hin hil hQ;have hx:l[i]? =some (l[i]'hil):=gE9 _;generalize l[i]'hil=x at hx;have N:=T.node i x hx;have hiI:(i:Int)<(l.length:Int):=by omega
  obtain⟨r1,r2,r3,r4⟩:=dE (hok x (gM9 hx))
  have all:¬ (x.k=2∨x.k=3)→∀a∈x.args,PSp prog 72 [.one (.t (aI l)),.one (.t (I a)),.agg (vlC v)] (.one (.t (.bool (hoL l v.n v.s (eL v) n a.toNat)))):=fun h23 a ha=>by
   obtain⟨c,c1,c2,c3⟩:=N.arg a ha;have hq:=hf i x hx hQ c (by rw[←c1];exact ha);rw[if_neg h23]at hq;have:=ih c (by omega) (by omega) hq;rw[c1,Int.toNat_natCast];exact this
  have sub:¬ (x.k=2∨x.k=3)→∀k,k<x.args.length→PSp prog 72 [.one (.t (aI l)),.one (.t (I ((aG x k:Nat):Int))),.agg (vlC v)] (.one (.t (.bool (hoL l v.n v.s (eL v) n (aG x k))))):=fun h23 k hk=>by
   obtain⟨m1,m2,m3⟩:=cK N hk;have:=all h23 _ m1;rw[Int.toNat_natCast]at this;exact this
  obtain⟨R0,hR0⟩:∃ R,hoL l v.n v.s (eL v) (n+1) i=R:=⟨_,rfl⟩;rw[hR0];refine k72.aJ (by simp) (by simp[D.closed,A.closed]) rfl ?_;rcases eqCases x.k 0 with k0 | k0
  ·have e1:R0=(decide (x.lo≤v.n)&&decide (v.n≤x.hi)):=by rw[←hR0];simp[hoL,hx,k0]
   rw[e1];simp -implicitDefEqProofs [-aA,-gval,hil,hiI,aE hx,Nd.row,k0,-List.getElem_map];refine aD.tree (P85 v.n x.lo x.hi) rfl ?_;simp -implicitDefEqProofs [-aA,-gval,aC]
  ·rcases eqCases x.k 1 with k1 | k1
   ·obtain⟨b,eb⟩:∃ b,(v.s.toList==x.s.toList)=b:=⟨_,rfl⟩;have e1:R0=b:=by rw[←hR0,←eb];simp[hoL,hx,k1,bL]
    subst e1;simp -implicitDefEqProofs [-aA,-gval,hil,hiI,aE hx,Nd.row,k1,eb,aC,-List.getElem_map]
   ·obtain⟨pos,aHA⟩:=r4 k0.2.1 k1.2.1;have a0:=kF N pos;have l0:(0:Int)<(x.args.length:Int):=by omega
    obtain⟨m1,m2,m3⟩:=cK N pos;rcases eqCases x.k 2 with k2 | k2
    ·have hP:=hf i x hx hQ _ m1;rw[if_pos (.inl k2)]at hP;obtain⟨hl,c⟩:=c90 n _ (by omega) (by omega) hP;have e1:R0=inS (spL l n (aG x 0)) (eL v):=by rw[←hR0];simp[hoL,hx,k2]
     have aWJ:=aWD v;have aHX:=aPJ (spL l n (aG x 0)) (eL v) (by simp only[short];omega);rw[←e1]at aHX;generalize spL l n (aG x 0)=S at*;generalize eL v=z at*;simp -implicitDefEqProofs [-aA,-gval,hil,hiI,aE hx,Nd.row,k2,pos,aE a0,-List.getElem_map];refine aD.bF c rfl ?_;simp -implicitDefEqProofs [-aA,-gval];refine aD.bF aWJ rfl ?_;simp -implicitDefEqProofs [-aA,-gval];refine aD.bF aHX rfl ?_;simp -implicitDefEqProofs [-aA,-gval,aC]
    ·rcases eqCases x.k 3 with k3 | k3
     ·have hP:=hf i x hx hQ _ m1;rw[if_pos (.inr k3)]at hP;obtain⟨hl,c⟩:=c90 n _ (by omega) (by omega) hP;have e1:R0= !(chars v.s).any (fun c=> !inS (spL l n (aG x 0)) c):=by rw[←hR0];simp only[hoL,hx];simp[k3]
      generalize spL l n (aG x 0)=S at*;subst e1;simp -implicitDefEqProofs [-aA,-gval,hil,hiI,aE hx,Nd.row,k3,pos,aE a0,-List.getElem_map];refine aD.bF c rfl ?_;simp -implicitDefEqProofs [-aA,-gval];refine aD.imp (aOY v.s (by omega) (fun c=> !inS S c) 123 [⟨25,0,1,0,0⟩] _ _ (by kernel_rfl) fun c hc new K hn hK=>aD.imp (aWC S c (by omega) (by have:=jC hc;omega) _ 25 (by simp[Hp.set]) new) hK) ?_;simp -implicitDefEqProofs [-aA,-gval,aC]
     ·have sub:=sub (by omega);have all:=all (by omega);have c0:=sub 0 pos;obtain⟨A,hA⟩:∃ A,hoL l v.n v.s (eL v) n (aG x 0)=A:=⟨_,rfl⟩;rcases eqCases x.k 5 with k5 | k5
      ·rw[hA]at c0;have one':1<x.args.length:=by have:=r3 (by omega);omega
       have a1:=kF N one';have l1:(1:Int)<(x.args.length:Int):=by omega
       have c1:=sub 1 one';have e1:R0=(A&&hoL l v.n v.s (eL v) n (aG x 1)):=by rw[←hR0];simp[hoL,hx,k5,hA]
       generalize hoL l v.n v.s (eL v) n (aG x 1)=B at*;subst e1;simp -implicitDefEqProofs [-aA,-gval,hil,hiI,aE hx,Nd.row,k5,pos,aE a0,-List.getElem_map];refine aD.bF c0 rfl ?_;cases A
       ·simp -implicitDefEqProofs [-aA,-gval,aC]
       ·simp -implicitDefEqProofs [-aA,-gval,one',l1,aE a1,-List.getElem_map];refine aD.bF c1 rfl ?_;simp -implicitDefEqProofs [-aA,-gval,aC]
      ·rcases eqCases x.k 6 with k6 | k6
       ·rw[hA]at c0;have one':1<x.args.length:=by have:=r3 (by omega);omega
        have a1:=kF N one';have l1:(1:Int)<(x.args.length:Int):=by omega
        have c1:=sub 1 one';have e1:R0=(A&& !hoL l v.n v.s (eL v) n (aG x 1)):=by rw[←hR0];simp[hoL,hx,k6,hA]
        generalize hoL l v.n v.s (eL v) n (aG x 1)=B at*;subst e1;simp -implicitDefEqProofs [-aA,-gval,hil,hiI,aE hx,Nd.row,k6,pos,aE a0,-List.getElem_map];refine aD.bF c0 rfl ?_;cases A
        ·simp -implicitDefEqProofs [-aA,-gval,aC]
        ·simp -implicitDefEqProofs [-aA,-gval,one',l1,aE a1,-List.getElem_map];refine aD.bF c1 rfl ?_;simp -implicitDefEqProofs [-aA,-gval,aC]
       ·have e1:R0=x.args.any fun a=>hoL l v.n v.s (eL v) n a.toNat:=by rw[←hR0];simp[hoL,hx,k0,k1,k2,k3,k5,k6]
        subst e1;simp -implicitDefEqProofs [-aA,-gval,hil,hiI,aE hx,Nd.row,k0,k1,k2,k3,k5,k6,-List.getElem_map];refine aD.imp (aWH x.args (by simp only[short];omega) (fun a=>hoL l v.n v.s (eL v) n a.toNat) 125 [⟨0,0,1,0,0⟩,⟨1,0,6,0,0⟩] _ _ (by kernel_rfl) fun a ha new K hn hK=>aD.imp (aWI l v a _ (all a ha) _ 0 1 (by simp[Hp.set]) (by simp[Hp.set]) new) hK) ?_;simp -implicitDefEqProofs [-aA,-gval,aC]
end
section
attribute [local simp] bB aN aS aI aU aO aX tyC fdC vlC ndC aL D.cO D.pt
def aG0(t:Ty)(v:Vl):Bool:=t.limits.length==0||hoL t.limits v.n v.s (eL v) t.limits.length (t.limits.length - 1)
def yI(t:Ty)(v:Vl):Bool:=t.limits.length==0||hoL t.limits v.n v.s (eL v) t.limits.length (cJ t.limits)
attribute [local simp] c22 in
theorem P22(t:Ty)(v:Vl)(c71:PSp prog 71 [.agg (tyC t),.agg (vlC v)] (.one (.t (I (cG t v)))))
  (c72:cG t v=0→t.limits.length≠0→t.limits.length≤20∧PSp prog 72 [.one (.t (aI t.limits)),.one (.t (I ((t.limits.length - 1:Nat):Int))),.agg (vlC v)] (.one (.t (.bool (hoL t.limits v.n v.s (eL v) t.limits.length (t.limits.length - 1)))))):
  PSp prog 22 [.agg (tyC t),.agg (vlC v)] (.tup [.one (.t (.bool (cG t v==0&&aG0 t v))),.one (.t (I (cG t v)))]):=by
 rw[aG0];generalize cG t v=e at*;refine k22.aJ (by simp) (by simp[D.closed,A.closed]) rfl ?_;simp -implicitDefEqProofs [-aA,-gval];refine aD.tree c71 rfl ?_;rcases eqCases e 0 with z | z
 ·by_cases q:t.limits.length=0
  ·have ql:t.limits=[]:=List.length_eq_zero_iff.1 q;simp -implicitDefEqProofs [-aA,-gval,z,ql,aC]
  ·obtain⟨hl,c⟩:=c72 z q;have qI:((t.limits.length:Int)==0)=false:=by simpa using q
   have qN:(t.limits.length==0)=false:=by simpa using q
   have hw:IntKind.i64.wrap ((t.limits.length:Int) - 1)=((t.limits.length - 1:Nat):Int):=by rw[wrap_i64 (by omega) (by omega)];omega
   rw[qN];generalize hoL t.limits v.n v.s (eL v) t.limits.length (t.limits.length - 1)=R at*;simp -implicitDefEqProofs [-aA,-gval,z,qI,hw];refine aD.tree c rfl ?_;simp -implicitDefEqProofs [-aA,-gval,aC]
 ·simp -implicitDefEqProofs [-aA,-gval,z,aC]
attribute [local simp] c24 in
theorem P24(t:Ty)(v:Vl)(c71:PSp prog 71 [.agg (tyC t),.agg (vlC v)] (.one (.t (I (cG t v)))))
  (c72:cG t v=0→(∃bg,eB t.limits bg)∧(∀x∈t.limits,x.ok=true)∧t.limits.length≤20∧(t.limits.length≠0→PSp prog 72 [.one (.t (aI t.limits)),.one (.t (I ((cJ t.limits:Nat):Int))),.agg (vlC v)] (.one (.t (.bool (hoL t.limits v.n v.s (eL v) t.limits.length (cJ t.limits))))))):
  PSp prog 24 [.agg (tyC t),.agg (vlC v)] (.tup [.one (.t (.bool (cG t v==0&&yI t v))),.one (.t (I (cG t v)))]):=by
 rw[yI];generalize cG t v=e at*;refine k24.aJ (by simp) (by simp[D.closed,A.closed]) rfl ?_;simp -implicitDefEqProofs [-aA,-gval];refine aD.tree c71 rfl ?_;rcases eqCases e 0 with z | z
 ·obtain⟨⟨bg,T⟩,hok,hl,c⟩:=c72 z;have c74:=P74 T hok hl
  by_cases q:t.limits.length=0
  ·have ql:t.limits=[]:=List.length_eq_zero_iff.1 q;have e1:(iN t.limits).1= -1:=by simp[iN,ql]
   rw[e1]at c74;simp -implicitDefEqProofs [-aA,-gval,z];refine aD.tree c74 rfl ?_;simp -implicitDefEqProofs [-aA,-gval,ql,aC]
  ·have c:=c q;have qN:(t.limits.length==0)=false:=by simpa using q
   have e1:(iN t.limits).1=((cJ t.limits:Nat):Int):=by simp[iN,qN]
   have nn:¬ ((cJ t.limits:Nat):Int)<0:=by omega
   have nn2:(0:Int)≤((cJ t.limits:Nat):Int):=by omega
   rw[e1]at c74;rw[qN];generalize hoL t.limits v.n v.s (eL v) t.limits.length (cJ t.limits)=R at*;generalize cJ t.limits=r at*;simp -implicitDefEqProofs [-aA,-gval,z];refine aD.tree c74 rfl ?_;simp -implicitDefEqProofs [-aA,-gval,nn];refine aD.tree c rfl ?_;simp -implicitDefEqProofs [-aA,-gval,aC]
 ·simp -implicitDefEqProofs [-aA,-gval,z,aC]
end
theorem aAT{t:Ty}{x:Nd}{r:Bool}{a:Int}(h:lF t x r a=0)(k1:x.k=1):bW t x.s a=true∧x.s.size≤200:=by
 obtain⟨s1,_⟩:=iM h;simp only[lF,s1]at h;cases hf:bW t x.s a
 ·simp[bI,dC,k1,hf]at h
 ·by_cases q:x.s.size≤200
  ·exact⟨rfl,q⟩
  ·simp[bI,dC,k1,hf,q]at h
theorem aG1{x:Nd}{k a:Int}(h:kC x (gW k a)=true)(ha:a=3∨a=4):0≤x.lo∧x.lo≤x.hi∧x.hi≤200:=by
 simp only[kC,Bool.and_eq_true,decide_eq_true_eq]at h;obtain⟨⟨h1,h2⟩,h3⟩:=h;rcases ha with rfl | rfl
 ·have e:gW k 3=(0,cB k):=rfl;rw[e]at h2 h3;have m:cB k≤200:=by unfold cB;split<;>omega
  exact⟨h2,h1,by omega⟩
 ·have e:gW k 4=(0,127):=rfl;rw[e]at h2 h3;exact⟨h2,h1,by omega⟩
structure aL9 (l:List Nd) (bg:List Nat) (P Q:Nat→Prop):Prop where
 tree:eB l bg
 few:l.length≤20
 ok:∀ x∈l,x.ok=true
 node:∀ p x,l[p]? =some x→P p→x.k≠2∧x.k≠3∧(x.k=0→0≤x.lo∧x.lo≤x.hi∧x.hi≤200)∧(x.k=1→x.s.size≤200∧∀c∈chars x.s,c≤127)
 edge:∀ p x,l[p]? =some x→P p→∀c:Nat,(c:Int)∈x.args→P c
 from_:∀ p x,l[p]? =some x→Q p→∀c:Nat,(c:Int)∈x.args→if x.k=2∨x.k=3 then P c else Q c
 last:Q (l.length - 1)
theorem tT{t:Ty}(h:(dM t).2=0)(hl:t.limits.length≠0):t.kind=2∨t.kind=4∨t.kind=5∨t.kind=6∨t.kind=11∨t.kind=12:=by
 obtain⟨_,h2⟩:=gL h;simp only[xB]at h2;have e:(t.limits.length==0)=false:=by simpa using hl
 rw[e]at h2;simp only[Bool.false_eq_true,if_false]at h2
 by_cases q:(eI t.kind==0&&t.kind != 2)=true
 ·rw[if_pos q]at h2;cases h2
 ·simp only[eI]at q
  by_cases a2:t.kind=2
  ·exact .inl a2
  ·by_cases a4:t.kind=4
   ·exact .inr (.inl a4)
   ·by_cases a5:t.kind=5
    ·exact .inr (.inr (.inl a5))
    ·by_cases a6:t.kind=6
     ·exact .inr (.inr (.inr (.inl a6)))
     ·by_cases a11:t.kind=11
      ·exact .inr (.inr (.inr (.inr (.inl a11))))
      ·by_cases a12:t.kind=12
       ·exact .inr (.inr (.inr (.inr (.inr a12))))
       ·simp[a2,a4,a5,a6,a11,a12]at q
theorem tU{t:Ty}(h:(dM t).2=0)(hl:t.limits.length≠0):∃ bg,∃P Q:Nat→Prop,aL9 t.limits bg P Q:=by
 obtain⟨ht,L,h1,h2,h3⟩:=pH h hl;obtain⟨hlen,bg,T⟩:=bO ht
 have hn:∀ p x,t.limits[p]? =some x→(L p=3∨L p=4)→x.k≠2∧x.k≠3∧(x.k=0→0≤x.lo∧x.lo≤x.hi∧x.hi≤200)∧(x.k=1→x.s.size≤200∧∀c∈chars x.s,c≤127):=fun p x hx ha=>by
  obtain⟨r,hr⟩:=h3 p x hx;obtain⟨s1,s2⟩:=iM hr;refine⟨fun e=>?_,fun e=>?_,fun e=>aG1 (s2 e) ha,fun e=>?_⟩
  ·rw[e]at s1;rcases ha with q | q<;>rw[q]at s1<;>simp[cQ]at s1
  ·rw[e]at s1;rcases ha with q | q<;>rw[q]at s1<;>simp[cQ]at s1
  ·obtain⟨t1,t2⟩:=aAT hr e;refine⟨t2,fun c hc=>?_⟩
   have a4:L p=4:=by
    rcases ha with q | q
    ·rw[e,q]at s1;simp[cQ]at s1
    ·exact q
   rw[a4]at t1;have t3:(!bL x.s (bs [])&& !(chars x.s).any (fun c=>decide (127<c)))=true:=by simpa[bW]using t1
   rw[Bool.and_eq_true,Bool.not_eq_true',Bool.not_eq_true',List.any_eq_false]at t3;have:=t3.2 c hc;simpa using this
 refine⟨bg,fun p=>L p=3∨L p=4,fun p=>L p≠3∧L p≠4,T,hlen,jH ht,hn,fun p x hx ha c hc=>?_,fun p x hx ha c hc=>?_,?_⟩
 ·have hp:=(gS9.1 hx).1;obtain⟨k2,k3,_⟩:=hn p x hx ha;show L c=3∨L c=4;rw[h2.edge p x (Nat.zero_le _) (by omega) hx c hc];simpa[fN,k2,k3]using ha
 ·have hp:=(gS9.1 hx).1;have e:=h2.edge p x (Nat.zero_le _) (by omega) hx c hc
  by_cases k2:x.k=2
  ·rw[if_pos (.inl k2)];left;rw[e];simp[fN,k2]
  ·by_cases k3:x.k=3
   ·rw[if_pos (.inr k3)];right;rw[e];simp[fN,k3]
   ·rw[if_neg (by simp[k2,k3])];show L c≠3∧L c≠4;rw[e];simpa[fN,k2,k3]using ha
 ·show L (t.limits.length - 1)≠3∧L (t.limits.length - 1)≠4;rw[h1];rcases tT h hl with q | q | q | q | q | q<;>rw[q]<;>decide
theorem aGQ{l:List Nd}{bg:List Nat}(T:eB l bg)(hok:∀ x∈l,x.ok=true)(P:Nat→Prop)(B:Int)
  (hn:∀ p x,l[p]? =some x→P p→(x.k=0→0≤x.lo∧x.hi≤B)∧(x.k=1→∀c∈chars x.s,c≤B)) (he:∀ p x,l[p]? =some x→P p→∀c:Nat,(c:Int)∈x.args→P c):
  ∀n i m,i<l.length→P i→cA l n i m=true→0≤m∧m≤B:=by
 intro n
 induction n with
 | zero=>intro i m _ _ h;cases h
 | succ n ih=>
  intro i m hil hP h;have hx:l[i]? =some (l[i]'hil):=gE9 _;generalize l[i]'hil=x at hx;have N:=T.node i x hx;obtain⟨k0,k1⟩:=hn i x hx hP;obtain⟨r1,r2,r3,r4⟩:=dE (hok x (gM9 hx))
  have sub:∀ k,k<x.args.length→cA l n (aG x k) m=true→0≤m∧m≤B:=fun k hk=>by
   obtain⟨m1,m2,m3⟩:=cK N hk;exact ih _ m (by omega) (he i x hx hP _ m1)
  by_cases q0:x.k=0
  ·have:=k0 q0;simp[cA,hx,q0]at h;omega
  ·by_cases q1:x.k=1
   ·have k1:=k1 q1;have e2:cA l (n+1) i m=(chars x.s).any (fun c=>c==m):=by simp[cA,hx,q1]
    rw[e2,List.any_eq_true]at h;obtain⟨c,hc,e⟩:=h;have e:c=m:=by simpa using e
    have a:=k1 c hc;have b:=aDK hc;omega
   ·have pos:=(r4 q0 q1).1
    by_cases q5:x.k=5
    ·have e2:cA l (n+1) i m=(cA l n (aG x 0) m&&cA l n (aG x 1) m):=by simp[cA,hx,q5]
     rw[e2,Bool.and_eq_true]at h;exact sub 0 pos h.1
    ·by_cases q6:x.k=6
     ·have e2:cA l (n+1) i m=(cA l n (aG x 0) m&& !cA l n (aG x 1) m):=by simp[cA,hx,q6]
      rw[e2,Bool.and_eq_true]at h;exact sub 0 pos h.1
     ·have e2:cA l (n+1) i m=(cA l n (aG x 0) m||(decide (1<x.args.length)&&cA l n (aG x 1) m)):=by simp[cA,hx,q0,q1,q5,q6]
      rw[e2,Bool.or_eq_true,Bool.and_eq_true,decide_eq_true_eq]at h;rcases h with h | ⟨h1,h⟩
      ·exact sub 0 pos h
      ·exact sub 1 h1 h
theorem aAU{l:List Nd}{bg:List Nat}{P Q:Nat→Prop}(H:aL9 l bg P Q)(n i:Nat)(m:Int)(h1:i<l.length)(h2:P i)(h3:cA l n i m=true):0≤m∧m≤200:=
 aGQ H.tree H.ok P 200 (fun p x hx hp=>by
  obtain⟨_,_,a,b⟩:=H.node p x hx hp
  exact⟨fun q=>⟨(a q).1,(a q).2.2⟩,fun q c hc=>by have:=(b q).2 c hc;omega⟩) H.edge n i m h1 h2 h3
theorem aE1{l:List Nd}{bg:List Nat}{P Q:Nat→Prop}(H:aL9 l bg P Q):∀ n i,i<n→i<l.length→P i→Gap (spL l n i)∧(∀y∈spL l n i,bad y=false)∧(spL l n i).length≤101:=by
 intro n i hin hil hP
 obtain⟨g,e⟩:=aC2 H.tree H.ok P (fun p x hx hp=>by
  obtain⟨a,b,c,_⟩:=H.node p x hx hp
  exact⟨a,b,fun q=>(c q).2.1⟩) H.edge n i hin hil hP
 have key:∀ y∈spL l n i,0≤y.1∧y.2≤200:=fun y hy=>by
  have hv:=g.valid y hy;have in1:inS (spL l n i) y.1=true:=eA.2 ⟨y,hy,by omega,hv⟩;have in2:inS (spL l n i) y.2=true:=eA.2 ⟨y,hy,hv,by omega⟩;rw[e]at in1 in2;exact⟨(aAU H n i _ hil hP in1).1,(aAU H n i _ hil hP in2).2⟩
 refine⟨g,fun y hy=>(kP y).2 ⟨g.valid y hy,by have:=key y hy;omega,by have:=key y hy;omega⟩,?_⟩;have:=aC1 _ 0 200 g key (by omega);omega
theorem val_zero{t:Ty}{v:Vl}(h:cG t v=0):(dM t).2=0∧v.bN=0∧qL t v=true:=by
 rw[cG]at h
 by_cases q:bT [(dM t).2,v.bN]=0
 ·simp only[q,bne_self_eq_false,Bool.false_eq_true,if_false]at h;simp only[bI,dC]at q
  by_cases a:(dM t).2=0
  ·by_cases b:v.bN=0
   ·refine⟨a,b,?_⟩;cases hf:qL t v
    ·simp[hf]at h
    ·rfl
   ·simp[a,b]at q
  ·simp[a]at q
 ·have:(bT [(dM t).2,v.bN] != 0)=true:=by simpa using q
  rw[if_pos this]at h;exact absurd h q
theorem aGR{l:List Nd}{bg:List Nat}{P Q:Nat→Prop}(H:aL9 l bg P Q)(hl:l.length≠0):Q (cJ l):=by
 have hx:l[l.length - 1]? =some (l[l.length - 1]'(by omega)):=gE9 _;generalize l[l.length - 1]'(by omega)=x at hx;rw[cJ,hx]
 by_cases q:x.k=7
 ·simp only[q,beq_self_eq_true,if_true];obtain⟨_,_,_,r4⟩:=dE (H.ok x (gM9 hx));obtain⟨m1,_,_⟩:=cK (H.tree.node _ x hx) (k:=0) (r4 (by omega) (by omega)).1;have:=H.from_ _ x hx H.last _ m1;rwa [if_neg (by omega)]at this
 ·have:(x.k==7)=false:=by simpa using q
  simp only[this,Bool.false_eq_true,if_false];exact H.last
theorem aLA{t:Ty}{v:Vl}(h:cG t v=0):aG0 t v=(t.limits.length==0||saR t.limits v.n v.s ((v.s.size:Int)+v.items.length) t.limits.length (t.limits.length - 1))∧yI t v=(t.limits.length==0||saR t.limits v.n v.s ((v.s.size:Int)+v.items.length) t.limits.length (cJ t.limits)):=by
 by_cases hl:t.limits.length=0
 ·simp[aG0,yI,hl]
 ·obtain⟨h1,h2,h3⟩:=val_zero h;obtain⟨f1,f2,_⟩:=mW h2;have hk:=tT h1 hl
  have hvk:v.kind=2∨v.kind=4∨v.kind=5∨v.kind=6∨v.kind=10∨v.kind=11:=by
   rw[tS t v f1 (rH (gL h1).1),oH]at h3
   have e:v.kind=iG t.kind:=by
    simp only[Bool.and_eq_true,beq_iff_eq]at h3;exact h3.1
   rw[e];rcases hk with q | q | q | q | q | q<;>rw[q]<;>decide
  have hz:=aFZ f2 hvk;obtain⟨bg,P,Q,H⟩:=tU h1 hl
  have key:=aFX H.tree H.ok P Q (fun p x hx hp=>by
   obtain⟨a,b,c,_⟩:=H.node p x hx hp
   exact⟨a,b,fun q=>(c q).2.1⟩) H.edge H.from_ v.n v.s (eL v)
  have hr:=sP H.tree H.ok hl;rw[aG0,yI,key _ _ (by omega) (by omega) H.last,key _ _ hr hr (aGR H hl),hz];exact⟨rfl,rfl⟩
end Go.Proofs.YtdpbobkcbakpfaaGreatDoor
