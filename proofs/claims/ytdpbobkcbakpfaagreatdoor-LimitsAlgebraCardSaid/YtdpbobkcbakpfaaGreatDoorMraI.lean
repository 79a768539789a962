/- Texts of this proof. -/
import Derived.Test.YtdpbobkcbakpfaaGreatDoorProg
import Derived.Test.YtdpbobkcbakpfaaGreatDoorMraH
namespace Go.Proofs.YtdpbobkcbakpfaaGreatDoor
open Go Go.Ab
open Go.Proofs.Tryz
set_option maxRecDepth 100000
set_option maxHeartbeats 4000000
theorem aCJ(acc:List Sp)(s:Sp):(dJ acc s).length≤acc.length+1:=by
 unfold dJ;split
 ·split
  ·first | (simp;done) | (simp;omega)
  ·simp
 ·simp
theorem aGN(l:List Sp):(mR l).length≤l.length:=by
 have:∀ (l acc:List Sp),(l.foldl dJ acc).length≤acc.length+l.length:=by
  intro l
  induction l with
  | nil=>intro acc;simp
  | cons x r ih=>
   intro acc;have h1:=ih (dJ acc x);have h2:=aCJ acc x;rw[List.foldl_cons,List.length_cons];omega
 have:=this l [];simpa[mR]using this
theorem iW(l:List Sp):(bK l).length≤l.length:=by
 have:=aGN (sX l);rw[aB3]at this;exact this
theorem aB4:∀ (r:List Nd) (bg out:List Nat),cP r bg=some out→∀x∈r,x.ok=true
 | [],_,_,_,x,hx=>by cases hx
 | y::r,bg,out,h,x,hx=>by
  rw[cP]at h;split at h
  ·rename_i hy;split at h
   ·cases h
   ·rcases List.mem_cons.1 hx with e | e
    ·rw[e];exact hy
    ·exact aB4 r _ out h x e
  ·cases h
theorem nK{l:List Nd}(h:bC l=true):∀ x∈l,x.ok=true:=by
 simp only[bC,Bool.and_eq_true,decide_eq_true_eq]at h;obtain⟨_,h⟩:=h;split at h
 ·cases h
 ·rename_i bg hbg;exact aB4 l [] bg hbg
theorem aEP(x y:Sp):(meet x y).length≤1:=by
 unfold meet;split<;>simp
theorem aB5{x y:Sp}(h:y.2<x.1∨x.2<y.1):meet x y=[]:=by
 unfold meet;rw[if_neg];omega
theorem uC{α:Type}{f:α→List Sp}:∀ {l:List α},(∀y∈l,f y=[])→l.flatMap f=[]
 | [],_=>rfl
 | y::r,h=>by rw[List.flatMap_cons,h y (by simp),uC fun z hz=>h z (by simp[hz])];rfl
theorem aB6(c:Int):∀ b:List Sp,Gap b→∃b1 b2,b=b1++b2∧(∀y∈b1,y.2≤c)∧(∀y∈b2,c<y.2)∧Gap b2
 | [],_=>⟨[],[],rfl,by simp,by simp,trivial⟩
 | y::r,h=>by
  by_cases hy:y.2≤c
  ·obtain⟨b1,b2,e,h1,h2,h3⟩:=aB6 c r h.tail
   exact⟨y::b1,b2,by rw[e];rfl,fun z hz=>by
    rcases List.mem_cons.1 hz with q | q
    ·rw[q];exact hy
    ·exact h1 z q,h2,h3⟩
  ·refine⟨[],y::r,rfl,by simp,fun z hz=>?_,h⟩;rcases List.mem_cons.1 hz with q | q
   ·rw[q];omega
   ·have h1:=h.2.1 z q;have h2:=h.valid z hz;omega
theorem aEQ{f:Sp→List Sp}(hf:∀ y,(f y).length≤1):∀ l:List Sp,(l.flatMap f).length≤l.length
 | []=>by simp
 | y::r=>by
  have:=hf y;have:=aEQ hf r;rw[List.flatMap_cons,List.length_append,List.length_cons];omega
theorem lE:∀ (a b:List Sp),Gap a→Gap b→(cO a b).length≤a.length+b.length
 | [],b,_,_=>by simp[cO]
 | x::a,b,ha,hb=>by
  obtain⟨b1,b2,e,h1,h2,h3⟩:=aB6 x.2 b hb;have ih:=lE a b2 ha.tail h3;have e1:cO (x::a) b=b.flatMap (meet x)++cO a b:=by simp[cO]
  have e2:cO a b=cO a b2:=by
   have:∀ a':List Sp,(∀z∈a',z∈a)→cO a' b=cO a' b2:=by
    intro a'
    induction a' with
    | nil=>intro _;rfl
    | cons z r ih=>
     intro hz;have hza:=hz z (by simp)
     have q:b.flatMap (meet z)=b2.flatMap (meet z):=by
      rw[e,List.flatMap_append,uC (l:=b1),List.nil_append];intro y hy;have k1:=h1 y hy;have k2:=ha.2.1 z hza;exact aB5 (by omega)
     have ih':=ih fun w hw=>hz w (by simp[hw])
     simp only[cO,List.flatMap_cons]at ih' ⊢;rw[ih'];congr 1
   exact this a fun z hz=>hz
  have e3:(b.flatMap (meet x)).length≤b1.length+1:=by
   rw[e,List.flatMap_append,List.length_append];have k1:=aEQ (aEP x) b1
   have k2:(b2.flatMap (meet x)).length≤1:=by
    cases b2 with
    | nil=>simp
    | cons y r=>
     rw[List.flatMap_cons,uC (l:=r),List.append_nil]
     ·exact aEP x y
     ·intro z hz;have k3:=h3.2.1 z hz;have k4:=h2 y (by simp);exact aB5 (by omega)
   omega
  have e4:b.length=b1.length+b2.length:=by rw[e];simp
  rw[e1,List.length_append,e2,List.length_cons];omega
theorem aGO{x y z:Sp}(h:z∈meet x y):z.1≤z.2:=by
 unfold meet at h;split at h
 ·rename_i hc;have:=List.mem_singleton.1 h;subst this;exact hc
 ·cases h
theorem vB{a b:List Sp}:∀ z∈cO a b,z.1≤z.2:=by
 intro z hz;simp only[cO,List.mem_flatMap]at hz;obtain⟨x,_,y,_,h⟩:=hz;exact aGO h
theorem jW(x:Sp):bad x=false↔x.1≤x.2∧ -1152921504606846976≤x.1∧x.2≤1152921504606846976:=by
 simp[bad,and_assoc]
theorem aM0{a b c:List Sp}(hc:Gap c)(h:∀ n,inS c n=true→inS a n=true∨inS b n=true)(ha:∀ x∈a,bad x=false)(hb:∀ x∈b,bad x=false):∀ x∈c,bad x=false:=by
 intro x hx;have hv:=hc.valid x hx;have in1:inS c x.1=true:=fM.2 ⟨x,hx,by omega,hv⟩;have in2:inS c x.2=true:=fM.2 ⟨x,hx,hv,by omega⟩
 have bnd:∀ n,inS c n=true→ -1152921504606846976≤n∧n≤1152921504606846976:=fun n hn=>by
  rcases h n hn with q | q
  ·obtain⟨y,hy,y1,y2⟩:=fM.1 q;have:=(jW y).1 (ha y hy);omega
  ·obtain⟨y,hy,y1,y2⟩:=fM.1 q;have:=(jW y).1 (hb y hy);omega
 exact(jW x).2 ⟨hv,(bnd _ in1).1,(bnd _ in2).2⟩
def aJ(x:Nd)(k:Nat):Nat:=(x.args.getD k 0).toNat
def spL(l:List Nd):Nat→Nat→List Sp
 | 0,_=>[]
 | n+1,i=>match l[i]? with
  | none=>[]
  | some x=>if x.k==0 then[(x.lo,x.hi)] else if x.k==1 then bK ((chars x.s).map fun c=>(c,c))else if x.k==2 then spL l n (aJ x 0)
   else if x.args.length<2 then spL l n (aJ x 0)else if x.k==5 then bK (cO (spL l n (aJ x 0)) (spL l n (aJ x 1)))
   else if x.k==6 then bK (aY (spL l n (aJ x 0)) (spL l n (aJ x 1)))else bK (spL l n (aJ x 0)++spL l n (aJ x 1))
def opN(k:Int):Int:=if k==6 then 2 else if k==5 then 1 else 0
def nuR(l:List Nd):Nat→Nat→List Sp
 | 0,_=>[]
 | n+1,i=>match l[i]? with
  | none=>[]
  | some x=>if x.k==0 then[(x.lo,x.hi)] else if x.k==1 then(chars x.s).foldl (fun out c=>gS 0 out [(c,c)] [] (cQ (out++[(c,c)]))) []
   else if x.args.length==1 then nuR l n (aJ x 0)
   else gS (opN x.k) (nuR l n (aJ x 0)) (nuR l n (aJ x 1)) [] (cQ (nuR l n (aJ x 0)++nuR l n (aJ x 1)))
def szR(l:List Nd):Nat→Nat→List Sp
 | 0,_=>[]
 | n+1,i=>match l[i]? with
  | none=>[]
  | some x=>if x.k==2 then nuR l n (aJ x 0)else if x.args.length==1 then szR l n (aJ x 0)
   else gS (opN x.k) (szR l n (aJ x 0)) (szR l n (aJ x 1)) [] (cQ (szR l n (aJ x 0)++szR l n (aJ x 1)))
structure Both (bg:List Nat) (i:Nat) (a b:List Sp):Prop where
 eq:a=b
 gap:Gap a
 good:∀ x∈a,bad x=false
 few:2*a.length≤i - bg.getD i 0+2
theorem aHN(op:Int){a b:List Sp}(ga:Gap a)(gb:Gap b)(ha:∀ x∈a,bad x=false)(hb:∀ x∈b,bad x=false)(c:List Sp)(hc:c=bK (if op=1 then cO a b else if op=2 then aY a b else a++b))(ho:op=0∨op=1∨op=2):
  c=gS op a b [] (cQ (a++b))∧Gap c∧(∀x∈c,bad x=false)∧c.length≤a.length+b.length:=by
 have va:=ga.valid;have vb:=gb.valid;obtain⟨q1,q2⟩:=uA op a b;have w:=dZ (b:=b) (a:=a) ga.asc vb
 have key:Gap c∧(∀n,inS c n=eD op (inS a n) (inS b n))∧c.length≤a.length+b.length:=by
  rcases ho with rfl | rfl | rfl
  ·have n1:=eV (l:=a++b) fun x hx=>by
    rcases List.mem_append.1 hx with h | h
    ·exact va x h
    ·exact vb x h
   have n2:=iW (a++b);simp only[show ¬(0:Int)=1 by decide,show ¬(0:Int)=2 by decide,if_false]at hc;subst hc;refine⟨n1.1,fun n=>by rw[n1.2,fP];simp[eD],by rw[List.length_append]at n2;exact n2⟩
  ·have n1:=eV (l:=cO a b) vB;have n2:=iW (cO a b);have n3:=lE a b ga gb;simp only[if_true]at hc;subst hc;exact⟨n1.1,fun n=>by rw[n1.2,sW];simp[eD],by omega⟩
  ·have n1:=eV (l:=aY a b) w.1.valid;have n2:=iW (aY a b);simp only[show ¬(2:Int)=1 by decide,if_true,if_false]at hc;subst hc;exact⟨n1.1,fun n=>by rw[n1.2,mF va vb];simp[eD],by have:=w.2.1;omega⟩
 obtain⟨k1,k2,k3⟩:=key;refine⟨rM k1 q1 fun n=>by rw[k2,q2],k1,aM0 (a:=a) (b:=b) k1 (fun n hn=>?_) ha hb,k3⟩;rw[k2]at hn;revert hn;rcases ho with rfl | rfl | rfl<;>cases inS a n<;>cases inS b n<;>simp[eD]
theorem cH{bg:List Nat}{i:Nat}{x:Nd}(N:xI bg i x.args){k:Nat}(h:k<x.args.length):(aJ x k:Int)∈x.args∧aJ x k<i∧bg.getD i 0≤bg.getD (aJ x k) 0:=by
 have hm:x.args[k]'h∈x.args:=gL9 h;obtain⟨c,c1,c2,c3⟩:=N.arg _ hm
 have e:aJ x k=c:=by
  simp only[aJ,List.getD_eq_getElem?_getD,gE9 h,Option.getD_some,c1];simp
 rw[e,←c1];exact⟨hm,c2,c3⟩
theorem xY{bg:List Nat}{i:Nat}{x:Nd}(N:xI bg i x.args)(h:x.args.length=2):aJ x 0<bg.getD (aJ x 1) 0:=by
 obtain⟨a,b,e⟩:∃ a b,x.args=[a,b]:=by
  match hx:x.args,h with
  | [a,b],_=>exact⟨a,b,rfl⟩
 have hp:=N.apart;rw[e]at hp;have:=(List.pairwise_cons.1 hp).1 b (by simp);have e0:aJ x 0=a.toNat:=by simp[aJ,e]
 have e1:aJ x 1=b.toNat:=by simp[aJ,e]
 obtain⟨c,c1,_,_⟩:=N.arg a (by rw[e];simp);rw[e0,e1];omega
theorem aB7(k:Int):opN k=0∨opN k=1∨opN k=2:=by
 unfold opN;split
 ·simp
 ·split<;>simp
theorem xZ{l:List Nd}{bg:List Nat}(T:dM l bg)(hok:∀ x∈l,x.ok=true)(P:Nat→Prop)
  (hn:∀ p x,l[p]? =some x→P p→x.k≠1∧x.k≠2∧x.k≠3∧(x.k=0→bad (x.lo,x.hi)=false)) (he:∀ p x,l[p]? =some x→P p→∀c:Nat,(c:Int)∈x.args→P c):
  ∀n i,i<n→i<l.length→P i→Both bg i (spL l n i) (nuR l n i):=by
 intro n
 induction n with
 | zero=>intro i hi;omega
 | succ n ih=>
  intro i hin hil hP;have hx:l[i]? =some (l[i]'hil):=gE9 _;generalize l[i]'hil=x at hx;have N:=T.node i x hx;obtain⟨k1,k2,k3,k0⟩:=hn i x hx hP;have hxok:=hok x (gM9 hx);simp only[Nd.ok,Bool.and_eq_true]at hxok;have hr:=hxok.1.1;have hle:=N.le
  by_cases q0:x.k=0
  ·have e1:spL l (n+1) i=[(x.lo,x.hi)]:=by simp[spL,hx,q0]
   have e2:nuR l (n+1) i=[(x.lo,x.hi)]:=by simp[nuR,hx,q0]
   have hb:=(jW _).1 (k0 q0);rw[e1,e2];exact⟨rfl,⟨hb.1,by simp,trivial⟩,fun y hy=>by rw[List.mem_singleton.1 hy];exact k0 q0,by simp⟩
  ·have sub:∀ k,k<x.args.length→Both bg (aJ x k) (spL l n (aJ x k)) (nuR l n (aJ x k)):=fun k hk=>by
    obtain⟨m1,m2,m3⟩:=cH N hk;exact ih _ (by omega) (by omega) (he i x hx hP _ m1)
   by_cases one:x.args.length=1
   ·have e1:spL l (n+1) i=spL l n (aJ x 0):=by simp[spL,hx,q0,k1,k2,one]
    have e2:nuR l (n+1) i=nuR l n (aJ x 0):=by simp[nuR,hx,q0,k1,one]
    obtain⟨m1,m2,m3⟩:=cH N (k:=0) (by omega);obtain⟨b1,b2,b3,b4⟩:=sub 0 (by omega);rw[e1,e2];exact⟨b1,b2,b3,by omega⟩
   ·have two:x.args.length=2:=by
     unfold Nd.right at hr;simp only[q0,k1,k2,k3,or_self,if_false]at hr;split at hr
     ·simpa using hr
     ·split at hr
      ·have:=of_decide_eq_true hr;omega
      ·cases hr
    obtain⟨m1,m2,m3⟩:=cH N (k:=0) (by omega);obtain⟨p1,p2,p3⟩:=cH N (k:=1) (by omega);have ap:=xY N two;have le0:=(T.node (aJ x 0) _ (gE9 (show aJ x 0<l.length by omega))).le;have le1:=(T.node (aJ x 1) _ (gE9 (show aJ x 1<l.length by omega))).le;obtain⟨a1,a2,a3,a4⟩:=sub 0 (by omega);obtain⟨b1,b2,b3,b4⟩:=sub 1 (by omega)
    have e2:nuR l (n+1) i=gS (opN x.k) (nuR l n (aJ x 0)) (nuR l n (aJ x 1)) [] (cQ (nuR l n (aJ x 0)++nuR l n (aJ x 1))):=by
     simp[nuR,hx,q0,k1,one]
    rw[←a1,←b1]at e2
    have e1:spL l (n+1) i=bK (if opN x.k=1 then cO (spL l n (aJ x 0)) (spL l n (aJ x 1))else if opN x.k=2 then aY (spL l n (aJ x 0)) (spL l n (aJ x 1))else spL l n (aJ x 0)++spL l n (aJ x 1)):=by
     by_cases q5:x.k=5
     ·simp[spL,hx,q5,two,opN]
     ·by_cases q6:x.k=6
      ·simp[spL,hx,q6,two,opN]
      ·simp[spL,hx,q0,k1,k2,q5,q6,two,opN]
    obtain⟨c1,c2,c3,c4⟩:=aHN (opN x.k) a2 b2 a3 b3 _ e1 (aB7 _);exact⟨c1.trans e2.symm,c2,c3,by omega⟩
theorem aJB{l:List Nd}{bg:List Nat}(T:dM l bg)(hok:∀ x∈l,x.ok=true)(P Q:Nat→Prop)
  (hn:∀ p x,l[p]? =some x→P p→x.k≠1∧x.k≠2∧x.k≠3∧(x.k=0→bad (x.lo,x.hi)=false)) (he:∀ p x,l[p]? =some x→P p→∀c:Nat,(c:Int)∈x.args→P c)
  (hq:∀ p x,l[p]? =some x→Q p→x.k≠0∧x.k≠1∧x.k≠3) (hf:∀ p x,l[p]? =some x→Q p→∀c:Nat,(c:Int)∈x.args→if x.k=2 then P c else Q c):
  ∀n i,i<n→i<l.length→Q i→Both bg i (spL l n i) (szR l n i):=by
 intro n
 induction n with
 | zero=>intro i hi;omega
 | succ n ih=>
  intro i hin hil hQ;have hx:l[i]? =some (l[i]'hil):=gE9 _;generalize l[i]'hil=x at hx;have N:=T.node i x hx;obtain⟨k0,k1,k3⟩:=hq i x hx hQ;have hxok:=hok x (gM9 hx);simp only[Nd.ok,Bool.and_eq_true]at hxok;have hr:=hxok.1.1;have hle:=N.le
  by_cases q2:x.k=2
  ·have one:x.args.length=1:=by
    unfold Nd.right at hr;simpa[q2]using hr
   have e1:spL l (n+1) i=spL l n (aJ x 0):=by simp[spL,hx,q2]
   have e2:szR l (n+1) i=nuR l n (aJ x 0):=by simp[szR,hx,q2]
   obtain⟨m1,m2,m3⟩:=cH N (k:=0) (by omega);have hP:=hf i x hx hQ _ m1;rw[if_pos q2]at hP;obtain⟨b1,b2,b3,b4⟩:=xZ T hok P hn he n (aJ x 0) (by omega) (by omega) hP;rw[e1,e2];exact⟨b1,b2,b3,by omega⟩
  ·have sub:∀ k,k<x.args.length→Both bg (aJ x k) (spL l n (aJ x k)) (szR l n (aJ x k)):=fun k hk=>by
    obtain⟨m1,m2,m3⟩:=cH N hk;have:=hf i x hx hQ _ m1;rw[if_neg q2]at this;exact ih _ (by omega) (by omega) this
   by_cases one:x.args.length=1
   ·have e1:spL l (n+1) i=spL l n (aJ x 0):=by simp[spL,hx,k0,k1,q2,one]
    have e2:szR l (n+1) i=szR l n (aJ x 0):=by simp[szR,hx,q2,one]
    obtain⟨m1,m2,m3⟩:=cH N (k:=0) (by omega);obtain⟨b1,b2,b3,b4⟩:=sub 0 (by omega);rw[e1,e2];exact⟨b1,b2,b3,by omega⟩
   ·have two:x.args.length=2:=by
     unfold Nd.right at hr;simp only[k0,k1,q2,k3,or_self,if_false]at hr;split at hr
     ·simpa using hr
     ·split at hr
      ·have:=of_decide_eq_true hr;omega
      ·cases hr
    obtain⟨m1,m2,m3⟩:=cH N (k:=0) (by omega);obtain⟨p1,p2,p3⟩:=cH N (k:=1) (by omega);have ap:=xY N two;have le0:=(T.node (aJ x 0) _ (gE9 (show aJ x 0<l.length by omega))).le;have le1:=(T.node (aJ x 1) _ (gE9 (show aJ x 1<l.length by omega))).le;obtain⟨a1,a2,a3,a4⟩:=sub 0 (by omega);obtain⟨b1,b2,b3,b4⟩:=sub 1 (by omega)
    have e2:szR l (n+1) i=gS (opN x.k) (szR l n (aJ x 0)) (szR l n (aJ x 1)) [] (cQ (szR l n (aJ x 0)++szR l n (aJ x 1))):=by
     simp[szR,hx,q2,one]
    rw[←a1,←b1]at e2
    have e1:spL l (n+1) i=bK (if opN x.k=1 then cO (spL l n (aJ x 0)) (spL l n (aJ x 1))else if opN x.k=2 then aY (spL l n (aJ x 0)) (spL l n (aJ x 1))else spL l n (aJ x 0)++spL l n (aJ x 1)):=by
     by_cases q5:x.k=5
     ·simp[spL,hx,q5,two,opN]
     ·by_cases q6:x.k=6
      ·simp[spL,hx,q6,two,opN]
      ·simp[spL,hx,k0,k1,q2,q5,q6,two,opN]
    obtain⟨c1,c2,c3,c4⟩:=aHN (opN x.k) a2 b2 a3 b3 _ e1 (aB7 _);exact⟨c1.trans e2.symm,c2,c3,by omega⟩
def cN(l:List Nd):Nat→Nat→Int→Bool
 | 0,_,_=>false
 | n+1,i,m=>match l[i]? with
  | none=>false
  | some x=>if x.k==0 then decide (x.lo≤m)&&decide (m≤x.hi)else if x.k==1 then(chars x.s).any (fun c=>c==m)
   else if x.k==5 then cN l n (aJ x 0) m&&cN l n (aJ x 1) m else if x.k==6 then cN l n (aJ x 0) m&& !cN l n (aJ x 1) m
   else cN l n (aJ x 0) m||(decide (1<x.args.length)&&cN l n (aJ x 1) m)
theorem aCK:∀ (l:List Sp) (a b:Int),Gap l→(∀x∈l,a≤x.1∧x.2≤b)→a≤b+2→2*(l.length:Int)≤b - a+2
 | [],a,b,_,_,h=>by simp;omega
 | x::r,a,b,h,hb,_=>by
  obtain⟨h1,h2,h3⟩:=h;have hx:=hb x (by simp);have ih:=aCK r (x.2+2) b h3 (fun y hy=>⟨by have:=h2 y hy;omega,(hb y (by simp[hy])).2⟩) (by omega);rw[List.length_cons];omega
theorem vS{l:List Nd}{bg:List Nat}(T:dM l bg)(hok:∀ x∈l,x.ok=true)(P:Nat→Prop)
  (hn:∀ p x,l[p]? =some x→P p→x.k≠2∧x.k≠3∧(x.k=0→x.lo≤x.hi)) (he:∀ p x,l[p]? =some x→P p→∀c:Nat,(c:Int)∈x.args→P c):
  ∀n i,i<n→i<l.length→P i→Gap (spL l n i)∧∀m,inS (spL l n i) m=cN l n i m:=by
 intro n
 induction n with
 | zero=>intro i hi;omega
 | succ n ih=>
  intro i hin hil hP;have hx:l[i]? =some (l[i]'hil):=gE9 _;generalize l[i]'hil=x at hx;have N:=T.node i x hx;obtain⟨k2,k3,k0⟩:=hn i x hx hP;have hr:=hok x (gM9 hx);simp only[Nd.ok,Bool.and_eq_true]at hr;have hr:=hr.1.1
  have sub:∀ k,k<x.args.length→Gap (spL l n (aJ x k))∧∀m,inS (spL l n (aJ x k)) m=cN l n (aJ x k) m:=fun k hk=>by
   obtain⟨m1,m2,m3⟩:=cH N hk;exact ih _ (by omega) (by omega) (he i x hx hP _ m1)
  by_cases q0:x.k=0
  ·have e1:spL l (n+1) i=[(x.lo,x.hi)]:=by simp[spL,hx,q0]
   rw[e1];refine⟨⟨k0 q0,by simp,trivial⟩,fun m=>?_⟩;simp[cN,hx,q0,inS]
  ·by_cases q1:x.k=1
   ·have e1:spL l (n+1) i=bK ((chars x.s).map fun c=>(c,c)):=by simp[spL,hx,q1]
    obtain⟨g1,g2⟩:=eV (l:=(chars x.s).map fun c=>((c,c):Sp)) fun y hy=>by
     obtain⟨c,_,rfl⟩:=List.mem_map.1 hy;exact Int.le_refl _
    rw[e1];refine⟨g1,fun m=>?_⟩;rw[g2];have e2:cN l (n+1) i m=(chars x.s).any (fun c=>c==m):=by simp[cN,hx,q1]
    rw[e2,inS,List.any_map];refine any_congr fun c _=>?_
    rw[Bool.eq_iff_iff];simp;omega
   ·have pos:0<x.args.length:=by
     unfold Nd.right at hr;simp only[q0,q1,or_self,if_false]at hr;split at hr
     ·have:=of_decide_eq_true hr;omega
     ·split at hr
      ·have:=of_decide_eq_true hr;omega
      ·split at hr
       ·have:=of_decide_eq_true hr;omega
       ·cases hr
    obtain⟨a1,a2⟩:=sub 0 pos
    by_cases one:x.args.length=1
    ·have n5:x.k≠5:=fun e=>by
      unfold Nd.right at hr;simp[e]at hr;omega
     have n6:x.k≠6:=fun e=>by
      unfold Nd.right at hr;simp[e]at hr;omega
     have e1:spL l (n+1) i=spL l n (aJ x 0):=by simp[spL,hx,q0,q1,k2,one]
     rw[e1];refine⟨a1,fun m=>?_⟩;have e2:cN l (n+1) i m=cN l n (aJ x 0) m:=by simp[cN,hx,q0,q1,n5,n6,one]
     rw[e2,a2]
    ·obtain⟨b1,b2⟩:=sub 1 (by omega);have two:¬ x.args.length<2:=by omega
     have two':1<x.args.length:=by omega
     have va:=a1.valid;have vb:=b1.valid
     by_cases q5:x.k=5
     ·have e1:spL l (n+1) i=bK (cO (spL l n (aJ x 0)) (spL l n (aJ x 1))):=by simp[spL,hx,q5,two]
      obtain⟨g1,g2⟩:=eV (l:=cO (spL l n (aJ x 0)) (spL l n (aJ x 1))) vB;rw[e1];refine⟨g1,fun m=>?_⟩;have e2:cN l (n+1) i m=(cN l n (aJ x 0) m&&cN l n (aJ x 1) m):=by simp[cN,hx,q5]
      rw[g2,sW,a2,b2,e2]
     ·by_cases q6:x.k=6
      ·have e1:spL l (n+1) i=bK (aY (spL l n (aJ x 0)) (spL l n (aJ x 1))):=by simp[spL,hx,q6,two]
       have w:=dZ (b:=spL l n (aJ x 1)) (a:=spL l n (aJ x 0)) a1.asc vb;obtain⟨g1,g2⟩:=eV (l:=aY (spL l n (aJ x 0)) (spL l n (aJ x 1))) w.1.valid;rw[e1];refine⟨g1,fun m=>?_⟩;have e2:cN l (n+1) i m=(cN l n (aJ x 0) m&& !cN l n (aJ x 1) m):=by simp[cN,hx,q6]
       rw[g2,mF va vb,a2,b2,e2]
      ·have e1:spL l (n+1) i=bK (spL l n (aJ x 0)++spL l n (aJ x 1)):=by simp[spL,hx,q0,q1,k2,q5,q6,two]
       obtain⟨g1,g2⟩:=eV (l:=spL l n (aJ x 0)++spL l n (aJ x 1)) fun y hy=>by
        rcases List.mem_append.1 hy with q | q
        ·exact va y q
        ·exact vb y q
       rw[e1];refine⟨g1,fun m=>?_⟩;have e2:cN l (n+1) i m=(cN l n (aJ x 0) m||cN l n (aJ x 1) m):=by simp[cN,hx,q0,q1,q5,q6,two']
       rw[g2,fP,a2,b2,e2]
def hoL(l:List Nd)(vn:Int)(vs:ByteArray)(sz:Int):Nat→Nat→Bool
 | 0,_=>false
 | n+1,i=>match l[i]? with
  | none=>false
  | some x=>if x.k==0 then decide (x.lo≤vn)&&decide (vn≤x.hi)else if x.k==1 then bR vs x.s else if x.k==2 then inS (spL l n (aJ x 0)) sz
   else if x.k==3 then !(chars vs).any (fun c=> !inS (spL l n (aJ x 0)) c)else if x.k==5 then hoL l vn vs sz n (aJ x 0)&&hoL l vn vs sz n (aJ x 1)
   else if x.k==6 then hoL l vn vs sz n (aJ x 0)&& !hoL l vn vs sz n (aJ x 1)else x.args.any fun a=>hoL l vn vs sz n a.toNat
def saR(l:List Nd)(vn:Int)(vs:ByteArray)(sz:Int):Nat→Nat→Bool
 | 0,_=>false
 | n+1,i=>match l[i]? with
  | none=>false
  | some x=>if x.k==0 then decide (x.lo≤vn)&&decide (vn≤x.hi)else if x.k==1 then bR vs x.s else if x.k==2 then cN l n (aJ x 0) sz
   else if x.k==3 then(chars vs).all (fun c=>cN l n (aJ x 0) c)else if x.k==5 then saR l vn vs sz n (aJ x 0)&&saR l vn vs sz n (aJ x 1)
   else if x.k==6 then saR l vn vs sz n (aJ x 0)&& !saR l vn vs sz n (aJ x 1)else saR l vn vs sz n (aJ x 0)||(decide (1<x.args.length)&&saR l vn vs sz n (aJ x 1))
theorem aGP{l:List Nd}{bg:List Nat}(T:dM l bg)(hok:∀ x∈l,x.ok=true)(P Q:Nat→Prop)
  (hn:∀ p x,l[p]? =some x→P p→x.k≠2∧x.k≠3∧(x.k=0→x.lo≤x.hi)) (he:∀ p x,l[p]? =some x→P p→∀c:Nat,(c:Int)∈x.args→P c)
  (hf:∀ p x,l[p]? =some x→Q p→∀c:Nat,(c:Int)∈x.args→if x.k=2∨x.k=3 then P c else Q c) (vn:Int) (vs:ByteArray) (sz:Int):
  ∀n i,i<n→i<l.length→Q i→hoL l vn vs sz n i=saR l vn vs sz n i:=by
 intro n
 induction n with
 | zero=>intro i hi;omega
 | succ n ih=>
  intro i hin hil hQ;have hx:l[i]? =some (l[i]'hil):=gE9 _;generalize l[i]'hil=x at hx;have N:=T.node i x hx;have hr:=hok x (gM9 hx);simp only[Nd.ok,Bool.and_eq_true]at hr;have hr:=hr.1.1
  by_cases q0:x.k=0
  ·simp[hoL,saR,hx,q0]
  ·by_cases q1:x.k=1
   ·simp[hoL,saR,hx,q1]
   ·by_cases q23:x.k=2∨x.k=3
    ·have one:x.args.length=1:=by
      unfold Nd.right at hr;simp only[q0,q1,or_self,if_false,q23,if_true]at hr;exact of_decide_eq_true hr
     obtain⟨m1,m2,m3⟩:=cH N (k:=0) (by omega);have hP:=hf i x hx hQ _ m1;rw[if_pos q23]at hP;obtain⟨_,g⟩:=vS T hok P hn he n _ (by omega) (by omega) hP;rcases q23 with q | q
     ·simp[hoL,saR,hx,q,g]
     ·have e1:hoL l vn vs sz (n+1) i= !(chars vs).any (fun c=> !inS (spL l n (aJ x 0)) c):=by simp only[hoL,hx];simp[q]
      have e2:saR l vn vs sz (n+1) i=(chars vs).all (fun c=>cN l n (aJ x 0) c):=by simp only[saR,hx];simp[q]
      rw[e1,e2,List.not_any_eq_all_not];congr 1;funext c;rw[g];simp
    ·have sub:∀ k,k<x.args.length→hoL l vn vs sz n (aJ x k)=saR l vn vs sz n (aJ x k):=fun k hk=>by
      obtain⟨m1,m2,m3⟩:=cH N hk;have:=hf i x hx hQ _ m1;rw[if_neg q23]at this;exact ih _ (by omega) (by omega) this
     have n2:x.k≠2:=fun e=>q23 (.inl e)
     have n3:x.k≠3:=fun e=>q23 (.inr e)
     have len:x.args.length=1∨x.args.length=2:=by
      unfold Nd.right at hr;simp only[q0,q1,n2,n3,or_self,if_false]at hr;split at hr
      ·right;exact of_decide_eq_true hr
      ·split at hr
       ·exact of_decide_eq_true hr
       ·cases hr
     have c0:=sub 0 (by omega)
     by_cases q5:x.k=5
     ·have two:x.args.length=2:=by
       unfold Nd.right at hr;simpa[q5]using hr
      have c1:=sub 1 (by omega);simp[hoL,saR,hx,q5,c0,c1]
     ·by_cases q6:x.k=6
      ·have two:x.args.length=2:=by
        unfold Nd.right at hr;simpa[q6]using hr
       have c1:=sub 1 (by omega);simp[hoL,saR,hx,q6,c0,c1]
      ·have e1:hoL l vn vs sz (n+1) i=x.args.any fun a=>hoL l vn vs sz n a.toNat:=by simp[hoL,hx,q0,q1,n2,n3,q5,q6]
       have e2:saR l vn vs sz (n+1) i=(saR l vn vs sz n (aJ x 0)||(decide (1<x.args.length)&&saR l vn vs sz n (aJ x 1))):=by simp[saR,hx,q0,q1,n2,n3,q5,q6]
       rw[e1,e2];rcases len with q | q
       ·obtain⟨a,ea⟩:∃ a,x.args=[a]:=by
         match h:x.args,q with
         | [a],_=>exact⟨a,rfl⟩
        have e3:aJ x 0=a.toNat:=by simp[aJ,ea]
        rw[←c0,e3];simp[ea]
       ·have c1:=sub 1 (by omega)
        obtain⟨a,b,ea⟩:∃ a b,x.args=[a,b]:=by
         match h:x.args,q with
         | [a,b],_=>exact⟨a,b,rfl⟩
        have e3:aJ x 0=a.toNat:=by simp[aJ,ea]
        have e4:aJ x 1=b.toNat:=by simp[aJ,ea]
        rw[←c0,←c1,e3,e4];simp[ea]
def c123:aB:=zs 0 1 [zW 3 false] (zs 1 6 [zl 4 1,zv 5 0,zo 6 (.dO .i64 (.tmp 5)),zq 7 120 [4,6],zN 8 7,zv 3 8] .ret)
theorem k123:Compiled prog 123 9 [.tmp 3] c123:=kMk [] func123
def d00:aB:=zd 11 (zs 2 1 [zW 4 false] .ret) .skip
def d01:aB:=zd 19 (zs 4 1 [zW 4 true] .ret) .skip
def d02:aB:=zd 40 (zs 9 17 [zv 41 6,zv 42 9,zB 43 .eql 41 42,zv 44 43,.grp 44 true [zg 45 (zm 8) 44 true,zg 46 (zm 9) 44 true,zg 47 (zO .eql 45 46) 44 true],zP 48 44 47,zv 49 48,.grp 49 true [zg 50 (zm 5) 49 true,zg 51 (zV 50) 49 true],zP 52 49 51,zv 53 52,.grp 53 true [zg 54 (zm 7) 53 true,zg 55 (zV 54) 53 true],zP 56 53 55,zv 4 56] .ret) .skip
def d03:aB:= .seq (zs 8 2 [zv 39 9,zK 40 .neq 39 0] d02) (zs 10 21 [zv 57 6,zK 58 .eql 57 0,zv 59 58,.grp 59 true [zg 60 (zm 8) 59 true,zg 61 (zU .eql 60 0) 59 true],zP 62 59 61,zv 63 62,.br 63 true [zg 64 (zm 5) 63 true,zg 65 (zt 8 2) 63 true,zg 66 (zt 6 3) 63 true,.mk (some 67) (zw 26 [65,66]) (some (63,true)),zg 68 (.bin .eql true (.tmp 64) (.tmp 67)) 63 true],zP 69 63 68,zv 70 69,.br 70 true [zg 71 (zm 7) 70 true,zg 72 (zt 8 2) 70 true,zg 73 (zt 6 3) 70 true,.mk (some 74) (zw 27 [72,73]) (some (70,true)),zg 75 (.bin .eql true (.tmp 71) (.tmp 74)) 70 true],zP 76 70 75,zv 4 76] .ret)
def d04:aB:=zs 7 4 [zA 36 8 2,zA 37 6 3,zq 38 25 [36,37],zv 9 38] d03
def d05:aB:= .seq (.region 6 true 10 [zA 29 8 2,zq 30 15 [29],zA 31 6 3,zq 32 23 [31],zq 33 24 [30,32],zv 28 33,zE 34 0 28,zE 35 1 28,zv 7 34,zv 8 35]) d04
def d06:aB:= .seq (.region 5 true 10 [zA 21 8 2,zq 22 15 [21],zA 23 6 3,zq 24 23 [23],zq 25 22 [22,24],zv 20 25,zE 26 0 20,zE 27 1 20,zv 5 26,zv 6 27]) d05
def d07:aB:= .seq (zs 3 8 [zA 12 8 2,zq 13 13 [12],zN 14 13,zv 15 14,.br 15 false [zg 16 (zt 6 3) 15 false,.mk (some 17) (zw 21 [16]) (some (15,false)),zg 18 (zV 17) 15 false],zQ 19 15 18] d01) d06
def d08:aB:= .seq (zs 1 2 [zc 10 12 [],zN 11 10] d00) d07
def c4:aB:=zs 0 3 [zX 2 8 0,zX 3 6 1,zW 4 false] d08
theorem k4:Compiled prog 4 77 [.tmp 4] c4:=kMk [] func4
section
attribute [local simp] bE aM aQ aG aV aO aX tyC fdC vlC ndC aL D.cR D.pt
theorem aCL{bg:List Nat}{i:Nat}{x:Nd}(N:xI bg i x.args){k:Nat}(h:k<x.args.length):x.args[k]? =some ((aJ x k:Nat):Int):=by
 obtain⟨c,c1,_,_⟩:=N.arg _ (gL9 h);simp only[aJ,List.getD_eq_getElem?_getD,gE9 h,Option.getD_some,c1];simp
theorem fQ{x:Nd}(h:x.ok=true):(x.k=0∨x.k=1→x.args.length=0)∧(x.k=2∨x.k=3→x.args.length=1)∧(x.k=4∨x.k=5∨x.k=6→x.args.length=2)∧(x.k≠0→x.k≠1→0<x.args.length∧x.args.length≤2):=by
 simp only[Nd.ok,Bool.and_eq_true]at h;have hr:=h.1.1;unfold Nd.right at hr;split at hr
 ·have:=of_decide_eq_true hr;rename_i q;exact⟨fun _=>this,by omega,by omega,by omega⟩
 ·split at hr
  ·have:=of_decide_eq_true hr;rename_i q _;exact⟨by omega,by omega,by omega,by omega⟩
  ·split at hr
   ·have:=of_decide_eq_true hr;exact⟨by omega,by omega,by omega,by omega⟩
   ·split at hr
    ·have:=of_decide_eq_true hr;exact⟨by omega,by omega,by omega,by omega⟩
    ·cases hr
attribute [local simp] oY D.oH
end
section
attribute [local simp] bE aM aQ aG aV aO aX tyC fdC vlC ndC aL D.cR D.pt
attribute [local simp] oY D.oH
end
section
attribute [local simp] bE aM aQ aG aV aO aX tyC fdC vlC ndC aL D.cR D.pt
attribute [local simp] oY D.oH
def aGQ(k:Int):Int:=if k==9||k==10 then 9 else if k==11 then 10 else if k==12 then 11 else if k==13 then 12 else if k==14 then 13 else if k==15 then -1 else k
def aM1(t:Ty)(v:Vl):Bool:=v.kind==aGQ t.kind&& !(t.kind==6&&(chars v.s).any fun c=> !inS (alpha t.name) c)
end
section
attribute [local simp] bE aM aQ aG aV aO aX tyC fdC vlC ndC aL D.cR D.pt
def fN(l:List Nd):Nat:=match l[l.length - 1]? with | some x=>if x.k==7 then aJ x 0 else l.length - 1 | none=>0
theorem aER{l:List Nd}{bg:List Nat}(T:dM l bg)(hok:∀ x∈l,x.ok=true)(hne:l.length≠0):fN l<l.length:=by
 have hx:l[l.length - 1]? =some (l[l.length - 1]'(by omega)):=gE9 _;generalize l[l.length - 1]'(by omega)=x at hx;obtain⟨r1,r2,r3,r4⟩:=fQ (hok x (gM9 hx));simp only[fN,hx];split
 ·rename_i k7;have k7:x.k=7:=by simpa using k7
  have pos:=(r4 (by omega) (by omega)).1;have:=(cH (T.node _ x hx) pos).2.1;omega
 ·omega
end
theorem oE:∀ {l:List Int},(cV l).2=0→∀e∈l,e=0
 | [],_,e,he=>by cases he
 | x::r,h,e,he=>by
  by_cases hx:x=0
  ·simp only[cV,hx,beq_self_eq_true,if_true]at h;rcases List.mem_cons.1 he with q | q
   ·rw[q];exact hx
   ·exact oE h e q
  ·simp[cV,hx]at h
theorem kL{t:Ty}{x:Nd}{r:Bool}{a:Int}(h:kJ t x r a=0):dI t.kind x.k a=true∧(x.k=0→kQ x (hZ t.kind a)=true):=by
 simp only[kJ]at h;cases hs:dI t.kind x.k a
 ·rw[hs]at h;simp only[bT,cZ]at h
  by_cases q:(x.k != 7||r)=true
  ·simp[q]at h
  ·simp[q]at h
 ·refine⟨rfl,fun k0=>?_⟩;rw[hs]at h;cases hb:kQ x (hZ t.kind a)
  ·simp[bT,cZ,k0,hb]at h
  ·rfl
theorem vC{x:Nd}{k a:Int}(h:kQ x (hZ k a)=true)(ha:a=0∨a=3):bad (x.lo,x.hi)=false:=by
 rw[jW];simp only[kQ,Bool.and_eq_true,decide_eq_true_eq]at h;obtain⟨⟨h1,h2⟩,h3⟩:=h;rcases ha with rfl | rfl
 ·simp only[hZ,show((0:Int)==3)=false by decide,show((0:Int)==4)=false by decide,Bool.false_eq_true,if_false]at h2 h3;exact⟨h1,h2,h3⟩
 ·have e:hZ k 3=(0,iQ k):=rfl;rw[e]at h2 h3;have m:iQ k≤200:=by unfold iQ;split<;>omega
  exact⟨h1,by omega,by omega⟩
theorem gT{t:Ty}(h:(eK t).2=0):t.check=0∧(rI t).2=0:=by
 simp only[eK]at h
 by_cases q:t.check=0
 ·simp only[q,bne_self_eq_false,Bool.false_eq_true,if_false]at h;exact⟨q,h⟩
 ·have:(t.check != 0)=true:=by simpa using q
  rw[if_pos this]at h;exact absurd h q
theorem pM{t:Ty}(h:(eK t).2=0)(hl:t.limits.length≠0):bC t.limits=true∧∃L:Nat→Int,L (t.limits.length - 1)=eJ t.kind∧Lab t.limits gH L (t.limits.length - 1) 0∧∀p x,t.limits[p]? =some x→∃r,kJ t x r (L p)=0:=by
 obtain⟨h1,h2⟩:=gT h;have ht:=dE t h1;obtain⟨hlen,bg,T⟩:=bX ht
 have h3:(cV (jK t (lk (cL t)))).2=0:=by
  simp only[rI]at h2;have e:(t.limits.length==0)=false:=by simpa using hl
  rw[e]at h2;simp only[Bool.false_eq_true,if_false]at h2;split at h2
  ·cases h2
  ·exact h2
 obtain⟨_,p2,p3⟩:=pE (f:=gH) T t.limits.length (t.limits.length - 1) (eJ t.kind) (List.replicate t.limits.length 0) (by omega) (by omega) (by simp);rw[T.root]at p3;refine⟨ht,lk (cL t),p2,p3,fun p x hx=>⟨p+1==t.limits.length,?_⟩⟩;have hp:=(gS9.1 hx).1
 have he:(jK t (lk (cL t)))[p]? =some (kJ t x (p+1==t.limits.length) (lk (cL t) p)):=by
  simp[jK,List.getElem?_mapIdx,hx]
 exact oE h3 _ (gM9 he)
theorem oF{t:Ty}(h:(eK t).2=0)(hl:t.limits.length≠0)(hk:t.kind=2∨t.kind=11∨t.kind=12):∃ bg,∃P Q:Nat→Prop,dM t.limits bg∧t.limits.length≤20∧(∀x∈t.limits,x.ok=true)∧
  (∀p x,t.limits[p]? =some x→P p→x.k≠1∧x.k≠2∧x.k≠3∧(x.k=0→bad (x.lo,x.hi)=false))∧(∀p x,t.limits[p]? =some x→P p→∀c:Nat,(c:Int)∈x.args→P c)∧
  (∀p x,t.limits[p]? =some x→Q p→x.k≠0∧x.k≠1∧x.k≠3)∧(∀p x,t.limits[p]? =some x→Q p→∀c:Nat,(c:Int)∈x.args→if x.k=2 then P c else Q c)∧
  (t.kind=2→P (t.limits.length - 1))∧(t.kind≠2→Q (t.limits.length - 1)):=by
 obtain⟨ht,L,h1,h2,h3⟩:=pM h hl;obtain⟨hlen,bg,T⟩:=bX ht
 have hn:∀ p x,t.limits[p]? =some x→(L p=0∨L p=3)→x.k≠1∧x.k≠2∧x.k≠3∧(x.k=0→bad (x.lo,x.hi)=false):=fun p x hx ha=>by
  obtain⟨r,hr⟩:=h3 p x hx;obtain⟨s1,s2⟩:=kL hr;refine⟨fun e=>?_,fun e=>?_,fun e=>?_,fun e=>vC (s2 e) ha⟩
  all_goals
   rw[e]at s1;rcases ha with q | q<;>rw[q]at s1<;>simp[dI]at s1
 have hq:∀ p x,t.limits[p]? =some x→L p=2→x.k≠0∧x.k≠1∧x.k≠3:=fun p x hx ha=>by
  obtain⟨r,hr⟩:=h3 p x hx;obtain⟨s1,_⟩:=kL hr;refine⟨fun e=>?_,fun e=>?_,fun e=>?_⟩
  all_goals
   rw[e,ha]at s1;simp[dI]at s1
 refine⟨bg,fun p=>L p=0∨L p=3,fun p=>L p=2,T,hlen,nK ht,hn,fun p x hx ha c hc=>?_,hq,fun p x hx ha c hc=>?_,fun hk2=>?_,fun hk2=>?_⟩
 ·have hp:=(gS9.1 hx).1;obtain⟨_,k2,k3,_⟩:=hn p x hx ha;show L c=0∨L c=3;rw[h2.edge p x (Nat.zero_le _) (by omega) hx c hc];simpa[gH,k2,k3]using ha
 ·have hp:=(gS9.1 hx).1;obtain⟨_,_,k3⟩:=hq p x hx ha;have e:=h2.edge p x (Nat.zero_le _) (by omega) hx c hc
  by_cases k2:x.k=2
  ·rw[if_pos k2];right;rw[e];simp[gH,k2]
  ·rw[if_neg k2];show L c=2;rw[e];simpa[gH,k2,k3]using ha
 ·left;rw[h1,hk2];rfl
 ·show L (t.limits.length - 1)=2;rw[h1];rcases hk with q | q | q
  ·exact absurd q hk2
  ·rw[q];rfl
  ·rw[q];rfl
theorem uB.more{d:D}{h:Hp}{nx nx' did did':Nat}{acc:List Sp}(ho:uB d h nx acc did)(hn:nx≤nx')(hd:nx≤did'∨did'=did):uB d h nx' acc did':=by
 rcases ho with ho | ⟨h1,id,ver,h2,h3,h4⟩
 ·exact .inl ho
 ·exact .inr ⟨h1,id,ver,by omega,by omega,h4⟩
theorem uB.set{d:D}{h:Hp}{nx did j:Nat}{o:O}{acc:List Sp}(ho:uB d h nx acc did)(hj:nx≤j):uB d (h.set j o) nx acc did:=by
 rcases ho with ho | ⟨h1,id,ver,h2,h3,h4,h5,h6,h7,h8⟩
 ·exact .inl ho
 ·have hne:id≠j:=by omega
  refine .inr ⟨h1,id,ver,h2,h3,h4,?_,?_,?_,?_⟩
  ·unfold Ab.alive Hp.set at*; rw[if_neg hne];exact h5
  ·unfold Hp.rows Hp.set at*; rw[if_neg hne];exact h6
  ·unfold Hp.sz Hp.set at*; rw[if_neg hne];exact h7
  ·unfold Hp.shut Hp.set at*; rw[if_neg hne];exact h8
def BIn(x:Sp)(b:List Sp)(bx:Nat)(yX:List Sp)(st:St)(k:Nat)(st1:St):Prop:=
 ∃(j:Nat) (acc:List Sp),k=b.length - j∧j≤b.length∧acc=yX++(b.take j).flatMap (meet x)∧acc.length≤yX.length+j∧st1.tmps 7=st.tmps 7∧Data st1.heap bx 0 #[x]∧st.nx≤st1.nx∧st1.tmps 18=st.tmps 18∧st1.tmps 19=st.tmps 19∧st1.tmps 20= .one (.t (I j))∧
  uB (st1.tmps 5) st1.heap st1.nx acc bx∧st1.tmps 0=st.tmps 0∧st1.tmps 1=st.tmps 1∧st1.tmps 12=st.tmps 12∧st1.tmps 13=st.tmps 13∧st1.tmps 14=st.tmps 14
theorem take_one{b:List Sp}{j:Nat}(h:j<b.length):b.take (j+1)=b.take j++[b[j]]:=by rw[List.take_add_one,gE9 h];rfl
theorem aJC{n:Nat}{A:Exit→St→Prop}{ks:List KF}(x:Sp)(b:List Sp)(bx:Nat)(yX:List Sp)(hlen:yX.length+b.length≤100000)(st:St)(h7:st.tmps 7= .one (.ptr ⟨bx,0,2,0,0⟩))(hx:Data st.heap bx 0 #[x])(hbx:bx<st.nx)
  (h18:st.tmps 18= .one (.t (spans b))) (h19:st.tmps 19= .one (.t (I b.length))) (h20:st.tmps 20= .one (.t (I 0))) (h5:uB (st.tmps 5) st.heap st.nx yX bx)
  (K:∀ st':St,uB (st'.tmps 5) st'.heap st'.nx (yX++b.flatMap (meet x)) bx→st.nx≤st'.nx→st'.tmps 0=st.tmps 0→st'.tmps 1=st.tmps 1→st'.tmps 12=st.tmps 12→st'.tmps 13=st.tmps 13→st'.tmps 14=st.tmps 14→cX prog n A ks .normal st'):
  W prog n (.loop a5L) (kont prog n A (.blk 2::ks)) st:=by
 refine W.cU (fun k st1=>BIn x b bx yX st k st1) b.length
  ⟨0,yX,by simp,by simp,by simp,by simp,rfl,hx,Nat.le_refl _,rfl,rfl,h20,h5,rfl,rfl,rfl,rfl,rfl⟩ ?_
 rintro k st1 ⟨j,acc,hk,hj,hacc,hal,e7,hd,hnx,e18,e19,e20,e5,e0,e1,e12,e13,e14⟩;rw[h7]at e7;rw[h18]at e18;rw[h19]at e19;rcases Nat.lt_or_ge j b.length with hlt | hge
 ·have fO:(j:Int)<b.length:=by omega
  have hw:IntKind.i64.wrap ((j:Int)+1)=((j+1:Nat):Int):=aH _ (by omega) (by omega);have hr:st1.heap.rows bx=[cell x]:=by rw[hd.rows];rfl
  have hn1:¬ bx=st1.nx+1+2:=by omega
  have hn1':¬ st1.nx+1+2=bx:=by omega
  obtain⟨y,hy⟩:∃ y,y=b[j]:=⟨_,rfl⟩
  have htake:yX++(b.take (j+1)).flatMap (meet x)=acc++meet x y:=by
   rw[hacc,take_one hlt,List.flatMap_append,hy];simp
  have hmax:max x.1 y.1=if x.1<y.1 then y.1 else x.1:=by rw[Int.max_def];split<;>split<;>omega
  have hmin:min x.2 y.2=if y.2<x.2 then y.2 else x.2:=by rw[Int.min_def];split<;>split<;>omega
  simp[a5L,a7W,b4A,b4B,b4C,e18,e19,e20,spans,hlt,fO,spr,e7,hd.alive,hd.sz,hr,hn1,cell,←hy];rw[←hmax,←hmin];have hml:(meet x y).length≤1:=by unfold meet;split<;>simp
  have xN:∀ st':St,st'.tmps 7= .one (.ptr ⟨bx,0,2,0,0⟩)→Data st'.heap bx 0 #[x]→st1.nx≤st'.nx→st'.tmps 18=st1.tmps 18→st'.tmps 19=st1.tmps 19→st'.tmps 20= .one (.t (I ((j+1:Nat):Int)))→uB (st'.tmps 5) st'.heap st'.nx (acc++meet x y) bx→
    st'.tmps 0=st1.tmps 0→st'.tmps 1=st1.tmps 1→st'.tmps 12=st1.tmps 12→st'.tmps 13=st1.tmps 13→st'.tmps 14=st1.tmps 14→∃k',k'<k∧BIn x b bx yX st k' st':=by
   intro st' u7 ud un u18 u19 u20 u5 u0 u1 u12 u13 u14;refine⟨b.length - (j+1),by omega,j+1,_,rfl,by omega,htake.symm,by simp;omega,by rw[u7,h7],ud,by omega,by rw[u18,e18,h18],by rw[u19,e19,h19],u20,u5,by rw[u0,e0],by rw[u1,e1],by rw[u12,e12],by rw[u13,e13],by rw[u14,e14]⟩
  have hmt:meet x y=if max x.1 y.1≤min x.2 y.2 then[(max x.1 y.1,min x.2 y.2)] else[]:=rfl
  generalize max x.1 y.1=lo at*;generalize min x.2 y.2=hiV at*;have hd':∀ o:O,∀o':O,Data ((st1.heap.set (st1.nx+1+2) o).set (st1.nx+1+2) o') bx 0 #[x]:=fun o o'=>(hd.set (by omega)).set (by omega)
  constructor
  ·intro hle;rw[if_pos hle]at hmt;rw[hmt]at xN;rcases e5 with⟨rfl,e5⟩ | ⟨hne,id,ver,h2,h3,h4,h5',h6,h7',h8⟩
   ·simp[a7X,a5K,e5,hw,e20];refine xN _ (by simp[e7]) ((hd' _ _).set (by omega)) (by simp;omega) (by simp) (by simp) (by simp) (.inr ⟨by simp,_,0,?_,?_,by simp;rfl,by simp,?_,by simp,by simp⟩) (by simp) (by simp) (by simp) (by simp) (by simp)
    ·simp<;>omega
    ·omega
    ·rw[dP,if_pos rfl];rfl
   ·have aEO:¬ id=st1.nx+1+2:=by omega
    have xX:(st1.heap.rows id).length=acc.length:=by rw[h6];simp
    simp[a7X,a5K,h4,hw,e20,h5',h7',xX,aEO];refine⟨by omega,xN _ (by simp[e7]) ((hd' _ _).set (by omega)) (by simp;omega) (by simp) (by simp) (by simp) (.inr ⟨by simp,id,ver+1,by simp;omega,by omega,by simp,by simp,?_,by simp,by simp[h8]⟩) (by simp) (by simp) (by simp) (by simp) (by simp)⟩;rw[dP,if_pos rfl,h6];simp[cell]
  ·intro hgt;rw[if_neg (by omega)]at hmt;rw[hmt]at xN;simp[a5K,hw,e20];exact xN _ (by simp[e7]) (hd' _ _) (by simp;omega) (by simp) (by simp) (by simp) (by simpa using((e5.set (by omega)).set (by omega)).more (by omega) (.inr rfl)) (by simp) (by simp) (by simp) (by simp) (by simp)
 ·have hj':j=b.length:=by omega
  subst hj';have fO:¬ (b.length:Int)<b.length:=by omega
  simp at hacc;simp[a5L,a7W,e19,e20];exact K _ (by rw[←hacc];exact e5.more (by simp) (.inr rfl)) (by simp;omega) (by simp[e0]) (by simp[e1]) (by simp[e12]) (by simp[e13]) (by simp[e14])
def aXM(a b:List Sp)(k:Nat)(st1:St):Prop:=
 ∃(i:Nat),k=a.length - i∧i≤a.length∧st1.tmps 0= .one (.t (spans a))∧st1.tmps 1= .one (.t (spans b))∧st1.tmps 12= .one (.t (spans a))∧st1.tmps 13= .one (.t (I a.length))∧st1.tmps 14= .one (.t (I i))∧
  uB (st1.tmps 5) st1.heap st1.nx (cO (a.take i) b) st1.nx
theorem aM2{x y:Sp}:(meet x y).length≤1:=by unfold meet;split<;>simp
theorem aB8(x:Sp):∀ b:List Sp,(b.flatMap (meet x)).length≤b.length
 | []=>by simp
 | y::b=>by
  have h1:=aB8 x b;have h2:=aM2 (x:=x) (y:=y);rw[List.flatMap_cons,List.length_append,List.length_cons];omega
theorem aB9(b:List Sp):∀ a:List Sp,(cO a b).length≤a.length*b.length
 | []=>by simp[cO]
 | x::a=>by
  have h1:=aB9 b a;have h2:(b.flatMap fun y=>meet x y).length≤b.length:=aB8 x b;unfold cO at*;rw[List.flatMap_cons,List.length_append,List.length_cons,Nat.add_mul];simp only[Nat.one_mul]at*;omega
theorem aES{a b:List Sp}(ha:∀ x∈a,bad x=false)(hb:∀ x∈b,bad x=false):∀ z∈cO a b,bad z=false:=by
 intro z hz;obtain⟨x,hx,hz⟩:=List.mem_flatMap.1 hz;obtain⟨y,hy,hz⟩:=List.mem_flatMap.1 hz;have h1:=ha x hx;have h2:=hb y hy;unfold meet at hz;split at hz
 ·rename_i h;simp at hz;subst hz;simp[bad]at h1 h2 ⊢;omega
 ·cases hz
theorem aM3(a b:List Sp)(hs:(cO a b).length≤100000)(ha:a.length≤300)(hb:b.length≤300)(hoa:∀ x∈a,bad x=false)(hob:∀ x∈b,bad x=false):PSp prog 132 [.one (.t (spans a)),.one (.t (spans b))] (.one (.t (spans (bK (cO a b))))):=by
 refine k132.aI (by simp) rfl rfl ?_;simp[c132,b4v,b4w,b4x,spans]
 have hbl:∀ i,i≤a.length→(cO (a.take i) b).length+b.length≤100000:=fun i hi=>by
  have h1:=aB9 b (a.take i);have h2:(a.take i).length*b.length≤300*300:=Nat.mul_le_mul (by rw[List.length_take];omega) hb;omega
 refine W.cU (fun k st=>aXM a b k st) a.length ⟨0,by simp,by simp,by simp[spans],by simp[spans],by simp[spans],by simp,by simp,.inl ⟨by simp[cO],by simp⟩⟩ ?_;rintro k st ⟨i,hk,hi,h0,h1,h12,h13,h14,h5⟩;rcases Nat.lt_or_ge i a.length with hlt | hge
 ·have fO:(i:Int)<a.length:=by omega
  have hw:IntKind.i64.wrap ((i:Int)+1)=((i+1:Nat):Int):=aH _ (by omega) (by omega);obtain⟨x,hx⟩:∃ x,x=a[i]:=⟨_,rfl⟩;simp[a7Y,a7V,b4y,b4z,h1,h12,h13,h14,hlt,fO,spans,spr,←hx];refine aJC x b (st.nx+1+2) (cO (a.take i) b) (hbl i hi) _ (by simp) ⟨by simp,?_,by simp,by simp⟩ (by simp<;>omega) (by simp[spans]) (by simp) (by simp) (by simpa using((h5.set (by omega)).set (by omega)).more (by omega) (.inl (by omega))) fun st' u5 un u0 u1 u12 u13 u14=>?_
  ·rw[dP,if_pos rfl];simp[cell]
  simp[h0,h1,h12,h13,h14]at u0 u1 u12 u13 u14;simp[b4D,u14,hw];refine⟨a.length - (i+1),by omega,i+1,rfl,by omega,by simp[u0],by simp[u1],by simp[u12],by simp[u13],by simp,?_⟩
  have e:cO (a.take (i+1)) b=cO (a.take i) b++b.flatMap (meet x):=by
   rw[take_one hlt];unfold cO;rw[List.flatMap_append,hx];simp
  rw[e];simpa using u5.more (by simp) (.inl (by simp))
 ·have hi':i=a.length:=by omega
  subst hi';have fO:¬ (a.length:Int)<a.length:=by omega
  simp at h5;have hN:=vR (cO a b) hs (aES hoa hob);simp[a7Y,a7V,h13,h14,b4E];rcases h5 with⟨e,h5⟩ | ⟨_,id,ver,_,_,h5,q1,q2,q3,q4⟩
  ·rw[e]at hN ⊢;rw[h5];refine aD.pure hN (by simp) (by simp[spans]) ?_;simp[aC,spans]
  ·have e1:((cO a b).map spr).length=(cO a b).length:=by simp
   rw[h5,←e1];have q2':st.heap.rows id=((cO a b).map spr).map (·.map .t):=by rw[q2,List.map_map];rfl
   refine aD.pure hN (by simpa using iU q1 q3 q2') (by simp only[List.map_cons,List.map_nil,D.frz,lD q2',spans]) ?_;simp[aC,spans]
theorem Data.congr{h h':Hp}{id ver:Nat}{d:Array Sp}(hd:Data h id ver d)(e:h' id=h id):Data h' id ver d:=by
 obtain⟨a,b,c,f⟩:=hd;refine⟨?_,?_,?_,?_⟩
 ·unfold Ab.alive at*; rw[e];exact a
 ·unfold Hp.rows at*; rw[e];exact b
 ·unfold Hp.sz at*; rw[e];exact c
 ·unfold Hp.shut at*; rw[e];exact f
def vI(d:D)(h:Hp)(nx:Nat)(acc:List Sp)(base did:Nat):Prop:=
 (acc=[]∧d= .one (.tt 2 []))∨(acc≠[]∧∃id ver,base≤id∧id<nx∧id≠did∧d= .one (.ref id ver 0 acc.length 2 false)∧alive h id ver∧h.rows id=acc.map cell∧h.sz id=2∧h.shut id=false)
theorem vI.more{d:D}{h:Hp}{nx nx' base did did':Nat}{acc:List Sp}(ho:vI d h nx acc base did)(hn:nx≤nx')(hd:nx≤did'∨did'<base∨did'=did):vI d h nx' acc base did':=by
 rcases ho with ho | ⟨h1,id,ver,h2,h3,h4⟩
 ·exact .inl ho
 ·exact .inr ⟨h1,id,ver,h2,by omega,by omega,h4.2⟩
theorem vI.set{d:D}{h:Hp}{nx base did j:Nat}{o:O}{acc:List Sp}(ho:vI d h nx acc base did)(hj:nx≤j):vI d (h.set j o) nx acc base did:=by
 rcases ho with ho | ⟨h1,id,ver,h2,h3,h3',h4,h5,h6,h7,h8⟩
 ·exact .inl ho
 ·have hne:id≠j:=by omega
  refine .inr ⟨h1,id,ver,h2,h3,h3',h4,?_,?_,?_,?_⟩
  ·unfold Ab.alive Hp.set at*; rw[if_neg hne];exact h5
  ·unfold Hp.rows Hp.set at*; rw[if_neg hne];exact h6
  ·unfold Hp.sz Hp.set at*; rw[if_neg hne];exact h7
  ·unfold Hp.shut Hp.set at*; rw[if_neg hne];exact h8
theorem bO{h:Hp}{j id:Nat}{o:O}(hne:id≠j):(h.set j o) id=h id:=by simp[Hp.set,hne]
structure aGR (x y:Sp) (bx bY base:Nat) (acc:List Sp) (h:Hp) (nx:Nat) (tm:Nat→D):Prop where
 t9:tm 9= .one (.ptr ⟨bx,0,2,0,0⟩)
 t6:tm 6= .one (.ptr ⟨bY,0,2,0,0⟩)
 dx:Data h bx 0 #[x]
 dy:Data h bY 0 #[y]
 bxb:base≤bx
 bxn:bx<nx
 byb:bY<base
 out:vI (tm 7) h nx acc base bx
 len:acc.length≤100000
def pO(tm tm':Nat→D):Prop:=tm' 1=tm 1∧tm' 6=tm 6∧tm' 10=tm 10∧tm' 11=tm 11∧tm' 12=tm 12∧tm' 16=tm 16∧tm' 17=tm 17∧tm' 18=tm 18∧tm' 9=tm 9
theorem aXN{n:Nat}{A:Exit→St→Prop}{ks:List KF}{x y:Sp}{bx bY base:Nat}{acc:List Sp}{tm:Nat→D}{h:Hp}{nx nx':Nat}(cs:aGR x y bx bY base acc h nx tm)(_hx:bad x=false)(hy:bad y=false)(hnx:nx'=nx+13)
  (K:∀ tm' h',aGR x y bx bY base (acc++[(x.1,min x.2 (y.1 - 1))]) h' nx' tm'∨100000<acc.length+1→(∀id,id<base→h' id=h id)→pO tm tm'→cX prog n A ks .normal ⟨tm',h',nx'⟩):
  iH prog false nx a3t (nR (kont prog n A ks) nx') 0 tm h:=by
 obtain⟨t9,t6,dx,dy,bxb,bxn,byb,out,len⟩:=cs;have rx:h.rows bx=[cell x]:=by rw[dx.rows];rfl
 have ry:h.rows bY=[cell y]:=by rw[dy.rows];rfl
 simp[bad]at hy;have hw:IntKind.i64.wrap (y.1 - 1)=y.1 - 1:=wrap_i64 (by omega) (by omega);have hmin:(if y.1 - 1<x.2 then y.1 - 1 else x.2)=min x.2 (y.1 - 1):=by rw[Int.min_def];split<;>split<;>omega
 rcases out with⟨rfl,out⟩ | ⟨hne,id,ver,h2,h3,h3',h4,h5,h6,h7,h8⟩
 ·simp[a3t,t9,t6,dx.alive,dx.sz,rx,dy.alive,dy.sz,ry,cell,hw,hmin,out];refine K _ _ (.inl ⟨by simp[t9],by simp[t6],dx.set (by omega),dy.set (by omega),bxb,by omega,byb,.inr ⟨by simp,_,0,?_,?_,?_,by simp;rfl,by simp,?_,by simp,by simp⟩,by simp⟩) (fun id hid=>bO (by omega)) (by simp[pO])
  ·omega
  ·omega
  ·omega
  ·rw[dP,if_pos rfl];rfl
 ·have xX:(h.rows id).length=acc.length:=by rw[h6];simp
  simp[a3t,t9,t6,dx.alive,dx.sz,rx,dy.alive,dy.sz,ry,cell,hw,hmin,h4,h5,h7,xX];refine⟨by omega,K _ _ ?_ (fun id hid=>bO (by omega)) (by simp[pO])⟩;rcases Nat.lt_or_ge 100000 (acc.length+1)with hb | hb
  ·exact .inr hb
  ·refine .inl ⟨by simp[t9],by simp[t6],dx.set (by omega),dy.set (by omega),bxb,by omega,byb,.inr ⟨by simp,id,ver+1,h2,by omega,h3',by simp,by simp,?_,by simp,by simp[h8]⟩,by simpa using hb⟩;rw[dP,if_pos rfl,h6];simp[cell]
theorem aXO{n:Nat}{A:Exit→St→Prop}{ks:List KF}{x y:Sp}{bx bY base:Nat}{acc:List Sp}{tm:Nat→D}{h:Hp}{nx nx':Nat}(cs:aGR x y bx bY base acc h nx tm)(_hx:bad x=false)(hy:bad y=false)(hnx:nx'=nx+13)
  (K:∀ tm' h',aGR x y bx bY base (acc++[(max x.1 (y.2+1),x.2)]) h' nx' tm'∨100000<acc.length+1→(∀id,id<base→h' id=h id)→pO tm tm'→cX prog n A ks .normal ⟨tm',h',nx'⟩):
  iH prog false nx a1F (nR (kont prog n A ks) nx') 0 tm h:=by
 obtain⟨t9,t6,dx,dy,bxb,bxn,byb,out,len⟩:=cs;have rx:h.rows bx=[cell x]:=by rw[dx.rows];rfl
 have ry:h.rows bY=[cell y]:=by rw[dy.rows];rfl
 simp[bad]at hy;have hw:IntKind.i64.wrap (y.2+1)=y.2+1:=wrap_i64 (by omega) (by omega);have hmax:(if x.1<y.2+1 then y.2+1 else x.1)=max x.1 (y.2+1):=by rw[Int.max_def];split<;>split<;>omega
 rcases out with⟨rfl,out⟩ | ⟨hne,id,ver,h2,h3,h3',h4,h5,h6,h7,h8⟩
 ·simp[a1F,t9,t6,dx.alive,dx.sz,rx,dy.alive,dy.sz,ry,cell,hw,hmax,out];refine K _ _ (.inl ⟨by simp[t9],by simp[t6],dx.set (by omega),dy.set (by omega),bxb,by omega,byb,.inr ⟨by simp,_,0,?_,?_,?_,by simp;rfl,by simp,?_,by simp,by simp⟩,by simp⟩) (fun id hid=>bO (by omega)) (by simp[pO])
  ·omega
  ·omega
  ·omega
  ·rw[dP,if_pos rfl];rfl
 ·have xX:(h.rows id).length=acc.length:=by rw[h6];simp
  simp[a1F,t9,t6,dx.alive,dx.sz,rx,dy.alive,dy.sz,ry,cell,hw,hmax,h4,h5,h7,xX];refine⟨by omega,K _ _ ?_ (fun id hid=>bO (by omega)) (by simp[pO])⟩;rcases Nat.lt_or_ge 100000 (acc.length+1)with hb | hb
  ·exact .inr hb
  ·refine .inl ⟨by simp[t9],by simp[t6],dx.set (by omega),dy.set (by omega),bxb,by omega,byb,.inr ⟨by simp,id,ver+1,h2,by omega,h3',by simp,by simp,?_,by simp,by simp[h8]⟩,by simpa using hb⟩;rw[dP,if_pos rfl,h6];simp[cell]
theorem aHO{n:Nat}{A:Exit→St→Prop}{ks:List KF}{J:St→Prop}{x y:Sp}{bx bY base:Nat}{acc:List Sp}{tm:Nat→D}{h:Hp}{nx:Nat}{i:Nat}(cs:aGR x y bx bY base acc h nx tm)(hx:bad x=false)(hy:bad y=false)(hlen:acc.length+2≤100000)(hi:i≤100000)(h18:tm 18= .one (.t (I i)))
  (K:∀ st':St,vI (st'.tmps 7) st'.heap st'.nx (acc++iV y x) base st'.nx→(∀id,id<base→st'.heap id=h id)→nx≤st'.nx→st'.tmps 1=tm 1→st'.tmps 6=tm 6→st'.tmps 10=tm 10→st'.tmps 11=tm 11→st'.tmps 12=tm 12→st'.tmps 16=tm 16→st'.tmps 17=tm 17→st'.tmps 18= .one (.t (I ((i+1:Nat):Int)))→J st'):
  iH prog false nx a7L (nR (kont prog n A (.thn (.cond (X.tmp 26) (.region 9 false 13 a3t) .skip):: .thn (.seq (.region 10 false 5 a5F) (.cond (X.tmp 43) (.region 11 false 13 a1F) .skip)):: .blk 3:: .thn (.region 12 false 2 a3u):: .post J::ks)) (nx+5)) 0 tm h:=by
 have cs0:=cs;obtain⟨t9,t6,dx,dy,bxb,bxn,byb,out,len⟩:=cs;have rx:h.rows bx=[cell x]:=by rw[dx.rows];rfl
 have ry:h.rows bY=[cell y]:=by rw[dy.rows];rfl
 have hw:IntKind.i64.wrap ((i:Int)+1)=((i+1:Nat):Int):=aH _ (by omega) (by omega)
 -- the second half
 have second:∀ (acc':List Sp) (tm':Nat→D) (h':Hp) (nx':Nat),aGR x y bx bY base acc' h' nx' tm'→acc'.length≤acc.length+1→(acc'++(if y.2<x.2 then[(max x.1 (y.2+1),x.2)] else[])=acc++iV y x)→(∀id,id<base→h' id=h id)→nx≤nx'→pO tm tm'→
   iH prog false nx' a5F (nR (kont prog n A (.thn (.cond (X.tmp 43) (.region 11 false 13 a1F) .skip):: .blk 3:: .thn (.region 12 false 2 a3u):: .post J::ks)) (nx'+5)) 0 tm' h':=by
  intro acc' tm' h' nx' cs' hl he hk hn kt;have cs1:=cs';obtain⟨t9',t6',dx',dy',_,bxn',_,out',len'⟩:=cs';have rx':h'.rows bx=[cell x]:=by rw[dx'.rows];rfl
  have ry':h'.rows bY=[cell y]:=by rw[dy'.rows];rfl
  obtain⟨k1,k6,k10,k11,k12,k16,k17,k18,k9⟩:=kt;simp[a5F,t9',t6',dx'.alive,dx'.sz,rx',dy'.alive,dy'.sz,ry',cell];constructor
  ·intro hlt;rw[if_pos hlt]at he;refine aXO (acc:=acc') ⟨by simp[t9'],by simp[t6'],dx',dy',bxb,by omega,byb,by simpa using out'.more (by omega) (.inr (.inr rfl)),len'⟩ hx hy rfl fun tm2 h2 c2 hk2 kt2=>?_
   obtain⟨j1,j6,j10,j11,j12,j16,j17,j18,j9⟩:=kt2;simp at j1 j6 j10 j11 j12 j16 j17 j18;rcases c2 with c2 | c2
   ·simp[a3u,j18,k18,h18,hw];refine K _ ?_ (fun id hid=>(hk2 id hid).trans (hk id hid)) (by simp;omega) (by simp[j1,k1]) (by simp[j6,k6]) (by simp[j10,k10]) (by simp[j11,k11]) (by simp[j12,k12]) (by simp[j16,k16]) (by simp[j17,k17]) (by simp);rw[←he];simpa using c2.out.more (by omega) (.inl (by omega))
   ·omega
  ·intro hge;rw[if_neg (by omega)]at he;simp[a3u,k18,h18,hw];refine K _ ?_ hk (by simp;omega) (by simp[k1]) (by simp[k6]) (by simp[k10]) (by simp[k11]) (by simp[k12]) (by simp[k16]) (by simp[k17]) (by simp);rw[←he];simpa using out'.more (by omega) (.inl (by omega))
 simp[a7L,t9,t6,dx.alive,dx.sz,rx,dy.alive,dy.sz,ry,cell];constructor
 ·intro hlt;refine aXN (acc:=acc) ⟨by simp[t9],by simp[t6],dx,dy,bxb,by omega,byb,by simpa using out.more (by omega) (.inr (.inr rfl)),len⟩ hx hy rfl fun tm2 h2 c2 hk2 kt2=>?_
  obtain⟨j1,j6,j10,j11,j12,j16,j17,j18,j9⟩:=kt2;simp at j1 j6 j10 j11 j12 j16 j17 j18 j9;rcases c2 with c2 | c2
  ·simp;refine second (acc++[(x.1,min x.2 (y.1 - 1))]) tm2 h2 _ c2 (by simp) (by simp[iV,hlt]) hk2 (by omega) ⟨j1,j6,j10,j11,j12,j16,j17,j18,j9⟩
  ·omega
 ·intro hge;have hng:¬ x.1<y.1:=by omega
  exact second acc _ h _ ⟨by simp[t9],by simp[t6],dx,dy,bxb,by omega,byb,by simpa using out.more (by omega) (.inr (.inr rfl)),len⟩ (by omega) (by simp[iV,hng]) (fun _ _=>rfl) (by omega) (by simp[pO])
theorem Asc.left:∀ {a b:List Sp},Asc (a++b)→Asc a
 | [],_,_=>trivial
 | x::a,b,h=>⟨h.1,fun y hy=>h.2.1 y (by simp[hy]),Asc.left h.2.2⟩
theorem Asc.take{a:List Sp}(h:Asc a)(j:Nat):Asc (a.take j):=Asc.left (b:=a.drop j) (by rw[List.take_append_drop];exact h)
def Cur(d:D)(h:Hp)(base:Nat)(l:List Sp):Prop:=
 d= .one (.t (spans l))∨(l=[]∧d= .one (.tt 2 []))∨∃id ver,id<base∧d= .one (.ref id ver 0 l.length 2 false)∧Data h id ver l.toArray
def CIn(y:Sp)(cur:List Sp)(base:Nat)(st:St)(k:Nat)(st1:St):Prop:=
 ∃j:Nat,k=cur.length - j∧j≤cur.length∧(∀id,id<base→st1.heap id=st.heap id)∧st.nx≤st1.nx∧vI (st1.tmps 7) st1.heap st1.nx (jF (cur.take j) y) base st1.nx∧
  st1.tmps 1=st.tmps 1∧st1.tmps 6=st.tmps 6∧st1.tmps 10=st.tmps 10∧st1.tmps 11=st.tmps 11∧st1.tmps 12=st.tmps 12∧st1.tmps 16=st.tmps 16∧st1.tmps 17=st.tmps 17∧st1.tmps 18= .one (.t (I j))
theorem yA{n:Nat}{A:Exit→St→Prop}{ks:List KF}(y:Sp)(cur:List Sp)(bY base:Nat)(st:St)(hcur:Cur (st.tmps 16) st.heap base cur)(h17:st.tmps 17= .one (.t (I cur.length)))(h18:st.tmps 18= .one (.t (I 0)))(h7:st.tmps 7= .one (.tt 2 []))
  (h6:st.tmps 6= .one (.ptr ⟨bY,0,2,0,0⟩)) (dy:Data st.heap bY 0 #[y]) (byb:bY<base) (hbase:base≤st.nx) (hA:Asc cur) (hok:∀ x∈cur,bad x=false) (hy:bad y=false) (hlen:cur.length≤50000)
  (K:∀ st':St,vI (st'.tmps 7) st'.heap st'.nx (jF cur y) base st'.nx→(∀id,id<base→st'.heap id=st.heap id)→st.nx≤st'.nx→st'.tmps 1=st.tmps 1→st'.tmps 10=st.tmps 10→st'.tmps 11=st.tmps 11→st'.tmps 12=st.tmps 12→cX prog n A ks .normal st'):
  W prog n (.loop a3v) (kont prog n A (.blk 2::ks)) st:=by
 have hyv:y.1≤y.2:=by simp[bad]at hy;omega
 refine W.cU (fun k st1=>CIn y cur base st k st1) cur.length ⟨0,by simp,by simp,fun _ _=>rfl,Nat.le_refl _,.inl ⟨by simp[jF],h7⟩,rfl,rfl,rfl,rfl,rfl,rfl,rfl,h18⟩ ?_;rintro k st1 ⟨j,hk,hj,hh,hnx,h7,e1,e6,e10,e11,e12,e16,e17,e18⟩;rw[h6]at e6;rw[h17]at e17;rcases Nat.lt_or_ge j cur.length with hlt | hge
 ·have fO:(j:Int)<cur.length:=by omega
  obtain⟨x,hx⟩:∃ x,x=cur[j]:=⟨_,rfl⟩;have hbx:bad x=false:=hok x (by rw[hx];exact gL9 hlt);have hl:=xV (hA.take j) hyv;rw[List.length_take]at hl
  have hstep:jF (cur.take j) y++iV y x=jF (cur.take (j+1)) y:=by
   rw[take_one hlt];unfold jF;rw[List.flatMap_append,hx];simp
  have dy1:Data st1.heap bY 0 #[y]:=dy.congr (hh bY byb)
  have fin:∀ (st':St),vI (st'.tmps 7) st'.heap st'.nx (jF (cur.take j) y++iV y x) base st'.nx→(∀id,id<base→st'.heap id=st1.heap id)→st1.nx≤st'.nx→st'.tmps 1=st1.tmps 1→st'.tmps 6=st1.tmps 6→st'.tmps 10=st1.tmps 10→st'.tmps 11=st1.tmps 11→st'.tmps 12=st1.tmps 12→st'.tmps 16=st1.tmps 16→st'.tmps 17=st1.tmps 17→st'.tmps 18= .one (.t (I ((j+1:Nat):Int)))→∃k',k'<k∧CIn y cur base st k' st':=by
   intro st' u7 uh un u1 u6 u10 u11 u12 u16 u17 u18;rw[hstep]at u7;exact⟨cur.length - (j+1),by omega,j+1,rfl,by omega,fun id hid=>(uh id hid).trans (hh id hid),by omega,u7,u1.trans e1,u6.trans (e6.trans h6.symm),u10.trans e10,u11.trans e11,u12.trans e12,u16.trans e16,u17.trans (e17.trans h17.symm),u18⟩
  have boxed:∀ (d16:D) (tm:Nat→D),st1.tmps 16=d16→tm 9= .one (.ptr ⟨st1.nx+1+2,0,2,0,0⟩)→tm 6=st1.tmps 6→tm 7=st1.tmps 7→
    aGR x y (st1.nx+1+2) bY base (jF (cur.take j) y) ((st1.heap.set (st1.nx+1+2) (.arr 0 false 2 [[.t (.int .i64 0),.t (.int .i64 0)]])).set (st1.nx+1+2) (.arr 0 false 2 [[.t (I x.1),.t (I x.2)]])) (st1.nx+1+4) tm:=by
   intro d16 tm _ t9 t6 t7;refine⟨t9,by rw[t6,e6],⟨by simp,?_,by simp,by simp⟩,(dy1.set (by omega)).set (by omega),by omega,by omega,byb,?_,by omega⟩
   ·rw[dP,if_pos rfl];simp[cell]
   ·rw[t7];exact((h7.set (by omega)).set (by omega)).more (by omega) (.inl (by omega))
  have keep:∀ id,id<base→((st1.heap.set (st1.nx+1+2) (.arr 0 false 2 [[.t (.int .i64 0),.t (.int .i64 0)]])).set (st1.nx+1+2) (.arr 0 false 2 [[.t (I x.1),.t (I x.2)]])) id=st1.heap id:=fun id hid=>by rw[bO (by omega),bO (by omega)]
  have aU7:Cur (st1.tmps 16) st1.heap base cur:=by
   rw[e16];rcases hcur with h | h | ⟨id,ver,q1,q2,q3⟩
   ·exact .inl h
   ·exact .inr (.inl h)
   ·exact .inr (.inr ⟨id,ver,q1,q2,q3.congr (hh id q1)⟩)
  rcases aU7 with h | ⟨h,_⟩ | ⟨id,ver,q1,q2,q3⟩
  ·simp[a3v,a5E,a7K,h,e17,e18,spans,hlt,fO,spr,←hx];refine aHO (i:=j) (boxed _ _ h (by simp) (by simp) (by simp)) hbx hy (by omega) (by omega) (by simp[e18]) fun st' u7 uh un u1 u6 u10 u11 u12 u16 u17 u18=>?_
   simp at u1 u6 u10 u11 u12 u16 u17;exact fin st' u7 (fun id hid=>(uh id hid).trans (keep id hid)) (by omega) u1 u6 u10 u11 u12 u16 u17 u18
  ·rw[h]at hlt;simp at hlt
  ·have hja:j<cur.toArray.size:=by simpa using hlt
   have hln:(st1.heap.rows id).length=cur.length:=by rw[q3.rows];simp
   have g1:∀ hh,(st1.heap.rows id)[j]'hh=cell x:=fun hh=>by have:=rowAt q3 hja hh;rw[hx];simpa using this
   simp[a3v,a5E,a7K,q2,e17,e18,hlt,fO,q3.alive,q3.sz,hln,g1,cell];refine aHO (i:=j) (boxed _ _ q2 (by simp) (by simp) (by simp)) hbx hy (by omega) (by omega) (by simp[e18]) fun st' u7 uh un u1 u6 u10 u11 u12 u16 u17 u18=>?_
   simp at u1 u6 u10 u11 u12 u16 u17;exact fin st' u7 (fun id hid=>(uh id hid).trans (keep id hid)) (by omega) u1 u6 u10 u11 u12 u16 u17 u18
 ·have hj':j=cur.length:=by omega
  subst hj';have fO:¬ (cur.length:Int)<cur.length:=by omega
  simp at h7;simp[a3v,a5E,e17,e18];exact K _ (by simpa using h7.more (by simp) (.inl (by simp))) hh (by simp;omega) (by simp[e1]) (by simp[e10]) (by simp[e11]) (by simp[e12])
def CB(b a:List Sp)(k:Nat)(st:St):Prop:=
 ∃i:Nat,k=b.length - i∧i≤b.length∧Cur (st.tmps 0) st.heap st.nx (aY a (b.take i))∧st.tmps 1= .one (.t (spans b))∧st.tmps 10= .one (.t (spans b))∧st.tmps 11= .one (.t (I b.length))∧st.tmps 12= .one (.t (I i))
theorem aET{a b:List Sp}(hA:Asc a)(hb:∀ y∈b,y.1≤y.2)(hoa:∀ x∈a,bad x=false):∀ z∈aY a b,bad z=false:=by
 intro z hz;obtain⟨h1,_,h3⟩:=dZ hA hb;obtain⟨x,hx,h4⟩:=h3 z hz;have h5:=h1.valid z hz;have h6:=hoa x hx;simp[bad]at h6 ⊢;omega
theorem yB(a b:List Sp)(hs:(aY a b).length≤100000)(ha:a.length≤300)(hb:b.length≤300)(hA:Asc a)(hoa:∀ x∈a,bad x=false)(hob:∀ x∈b,bad x=false):PSp prog 102 [.one (.t (spans a)),.one (.t (spans b))] (.one (.t (spans (bK (aY a b))))):=by
 have hvb:∀ y∈b,y.1≤y.2:=fun y hy=>by have:=hob y hy;simp[bad]at this;omega
 have hpart:∀ i,Asc (aY a (b.take i))∧(aY a (b.take i)).length≤600∧∀z∈aY a (b.take i),bad z=false:=fun i=>by
  have hv:∀ y∈b.take i,y.1≤y.2:=fun y hy=>hvb y (List.mem_of_mem_take hy)
  obtain⟨h1,h2,_⟩:=dZ (b:=b.take i) hA hv;refine⟨h1,?_,aET hA hv hoa⟩;rw[List.length_take]at h2;omega
 refine k102.aI (by simp) rfl rfl ?_;simp[c102,b4g,b4h,spans];refine W.cU (fun k st=>CB b a k st) b.length ⟨0,by simp,by simp,.inl (by simp[aY,spans]),by simp[spans],by simp[spans],by simp,by simp⟩ ?_;rintro k st ⟨i,hk,hi,hcur,h1,h10,h11,h12⟩;obtain⟨pA,pl,pok⟩:=hpart i;rcases Nat.lt_or_ge i b.length with hlt | hge
 ·have fO:(i:Int)<b.length:=by omega
  have hw:IntKind.i64.wrap ((i:Int)+1)=((i+1:Nat):Int):=aH _ (by omega) (by omega);obtain⟨y,hy⟩:∃ y,y=b[i]:=⟨_,rfl⟩;have hby:bad y=false:=hob y (by rw[hy];exact gL9 hlt)
  have hstep:aY a (b.take (i+1))=jF (aY a (b.take i)) y:=by
   unfold aY;rw[take_one hlt,List.foldl_append,hy];rfl
  obtain⟨cur,hc⟩:∃ cur,cur=aY a (b.take i):=⟨_,rfl⟩;rw[←hc]at hcur pA pl pok hstep
  have next:∀ st':St,vI (st'.tmps 7) st'.heap st'.nx (jF cur y) (st.nx+1+4+1+3) st'.nx→st'.tmps 1= .one (.t (spans b))→st'.tmps 10= .one (.t (spans b))→st'.tmps 11= .one (.t (I b.length))→st'.tmps 12= .one (.t (I i))→
    cX prog 61 (aC [.tmp 4] (.one (.t (spans (bK (aY a b)))))) [.thn (.region 13 false 2 a7M),.blk 1,.thn (.region 14 false 2 a7N),.post fun st'=>∃ k',k'<k∧CB b a k' st',.blk 0,.thn (.seq (.region 15 false 3 a3w) .ret)] .normal st':=by
   intro st' u7 u1 u10 u11 u12;simp[a7M,a7N,u12,hw];refine⟨b.length - (i+1),by omega,i+1,rfl,by omega,?_,by simp[u1],by simp[u10],by simp[u11],by simp⟩;rw[hstep];rcases u7 with⟨e,u7⟩ | ⟨_,id,ver,q0,q1,q2,q3,q4,q5,q6,q7⟩
   ·exact .inr (.inl ⟨e,by simp[u7]⟩)
   ·exact .inr (.inr ⟨id,ver,by simp;omega,by simp[q3],⟨q4,by simpa using q5,q6,q7⟩⟩)
  have hnx:st.nx+1+4+1+3=st.nx+9:=by omega
  have dyS:∀ (o:O),Data ((st.heap.set (st.nx+1+2) o).set (st.nx+1+2) (.arr 0 false 2 [[.t (I y.1),.t (I y.2)]])) (st.nx+1+2) 0 #[y]:=fun o=>⟨by simp,by rw[dP,if_pos rfl];simp[cell],by simp,by simp⟩
  rcases hcur with h | ⟨h,h'⟩ | ⟨id,ver,q1,q2,q3⟩
  ·simp[a1y,a1x,a5B,a5C,a5D,h,h10,h11,h12,spans,hlt,fO,spr,←hy];refine yA y cur (st.nx+1+2) (st.nx+1+4+1+3) _ (.inl (by simp[spans])) (by simp) (by simp) (by simp) (by simp) (dyS _) (by omega) (by simp) pA pok hby (by omega) fun st' u7 uh un u1 u10 u11 u12=>?_
   exact next st' u7 (by rw[u1];simp[h1]) (by rw[u10];simp[h10]) (by rw[u11];simp[h11]) (by rw[u12];simp[h12])
  ·subst h;simp[a1y,a1x,a5B,a5C,a5D,h',h10,h11,h12,spans,hlt,fO,spr,←hy];refine yA y [] (st.nx+1+2) (st.nx+1+4+1+3) _ (.inr (.inl ⟨rfl,by simp⟩)) (by simp) (by simp) (by simp) (by simp) (dyS _) (by omega) (by simp) pA pok hby (by simp) fun st' u7 uh un u1 u10 u11 u12=>?_
   exact next st' u7 (by rw[u1];simp[h1]) (by rw[u10];simp[h10]) (by rw[u11];simp[h11]) (by rw[u12];simp[h12])
  ·simp[a1y,a1x,a5B,a5C,a5D,q2,h10,h11,h12,spans,hlt,fO,spr,←hy];refine yA y cur (st.nx+1+2) (st.nx+1+4+1+3) _ (.inr (.inr ⟨id,ver,by omega,by simp,(q3.set (by omega)).set (by omega)⟩)) (by simp) (by simp) (by simp) (by simp) (dyS _) (by omega) (by simp) pA pok hby (by omega) fun st' u7 uh un u1 u10 u11 u12=>?_
   exact next st' u7 (by rw[u1];simp[h1]) (by rw[u10];simp[h10]) (by rw[u11];simp[h11]) (by rw[u12];simp[h12])
 ·have hi':i=b.length:=by omega
  subst hi';have fO:¬ (b.length:Int)<b.length:=by omega
  simp at hcur pl pok;have hN:=vR (aY a b) hs (fun x hx=>by have:=pok x.1 x.2 hx;simpa using this);rcases hcur with h | ⟨h,h'⟩ | ⟨id,ver,q1,q2,q3⟩
  ·simp[a1y,a1x,h11,h12,a3w,h];refine aD.pure hN (by simp) (by simp[spans]) ?_;simp[aC,spans]
  ·rw[h]at hN ⊢;simp[a1y,a1x,h11,h12,a3w,h'];refine aD.pure hN (by simp) (by simp[spans]) ?_;simp[aC,spans]
  ·have e1:((aY a b).map spr).length=(aY a b).length:=by simp
   simp[a1y,a1x,h11,h12,a3w,q2];rw[←e1];have q2':st.heap.rows id=((aY a b).map spr).map (·.map .t):=by rw[q3.rows,List.map_map];rfl
   refine aD.pure hN (by simpa using iU q3.alive q3.sz q2') (by simp only[List.map_cons,List.map_nil,D.frz,lD q2',spans]) ?_;simp[aC,spans]
theorem aU8(m:Nat)(hm:0<m)(hm2:m≤100000)(h:Hp)(n0:Nat)(ho:aF h n0):
  ISp prog 162 h n0 [.one (.tt 2 []),.one (.t (I m))] (.one (.ref n0 1 0 0 2 false)) (aS h n0 1 #[]):=by
 refine k162.aPS (by simp) ?_;have w0:IntKind.i64.wrap (0:Int)=0:=wrap_i64 (by omega) (by omega);have w1:IntKind.i64.wrap (m:Int)=m:=wrap_i64 (by omega) (by omega);have hneg:¬ (m:Int)<0:=by omega
 have hpos:(0:Int)<m:=by omega
 simp[c162,a8l,a8m,a8n,a8o,b4P,a8p,hneg,hm,w0,w1,D.aJR,D.vM,D.trunc,D.rR];refine⟨⟨by omega,by omega⟩,n0+1+2+8+2+5,.inr rfl,⟨by simp,by simp⟩,⟨.ref (n0+1+2+8+2+5) 1 0 0 2 false,rfl,by simp[A.only],by simp[A.ren,sE]⟩,by omega,fun id hid=>?_,?_,⟨.arr 1 false 2 [],by simp[Hp.set]⟩,fun id hid=>?_,fun id o hid=>?_⟩
 ·simp only[aS,Hp.set];rw[if_neg (by omega),if_neg (by omega),if_neg (by omega)]
 ·simp only[aS,Hp.set,if_true];rfl
 ·simp only[aS,Hp.set];rw[if_neg (by omega)];exact ho.above id (by omega)
 ·simp only[aS,Hp.set]at hid;split at hid
  ·simp only[sI9]at hid;subst hid;simp[O.below]
  ·exact ho.below id o hid
theorem aR6(h:Hp)(n0:Nat)(ho:aF h n0):ISp prog 162 h n0 [.one (.tt 2 []),.one (.t (I 0))] (.one (.tt 2 [])) h:=by
 refine k162.ttK (by simp) ?_;have w0:IntKind.i64.wrap (0:Int)=0:=wrap_i64 (by omega) (by omega);simp[c162,a8l,a8m,a8n,a8o,a8p,w0,D.aJR];exact⟨.inr rfl,⟨by simp,by simp⟩,rfl,⟨2,[],rfl⟩,fun _ _=>rfl,ho.above,ho.below⟩
def lists(ls:List (List Sp)):T:= .rows 1 (ls.map fun l=>[spans l])
def aU9(d:D)(h:Hp)(nx:Nat)(acc:List Sp)(tot:Nat):Prop:=
 (tot=0∧acc=[]∧d= .one (.tt 2 []))∨(0<tot∧∃id ver,id<nx∧d= .one (.ref id ver 0 acc.length 2 false)∧Data h id ver acc.toArray)
def CC1(ls:List (List Sp))(k:Nat)(st:St):Prop:=
 ∃i:Nat,k=ls.length - i∧i≤ls.length∧st.heap=jM∧st.tmps 0= .one (.t (lists ls))∧st.tmps 9= .one (.t (lists ls))∧st.tmps 10= .one (.t (I ls.length))∧st.tmps 11= .one (.t (I i))∧st.tmps 3= .one (.t (I ((ls.take i).flatten.length:Nat)))
def CC2(ls:List (List Sp))(k:Nat)(st:St):Prop:=
 ∃i:Nat,k=ls.length - i∧i≤ls.length∧st.tmps 25= .one (.t (lists ls))∧st.tmps 26= .one (.t (I ls.length))∧st.tmps 27= .one (.t (I i))∧aU9 (st.tmps 6) st.heap st.nx (ls.take i).flatten ls.flatten.length
theorem aBA{b:List (List Sp)}{j:Nat}(h:j<b.length):(b.take (j+1)).flatten=(b.take j).flatten++b[j]:=by rw[List.take_add_one,gE9 h,List.flatten_append];simp
theorem sY(ls:List (List Sp))(i:Nat):(ls.take i).flatten.length≤ls.flatten.length:=by
 have:=congrArg List.length (congrArg List.flatten (List.take_append_drop i ls));rw[List.flatten_append,List.length_append]at this;omega
theorem aOT(ls:List (List Sp))(hl:ls.flatten.length≤100000)(hl2:ls.length≤100000):PSp prog 131 [.one (.t (lists ls))] (.one (.t (spans ls.flatten))):=by
 refine k131.aI (by simp) rfl rfl ?_;simp[c131,b4o,b4p,b4q,lists];refine W.cU (fun k st=>CC1 ls k st) ls.length ⟨0,by simp,by simp,by simp,by simp[lists],by simp[lists],by simp,by simp,by simp⟩ ?_;rintro k st ⟨i,hk,hi,hh,h0,h9,h10,h11,h3⟩;have hpi:=sY ls i;rcases Nat.lt_or_ge i ls.length with hlt | hge
 ·have fO:(i:Int)<ls.length:=by omega
  have aR7:=sY ls (i+1);have hstep:=aBA hlt;obtain⟨l,hle⟩:∃ l,l=ls[i]:=⟨_,rfl⟩;obtain⟨t,ht⟩:∃ t:Nat,t=(ls.take i).flatten.length:=⟨_,rfl⟩;obtain⟨t1,ht1⟩:∃ t:Nat,t=(ls.take (i+1)).flatten.length:=⟨_,rfl⟩;have hsum:t1=t+l.length:=by rw[ht1,hstep,List.length_append,ht,hle]
  rw[←ht]at h3 hpi;rw[←ht1]at aR7;have hw:IntKind.i64.wrap ((i:Int)+1)=((i+1:Nat):Int):=aH _ (by omega) (by omega);have hw2:IntKind.i64.wrap ((t:Int)+l.length)=(t1:Int):=aH _ (by omega) (by omega);have hng:¬ (t1:Int)<0:=by omega
  simp[a5I,a5H,b4r,b4s,b4t,b4u,h9,h10,h11,h3,lists,hlt,fO,←hle,spans,hw,hw2,hng];exact⟨ls.length - (i+1),by omega,i+1,rfl,by omega,by simp[hh],by simp[h0,lists],by simp[h9,lists],by simp[h10],by simp,by simp[ht1]⟩
 ·have hi':i=ls.length:=by omega
  subst hi';have fO:¬ (ls.length:Int)<ls.length:=by omega
  rw[List.take_length]at h3;obtain⟨t,ht⟩:∃ t:Nat,t=ls.flatten.length:=⟨_,rfl⟩;rw[←ht]at h3 hl;have ho0:∀ n,aF jM n:=fun n=>⟨fun _ _=>rfl,fun id o h=>by cases h⟩
  have after:∀ (d:D) (g:Hp) (tm:Nat→D) (nx:Nat),tm 0= .one (.t (lists ls))→tm 6=d→aU9 d g nx [] t→
    aZ prog 36 (aC [.tmp 2] (.one (.t (spans ls.flatten)))) (.seq (.seq (.region 10 false 3 a7Q) (.block 2 (.loop a3x))) (.seq (.region 15 false 2 a7U) .ret)) [] ⟨tm,g,nx⟩:=by
   intro d g tm nx u0 u6 uo;simp[a7Q,u0,lists];refine W.cU (fun k st=>CC2 ls k st) ls.length ⟨0,by simp,by simp,by simp[lists],by simp,by simp,?_⟩ ?_
   ·rw[←ht];rcases uo with⟨a,b,c⟩ | ⟨a,id,ver,b,c,e⟩
    ·exact .inl ⟨a,by simp,by simp[u6,c]⟩
    ·exact .inr ⟨a,id,ver,by simp;omega,by simp[u6,c],by simpa using e⟩
   rintro k st2 ⟨i,hk,hi,h25,h26,h27,h6⟩;have hpi:=sY ls i;rcases Nat.lt_or_ge i ls.length with hlt | hge
   ·have fO:(i:Int)<ls.length:=by omega
    have aR7:=sY ls (i+1);have hstep:=aBA hlt;obtain⟨l,hle⟩:∃ l,l=ls[i]:=⟨_,rfl⟩;rw[←hle]at hstep;obtain⟨acc,hacc⟩:∃ acc,acc=(ls.take i).flatten:=⟨_,rfl⟩;rw[←hacc]at h6 hstep hpi;rw[hstep,List.length_append]at aR7;have hw:IntKind.i64.wrap ((i:Int)+1)=((i+1:Nat):Int):=aH _ (by omega) (by omega);rcases h6 with⟨a,b,c⟩ | ⟨a,id,ver,b,c,e⟩
    ·have hlz:l=[]:=List.eq_nil_of_length_eq_zero (by omega);rw[hlz]at hle hstep;simp[a3x,a5J,a7R,a7S,a7T,h25,h26,h27,c,lists,hlt,fO,←hle,spans,hw];exact⟨ls.length - (i+1),by omega,i+1,rfl,by omega,by simp[h25,lists],by simp[h26],by simp,.inl ⟨a,by rw[hstep];simp[b],by simp⟩⟩
    ·have hln:(st2.heap.rows id).length=acc.length:=by rw[e.rows];simp
     simp[a3x,a5J,a7R,a7S,a7T,h25,h26,h27,c,lists,hlt,fO,←hle,spans,hw,e.alive,e.sz,hln];refine⟨by omega,ls.length - (i+1),by omega,i+1,rfl,by omega,by simp[h25,lists],by simp[h26],by simp,.inr ⟨a,id,ver+1,by simp;omega,by rw[hstep];simp,⟨by simp,?_,by simp,by simp[e.open_]⟩⟩⟩;rw[dP,if_pos rfl,e.rows,hstep];simp[cell,spr]
   ·have hi':i=ls.length:=by omega
    subst hi';have fO:¬ (ls.length:Int)<ls.length:=by omega
    rw[List.take_length]at h6;simp[a3x,a5J,h26,h27,a7U,aC];rcases h6 with⟨a,b,c⟩ | ⟨a,id,ver,b,c,e⟩
    ·rw[c,b];simp[spans]
    ·have e1:(ls.flatten.map spr).length=ls.flatten.length:=List.length_map _;rw[c,←e1];have q2':st2.heap.rows id=(ls.flatten.map spr).map (·.map .t):=by rw[e.rows,List.map_map];rfl
     refine⟨iU e.alive e.sz q2',?_⟩;simp only[lD q2',spans]
  by_cases ht0:t=0
  ·subst ht0;have h3':st.tmps 3= .one (.t (I 0)):=by rw[h3];rfl
   simp[a5I,a5H,h10,h11,a7P,h3',hh];refine aD.imp (aR6 jM _ (ho0 _)) ?_;simp only[wK];exact after (.one (.tt 2 [])) _ _ _ h0 rfl (.inl ⟨rfl,rfl,rfl⟩)
  ·simp[a5I,a5H,h10,h11,a7P,h3,hh];refine aD.imp (aU8 t (by omega) (by omega) jM _ (ho0 _)) ?_;simp only[wK];exact after (.one (.ref _ 1 0 0 2 false)) _ _ _ h0 rfl (.inr ⟨by omega,_,1,by omega,rfl,bH⟩)
theorem aGS(a b:List Sp)(hs:a.length+b.length≤100000)(hoa:∀ x∈a,bad x=false)(hob:∀ x∈b,bad x=false):PSp prog 86 [.one (.t (I 0)),.one (.t (spans a)),.one (.t (spans b))] (.one (.t (spans (bK (a++b))))):=by
 refine k86.aI (by simp) rfl rfl ?_;simp[c86,a5y,a5z,a5A,b4d,spans];have hc:=aOT [a,b] (by simp;omega) (by simp);simp[spans]at hc;refine aD.pure hc (by simp) (by simp[lists,spans]) ?_;have hn:=vR (a++b) (by simp;omega) (fun x hx=>by rcases List.mem_append.1 hx with h | h;exact hoa x h;exact hob x h);simp[spans]at hn;simp;refine aD.pure hn (by simp) (by simp) ?_;simp[aC]
section
attribute [-simp] Go.Ab.aA Go.Ab.gval
attribute [local simp] bE aM aQ aG aV aO aX tyC fdC vlC ndC aL D.cR D.pt
theorem pP{bg:List Nat}{i:Nat}{x:Nd}(N:xI bg i x.args){k:Nat}(h:k<x.args.length):x.args[k]? =some ((aJ x k:Nat):Int):=by
 obtain⟨c,c1,_,_⟩:=N.arg _ (gL9 h);simp only[aJ,List.getD_eq_getElem?_getD,gE9 h,Option.getD_some,c1];simp
structure aGT (l:List Nd) (bg:List Nat) (W:Nat→Prop) (f:Nat→Nat→List Sp):Prop where
 tree:dM l bg
 few:l.length≤20
 ok:∀ x∈l,x.ok=true
 set:∀ n i,i<n→i<l.length→W i→Gap (f n i)∧(∀y∈f n i,bad y=false)∧(f n i).length≤10
 two:∀ n i x,l[i]? =some x→i<n+1→W i→2≤x.args.length→(f n (aJ x 0)).length+(f n (aJ x 1)).length≤10
attribute [local simp] a8K c90 in
theorem P90{l:List Nd}{bg:List Nat}{W:Nat→Prop}(H:aGT l bg W (spL l))(h1:∀ p x,l[p]? =some x→W p→x.k≠1)(hsub:∀ p x,l[p]? =some x→W p→∀c:Nat,(c:Int)∈x.args→W c):∀ n i,i<n→i<l.length→W i→PSp prog 90 [.one (.t (aG l)),.one (.t (I i))] (.one (.t (spans (spL l n i)))):=by
 intro n
 induction n with
 | zero=>intro i hi;omega
 | succ n ih=>
  intro i hin hil hW;have hx:l[i]? =some (l[i]'hil):=gE9 _;generalize l[i]'hil=x at hx;have N:=H.tree.node i x hx;have hiI:(i:Int)<(l.length:Int):=by omega
  have hk1:=h1 i x hx hW;have hr:=H.ok x (gM9 hx);simp only[Nd.ok,Bool.and_eq_true]at hr;have hr:=hr.1.1
  have sub:∀ k,k<x.args.length→aJ x k<n∧aJ x k<l.length∧W (aJ x k):=fun k hk=>by
   obtain⟨m1,m2,m3⟩:=cH N hk;exact⟨by omega,by omega,hsub i x hx hW _ m1⟩
  obtain⟨R0,hR0⟩:∃ R,spL l (n+1) i=R:=⟨_,rfl⟩;rw[hR0];have q1:(x.k==1)=false:=by simpa using hk1
  refine k90.aI (by simp) rfl rfl ?_;rcases eqCases x.k 0 with k0 | k0
  ·have e1:R0=[(x.lo,x.hi)]:=by rw[←hR0];simp[spL,hx,k0]
   subst e1;simp -implicitDefEqProofs [hil,hiI,aE hx,Nd.row,k0,aC,spans,spr,-List.getElem_map]
  ·have pos:0<x.args.length:=by
    unfold Nd.right at hr;simp only[k0,hk1,or_self,if_false]at hr;split at hr
    ·have:=of_decide_eq_true hr;omega
    ·split at hr
     ·have:=of_decide_eq_true hr;omega
     ·split at hr
      ·have:=of_decide_eq_true hr;omega
      ·cases hr
   have a0:=pP N pos;obtain⟨s1,s2,s3⟩:=sub 0 pos;have c0:=ih (aJ x 0) s1 s2 s3;have l0:(0:Int)<(x.args.length:Int):=by omega
   rcases eqCases x.k 2 with k2 | k2
   ·have e1:R0=spL l n (aJ x 0):=by rw[←hR0];simp[spL,hx,k2]
    subst e1;simp -implicitDefEqProofs [hil,hiI,aE hx,Nd.row,k2,pos,aE a0,-List.getElem_map];refine aD.tree c0 rfl ?_;simp -implicitDefEqProofs [aC]
   ·by_cases one:x.args.length=1
    ·have e1:R0=spL l n (aJ x 0):=by rw[←hR0];simp[spL,hx,k0,hk1,k2,one]
     subst e1;have l2:(x.args.length:Int)<2:=by omega
     have l3:¬ (2:Int)≤(x.args.length:Int):=by omega
     simp -implicitDefEqProofs [hil,hiI,aE hx,Nd.row,k0,q1,k2,pos,aE a0,-List.getElem_map];refine aD.tree c0 rfl ?_;simp -implicitDefEqProofs [l2,l3,aC]
    ·have one':1<x.args.length:=by omega
     have a1:=pP N one';obtain⟨t1,t2,t3⟩:=sub 1 one';have c1:=ih (aJ x 1) t1 t2 t3;have l2:¬ (x.args.length:Int)<2:=by omega
     have l3:(2:Int)≤(x.args.length:Int):=by omega
     have l1:(1:Int)<(x.args.length:Int):=by omega
     obtain⟨gA,okA,nA⟩:=H.set n _ s1 s2 s3;obtain⟨gB,okB,nB⟩:=H.set n _ t1 t2 t3;have nAB:=H.two n i x hx hin hW (by omega);have va:=gA.valid;have vb:=gB.valid
     have eR:R0=if x.k==5 then bK (cO (spL l n (aJ x 0)) (spL l n (aJ x 1)))else if x.k==6 then bK (aY (spL l n (aJ x 0)) (spL l n (aJ x 1)))else bK (spL l n (aJ x 0)++spL l n (aJ x 1)):=by
      rw[←hR0];have q:¬ x.args.length<2:=by omega
      simp[spL,hx,k0,hk1,k2,q]
     clear hR0;generalize spL l n (aJ x 0)=A at*;generalize spL l n (aJ x 1)=B at*;simp -implicitDefEqProofs [hil,hiI,aE hx,Nd.row,k0,q1,k2,pos,aE a0,-List.getElem_map];refine aD.tree c0 rfl ?_;simp -implicitDefEqProofs [l2,l3,one',l1,aE a1,-List.getElem_map];refine aD.tree c1 rfl ?_;rcases eqCases x.k 5 with k5 | k5
     ·have:R0=bK (cO A B):=by rw[eR];simp[k5]
      subst this;simp -implicitDefEqProofs [k5];refine aD.tree (aM3 A B (by have:=lE A B gA gB;omega) (by omega) (by omega) okA okB) rfl ?_;simp -implicitDefEqProofs [aC]
     ·rcases eqCases x.k 6 with k6 | k6
      ·have:R0=bK (aY A B):=by rw[eR];simp[k6]
       subst this;simp -implicitDefEqProofs [k6];refine aD.tree (yB A B (by have:=(dZ (b:=B) (a:=A) gA.asc vb).2.1;omega) (by omega) (by omega) gA.asc okA okB) rfl ?_;simp -implicitDefEqProofs [aC]
      ·have:R0=bK (A++B):=by rw[eR];simp[k5,k6]
       subst this;simp -implicitDefEqProofs [k5,k6];refine aD.tree (aGS A B (by omega) okA okB) rfl ?_;simp -implicitDefEqProofs [aC]
attribute [local simp] b71 c83 in
theorem P83{l:List Nd}{bg:List Nat}{W:Nat→Prop}(H:aGT l bg W (nuR l))(h1:∀ p x,l[p]? =some x→W p→x.k≠1)(hsub:∀ p x,l[p]? =some x→W p→∀c:Nat,(c:Int)∈x.args→W c):∀ n i,i<n→i<l.length→W i→PSp prog 83 [.one (.t (aG l)),.one (.t (I i))] (.one (.t (spans (nuR l n i)))):=by
 intro n
 induction n with
 | zero=>intro i hi;omega
 | succ n ih=>
  intro i hin hil hW;have hx:l[i]? =some (l[i]'hil):=gE9 _;generalize l[i]'hil=x at hx;have N:=H.tree.node i x hx;have hiI:(i:Int)<(l.length:Int):=by omega
  have hk1:=h1 i x hx hW;have hr:=H.ok x (gM9 hx);simp only[Nd.ok,Bool.and_eq_true]at hr;have hr:=hr.1.1
  have sub:∀ k,k<x.args.length→aJ x k<n∧aJ x k<l.length∧W (aJ x k):=fun k hk=>by
   obtain⟨m1,m2,m3⟩:=cH N hk;exact⟨by omega,by omega,hsub i x hx hW _ m1⟩
  obtain⟨R0,hR0⟩:∃ R,nuR l (n+1) i=R:=⟨_,rfl⟩;rw[hR0];have q1:(x.k==1)=false:=by simpa using hk1
  refine k83.aI (by simp) rfl rfl ?_;rcases eqCases x.k 0 with k0 | k0
  ·have e1:R0=[(x.lo,x.hi)]:=by rw[←hR0];simp[nuR,hx,k0]
   subst e1;simp -implicitDefEqProofs [hil,hiI,aE hx,Nd.row,k0,aC,spans,spr,-List.getElem_map]
  ·have pos:0<x.args.length:=by
    unfold Nd.right at hr;simp only[k0,hk1,or_self,if_false]at hr;split at hr
    ·have:=of_decide_eq_true hr;omega
    ·split at hr
     ·have:=of_decide_eq_true hr;omega
     ·split at hr
      ·have:=of_decide_eq_true hr;omega
      ·cases hr
   have a0:=pP N pos;obtain⟨s1,s2,s3⟩:=sub 0 pos;have c0:=ih (aJ x 0) s1 s2 s3;have l0:(0:Int)<(x.args.length:Int):=by omega
   by_cases one:x.args.length=1
   ·have e1:R0=nuR l n (aJ x 0):=by rw[←hR0];simp[nuR,hx,k0,hk1,one]
    subst e1;have l2:((x.args.length:Int)==1)=true:=by simp[one]
    simp -implicitDefEqProofs [hil,hiI,aE hx,Nd.row,k0,q1,one,aE a0,-List.getElem_map];refine aD.tree c0 rfl ?_;simp -implicitDefEqProofs [aC]
   ·have one':1<x.args.length:=by omega
    have a1:=pP N one';obtain⟨t1,t2,t3⟩:=sub 1 one';have c1:=ih (aJ x 1) t1 t2 t3;have l2:((x.args.length:Int)==1)=false:=by simp;omega
    have l1:(1:Int)<(x.args.length:Int):=by omega
    obtain⟨gA,okA,nA⟩:=H.set n _ s1 s2 s3;obtain⟨gB,okB,nB⟩:=H.set n _ t1 t2 t3
    have eR:R0=gS (opN x.k) (nuR l n (aJ x 0)) (nuR l n (aJ x 1)) [] (cQ (nuR l n (aJ x 0)++nuR l n (aJ x 1))):=by
     rw[←hR0];simp[nuR,hx,k0,hk1,one]
    clear hR0;generalize nuR l n (aJ x 0)=A at*;generalize nuR l n (aJ x 1)=B at*
    have aR8:∀ y∈A++B,bad y=false:=fun y hy=>by
     rcases List.mem_append.1 hy with q | q
     ·exact okA y q
     ·exact okB y q
    subst eR;have cc:=fun op=>aEL op A B (by omega) (by omega) aR8
    rcases eqCases x.k 5 with k5 | k5
    ·have eo:opN x.k=1:=by simp[opN,k5]
     rw[eo];simp -implicitDefEqProofs [hil,hiI,aE hx,Nd.row,k5,l2,pos,aE a0,-List.getElem_map];refine aD.bN c0 rfl ?_;simp -implicitDefEqProofs [one',l1,aE a1,-List.getElem_map];refine aD.bN c1 rfl ?_;simp -implicitDefEqProofs;refine aD.bN (cc 1) rfl ?_;simp -implicitDefEqProofs [aC]
    ·rcases eqCases x.k 6 with k6 | k6
     ·have eo:opN x.k=2:=by simp[opN,k6]
      rw[eo];simp -implicitDefEqProofs [hil,hiI,aE hx,Nd.row,k6,l2,pos,aE a0,-List.getElem_map];refine aD.bN c0 rfl ?_;simp -implicitDefEqProofs [one',l1,aE a1,-List.getElem_map];refine aD.bN c1 rfl ?_;simp -implicitDefEqProofs;refine aD.bN (cc 2) rfl ?_;simp -implicitDefEqProofs [aC]
     ·have eo:opN x.k=0:=by simp[opN,k5,k6]
      rw[eo];simp -implicitDefEqProofs [hil,hiI,aE hx,Nd.row,k0,q1,k5,k6,l2,pos,aE a0,-List.getElem_map];refine aD.bN c0 rfl ?_;simp -implicitDefEqProofs [one',l1,aE a1,-List.getElem_map];refine aD.bN c1 rfl ?_;simp -implicitDefEqProofs;refine aD.bN (cc 0) rfl ?_;simp -implicitDefEqProofs [aC]
attribute [local simp] c84 in
theorem P84{l:List Nd}{bg:List Nat}{W:Nat→Prop}(H:aGT l bg W (szR l)){P:Nat→Prop}(c83:∀ n i,i<n→i<l.length→P i→PSp prog 83 [.one (.t (aG l)),.one (.t (I i))] (.one (.t (spans (nuR l n i)))))(h1:∀ p x,l[p]? =some x→W p→x.k≠0∧x.k≠1∧x.k≠3)(hsub:∀ p x,l[p]? =some x→W p→∀c:Nat,(c:Int)∈x.args→if x.k=2 then P c else W c):∀ n i,i<n→i<l.length→W i→PSp prog 84 [.one (.t (aG l)),.one (.t (I i))] (.one (.t (spans (szR l n i)))):=by
 intro n
 induction n with
 | zero=>intro i hi;omega
 | succ n ih=>
  intro i hin hil hW;have hx:l[i]? =some (l[i]'hil):=gE9 _;generalize l[i]'hil=x at hx;have N:=H.tree.node i x hx;have hiI:(i:Int)<(l.length:Int):=by omega
  obtain⟨k0,k1,k3⟩:=h1 i x hx hW;have hr:=H.ok x (gM9 hx);simp only[Nd.ok,Bool.and_eq_true]at hr;have hr:=hr.1.1
  have pos:0<x.args.length:=by
   unfold Nd.right at hr;simp only[k0,k1,or_self,if_false]at hr;split at hr
   ·have:=of_decide_eq_true hr;omega
   ·split at hr
    ·have:=of_decide_eq_true hr;omega
    ·split at hr
     ·have:=of_decide_eq_true hr;omega
     ·cases hr
  have l0:(0:Int)<(x.args.length:Int):=by omega
  have a0:=pP N pos;obtain⟨R0,hR0⟩:∃ R,szR l (n+1) i=R:=⟨_,rfl⟩;rw[hR0];refine k84.aI (by simp) rfl rfl ?_;rcases eqCases x.k 2 with k2 | k2
  ·have e1:R0=nuR l n (aJ x 0):=by rw[←hR0];simp[szR,hx,k2]
   subst e1;obtain⟨m1,m2,m3⟩:=cH N pos;have hP:=hsub i x hx hW _ m1;rw[if_pos k2]at hP;simp -implicitDefEqProofs [hil,hiI,aE hx,Nd.row,k2,pos,aE a0,-List.getElem_map];refine aD.tree (c83 n _ (by omega) (by omega) hP) rfl ?_;simp -implicitDefEqProofs [aC]
  ·have sub:∀ k,k<x.args.length→aJ x k<n∧aJ x k<l.length∧W (aJ x k):=fun k hk=>by
    obtain⟨m1,m2,m3⟩:=cH N hk;have:=hsub i x hx hW _ m1;rw[if_neg k2.2.1]at this;exact⟨by omega,by omega,this⟩
   obtain⟨s1,s2,s3⟩:=sub 0 pos;have c0:=ih (aJ x 0) s1 s2 s3
   by_cases one:x.args.length=1
   ·have e1:R0=szR l n (aJ x 0):=by rw[←hR0];simp[szR,hx,k2,one]
    subst e1;have l2:((x.args.length:Int)==1)=true:=by simp[one]
    simp -implicitDefEqProofs [hil,hiI,aE hx,Nd.row,k2,one,aE a0,-List.getElem_map];refine aD.tree c0 rfl ?_;simp -implicitDefEqProofs [aC]
   ·have one':1<x.args.length:=by omega
    have a1:=pP N one';obtain⟨t1,t2,t3⟩:=sub 1 one';have c1:=ih (aJ x 1) t1 t2 t3;have l2:((x.args.length:Int)==1)=false:=by simp;omega
    have l1:(1:Int)<(x.args.length:Int):=by omega
    obtain⟨gA,okA,nA⟩:=H.set n _ s1 s2 s3;obtain⟨gB,okB,nB⟩:=H.set n _ t1 t2 t3
    have eR:R0=gS (opN x.k) (szR l n (aJ x 0)) (szR l n (aJ x 1)) [] (cQ (szR l n (aJ x 0)++szR l n (aJ x 1))):=by
     rw[←hR0];simp[szR,hx,k2,one]
    clear hR0;generalize szR l n (aJ x 0)=A at*;generalize szR l n (aJ x 1)=B at*
    have aR8:∀ y∈A++B,bad y=false:=fun y hy=>by
     rcases List.mem_append.1 hy with q | q
     ·exact okA y q
     ·exact okB y q
    subst eR;have cc:=fun op=>aEL op A B (by omega) (by omega) aR8
    rcases eqCases x.k 5 with k5 | k5
    ·have eo:opN x.k=1:=by simp[opN,k5]
     rw[eo];simp -implicitDefEqProofs [hil,hiI,aE hx,Nd.row,k5,l2,pos,aE a0,-List.getElem_map];refine aD.bN c0 rfl ?_;simp -implicitDefEqProofs [one',l1,aE a1,-List.getElem_map];refine aD.bN c1 rfl ?_;simp -implicitDefEqProofs;refine aD.bN (cc 1) rfl ?_;simp -implicitDefEqProofs [aC]
    ·rcases eqCases x.k 6 with k6 | k6
     ·have eo:opN x.k=2:=by simp[opN,k6]
      rw[eo];simp -implicitDefEqProofs [hil,hiI,aE hx,Nd.row,k6,l2,pos,aE a0,-List.getElem_map];refine aD.bN c0 rfl ?_;simp -implicitDefEqProofs [one',l1,aE a1,-List.getElem_map];refine aD.bN c1 rfl ?_;simp -implicitDefEqProofs;refine aD.bN (cc 2) rfl ?_;simp -implicitDefEqProofs [aC]
     ·have eo:opN x.k=0:=by simp[opN,k5,k6]
      rw[eo];simp -implicitDefEqProofs [hil,hiI,aE hx,Nd.row,k2,k5,k6,l2,pos,aE a0,-List.getElem_map];refine aD.bN c0 rfl ?_;simp -implicitDefEqProofs [one',l1,aE a1,-List.getElem_map];refine aD.bN c1 rfl ?_;simp -implicitDefEqProofs;refine aD.bN (cc 0) rfl ?_;simp -implicitDefEqProofs [aC]
theorem aEU{l:List Nd}{bg:List Nat}(T:dM l bg)(hl:l.length≤20)(hok:∀ x∈l,x.ok=true)(W:Nat→Prop)(f g:Nat→Nat→List Sp)(hb:∀ n i,i<n→i<l.length→W i→Both bg i (f n i) (g n i))(hsub:∀ p x,l[p]? =some x→W p→2≤x.args.length→∀c:Nat,(c:Int)∈x.args→W c):aGT l bg W f∧aGT l bg W g:=by
 have key:aGT l bg W f:=by
  refine⟨T,hl,hok,fun n i h1 h2 h3=>?_,fun n i x hx hi hW h2=>?_⟩
  ·obtain⟨_,b2,b3,b4⟩:=hb n i h1 h2 h3;exact⟨b2,b3,by omega⟩
  ·have N:=T.node i x hx;have hil:=(gS9.1 hx).1;have hr:=hok x (gM9 hx);simp only[Nd.ok,Bool.and_eq_true]at hr
   have two:x.args.length=2:=by
    have hr:=hr.1.1;unfold Nd.right at hr;split at hr
    ·have:=of_decide_eq_true hr;omega
    ·split at hr
     ·have:=of_decide_eq_true hr;omega
     ·split at hr
      ·exact of_decide_eq_true hr
      ·split at hr
       ·have:=of_decide_eq_true hr;omega
       ·cases hr
   obtain⟨m1,m2,m3⟩:=cH N (k:=0) (by omega);obtain⟨p1,p2,p3⟩:=cH N (k:=1) (by omega);have ap:=xY N two;have le0:=(T.node (aJ x 0) _ (gE9 (show aJ x 0<l.length by omega))).le;have le1:=(T.node (aJ x 1) _ (gE9 (show aJ x 1<l.length by omega))).le;have a:=(hb n _ (by omega) (by omega) (hsub i x hx hW h2 _ m1)).few;have b:=(hb n _ (by omega) (by omega) (hsub i x hx hW h2 _ p1)).few;omega
 refine⟨key,⟨T,hl,hok,fun n i h1 h2 h3=>?_,fun n i x hx hi hW h2=>?_⟩⟩
 ·have e:=(hb n i h1 h2 h3).eq;rw[←e];exact key.set n i h1 h2 h3
 ·have N:=T.node i x hx;have hil:=(gS9.1 hx).1;obtain⟨m1,m2,m3⟩:=cH N (k:=0) (by omega);obtain⟨p1,p2,p3⟩:=cH N (k:=1) (by omega);have a:=(hb n _ (by omega) (by omega) (hsub i x hx hW h2 _ m1)).eq;have b:=(hb n _ (by omega) (by omega) (hsub i x hx hW h2 _ p1)).eq;rw[←a,←b];exact key.two n i x hx hi hW h2
end
section
attribute [-simp] Go.Ab.aA Go.Ab.gval
attribute [local simp] bE aM aQ aG aV aO aX tyC fdC vlC ndC aL D.cR D.pt
attribute [local simp] c80 in
theorem P80(t:Ty)(hn:t.narrow=true):PSp prog 80 [.agg (tyC t)] (.one (.t (I (eK t).2))):=by
 refine k80.aI (by simp) (by simp[D.closed,A.closed]) rfl ?_;have p:=P14 t hn;generalize eK t=R at*;simp -implicitDefEqProofs;refine aD.tree p rfl ?_;simp -implicitDefEqProofs [aC]
attribute [local simp] c29 in
theorem P29(t:Ty)(hn:t.narrow=true):PSp prog 29 [.agg (tyC t)] (.one (.t (I (yU t).2))):=by
 refine k29.aI (by simp) (by simp[D.closed,A.closed]) rfl ?_;have p:=P16 t hn;generalize yU t=R at*;simp -implicitDefEqProofs;refine aD.tree p rfl ?_;simp -implicitDefEqProofs [aC]
def mG:List Sp:=[(-1152921504606846976,1152921504606846976)]
def bL(t:Ty):List Sp:=if t.limits.length==0 then(if t.kind==2 then mG else[(0,40)])else spL t.limits t.limits.length (t.limits.length - 1)
def jE(t:Ty):List Sp:=if t.limits.length==0 then(if t.kind==2 then mG else[(0,40)])else if t.kind==2 then nuR t.limits t.limits.length (t.limits.length - 1)else szR t.limits t.limits.length (t.limits.length - 1)
attribute [local simp] c82 in
theorem P82(t:Ty)(hl:t.limits.length≤40)(h90:t.limits.length≠0→PSp prog 90 [.one (.t (aG t.limits)),.one (.t (I ((t.limits.length - 1:Nat):Int)))] (.one (.t (spans (spL t.limits t.limits.length (t.limits.length - 1)))))):
  PSp prog 82 [.agg (tyC t)] (.one (.t (spans (bL t)))):=by
 refine k82.aI (by simp) (by simp[D.closed,A.closed]) rfl ?_
 by_cases z:t.limits.length=0
 ·have zI:¬ 0<t.limits.length:=by omega
  rcases eqCases t.kind 2 with k2 | k2
  ·have e:bL t=mG:=by simp[bL,z,k2]
   rw[e];simp -implicitDefEqProofs [z,k2,aC,spans,spr,mG]
  ·have e:bL t=[(0,40)]:=by simp[bL,z,k2]
   rw[e];simp -implicitDefEqProofs [z,k2,aC,spans,spr]
 ·have zI:0<t.limits.length:=by omega
  have hw:IntKind.i64.wrap ((t.limits.length:Int) - 1)=((t.limits.length - 1:Nat):Int):=by rw[wrap_i64 (by omega) (by omega)];omega
  have e:bL t=spL t.limits t.limits.length (t.limits.length - 1):=by simp[bL,z]
  rw[e];have c:=h90 z;generalize spL t.limits t.limits.length (t.limits.length - 1)=R at*;simp -implicitDefEqProofs [zI,hw];refine aD.tree c rfl ?_;simp -implicitDefEqProofs [aC]
attribute [local simp] c31 in
theorem P31(t:Ty)(hl:t.limits.length≤40)(h83:t.limits.length≠0→t.kind=2→PSp prog 83 [.one (.t (aG t.limits)),.one (.t (I ((t.limits.length - 1:Nat):Int)))] (.one (.t (spans (nuR t.limits t.limits.length (t.limits.length - 1))))))
  (h84:t.limits.length≠0→t.kind≠2→PSp prog 84 [.one (.t (aG t.limits)),.one (.t (I ((t.limits.length - 1:Nat):Int)))] (.one (.t (spans (szR t.limits t.limits.length (t.limits.length - 1)))))):
  PSp prog 31 [.agg (tyC t)] (.one (.t (spans (jE t)))):=by
 refine k31.aI (by simp) (by simp[D.closed,A.closed]) rfl ?_
 by_cases z:t.limits.length=0
 ·have hw:IntKind.i64.wrap ((t.limits.length:Int) - 1)= -1:=by rw[z];decide
  have hw0:IntKind.i64.wrap ((0:Int) - 1)= -1:=by decide
  have hw1:IntKind.i64.wrap (-1:Int)= -1:=by decide
  have zl:t.limits=[]:=List.length_eq_zero_iff.1 z;rcases eqCases t.kind 2 with k2 | k2
  ·have e:jE t=mG:=by simp[jE,z,k2]
   rw[e];simp -implicitDefEqProofs [zl,hw1,k2,aC,spans,spr,mG]
  ·have e:jE t=[(0,40)]:=by simp[jE,z,k2]
   rw[e];simp -implicitDefEqProofs [zl,hw1,k2,aC,spans,spr]
 ·have hw:IntKind.i64.wrap ((t.limits.length:Int) - 1)=((t.limits.length - 1:Nat):Int):=by rw[wrap_i64 (by omega) (by omega)];omega
  obtain⟨m,hm⟩:∃ m:Nat,t.limits.length - 1=m:=⟨_,rfl⟩;have hneg:¬ ((m:Int)<0):=by omega
  rw[hm]at hw h83 h84;rcases eqCases t.kind 2 with k2 | k2
  ·have e:jE t=nuR t.limits t.limits.length m:=by simp[jE,z,k2,hm]
   rw[e];have c:=h83 z k2;generalize nuR t.limits t.limits.length m=R at*;simp -implicitDefEqProofs [hw,hneg,k2];refine aD.tree c rfl ?_;simp -implicitDefEqProofs [aC]
  ·have e:jE t=szR t.limits t.limits.length m:=by simp[jE,z,k2,hm]
   rw[e];have c:=h84 z k2.2.1;generalize szR t.limits t.limits.length m=R at*;simp -implicitDefEqProofs [hw,hneg,k2];refine aD.tree c rfl ?_;simp -implicitDefEqProofs [aC]
theorem perms(t:Ty)(h:(eK t).2=0)(hk:t.kind=2∨t.kind=11∨t.kind=12):bL t=jE t∧(jE t).length≤10∧PSp prog 82 [.agg (tyC t)] (.one (.t (spans (bL t))))∧PSp prog 31 [.agg (tyC t)] (.one (.t (spans (jE t)))):=by
 by_cases z:t.limits.length=0
 ·have e:bL t=jE t:=by simp[bL,jE,z]
  refine⟨e,?_,P82 t (by omega) fun q=>absurd z q,P31 t (by omega) (fun q=>absurd z q) fun q=>absurd z q⟩;simp only[jE,z,beq_self_eq_true,if_true];split<;>simp[mG]
 ·obtain⟨bg,P,Q,T,hl,hok,hn,he,hq,hf,hP,hQ⟩:=oF h z hk;have bP:=xZ T hok P hn he;have bQ:=aJB T hok P Q hn he hq hf
  have aXP:∀ (x:Nd),x∈t.limits→x.k=2→¬2≤x.args.length:=fun x hx k2=>by
   have hr:=hok x hx;simp only[Nd.ok,Bool.and_eq_true]at hr;have hr:=hr.1.1;unfold Nd.right at hr;simp only[k2]at hr;have:=of_decide_eq_true hr;omega
  obtain⟨f1,f2⟩:=aEU T hl hok P (spL t.limits) (nuR t.limits) bP fun p x hx hp _=>he p x hx hp
  obtain⟨g1,g2⟩:=aEU T hl hok Q (spL t.limits) (szR t.limits) bQ fun p x hx hp h2 c hc=>by
   have:=hf p x hx hp c hc;rw[if_neg (fun k2=>aXP x (gM9 hx) k2 h2)]at this;exact this
  have c83:=P83 f2 (fun p x hx hp=>(hn p x hx hp).1) he;have c84:=P84 g2 c83 hq hf
  have f9:aGT t.limits bg (fun p=>P p∨Q p) (spL t.limits):=by
   refine⟨T,hl,hok,fun n i h1 h2 h3=>?_,fun n i x hx hi hW h2=>?_⟩
   ·rcases h3 with q | q
    ·exact f1.set n i h1 h2 q
    ·exact g1.set n i h1 h2 q
   ·rcases hW with q | q
    ·exact f1.two n i x hx hi q h2
    ·exact g1.two n i x hx hi q h2
  have c90:=P90 f9 (fun p x hx hp=>by
   rcases hp with q | q
   ·exact(hn p x hx q).1
   ·exact(hq p x hx q).2.1) fun p x hx hp c hc=>by
   rcases hp with q | q
   ·exact .inl (he p x hx q c hc)
   ·have:=hf p x hx q c hc;split at this
    ·exact .inl this
    ·exact .inr this
  have last:t.limits.length - 1<t.limits.length:=by omega
  by_cases k2:t.kind=2
  ·have b:=bP t.limits.length _ last last (hP k2);have e1:bL t=spL t.limits t.limits.length (t.limits.length - 1):=by simp[bL,z]
   have e2:jE t=nuR t.limits t.limits.length (t.limits.length - 1):=by simp[jE,z,k2]
   refine⟨by rw[e1,e2];exact b.eq,by rw[e2,←b.eq];have:=b.few;omega,P82 t (by omega) fun _=>c90 _ _ last last (.inl (hP k2)),P31 t (by omega) (fun _ _=>c83 _ _ last last (hP k2)) fun _ q=>absurd k2 q⟩
  ·have b:=bQ t.limits.length _ last last (hQ k2);have e1:bL t=spL t.limits t.limits.length (t.limits.length - 1):=by simp[bL,z]
   have e2:jE t=szR t.limits t.limits.length (t.limits.length - 1):=by simp[jE,z,k2]
   refine⟨by rw[e1,e2];exact b.eq,by rw[e2,←b.eq];have:=b.few;omega,P82 t (by omega) fun _=>c90 _ _ last last (.inr (hQ k2)),P31 t (by omega) (fun _ q=>absurd q k2) fun _ _=>c84 _ _ last last (hQ k2)⟩
def rN(k:Int):Bool:=k==2||(k==11||k==12)
def rO(t:Ty):Int:=bZ [(eK t).2,if rN t.kind then 0 else 4]
attribute [local simp] c28 in
theorem P28(t:Ty)(hn:t.narrow=true)(R:List Sp)(hR:(eK t).2=0→rN t.kind=true→PSp prog 82 [.agg (tyC t)] (.one (.t (spans R)))):
  PSp prog 28 [.agg (tyC t)] (.tup [.one (.t (spans (if rO t != 0 then[] else R))),.one (.t (I (rO t)))]):=by
 have p80:=P80 t hn;have p61:=P61 t.kind;have eS:rO t=bZ [(eK t).2,if rN t.kind then 0 else 4]:=rfl;generalize (eK t).2=e0 at*;obtain⟨hs,ehs⟩:∃ b,rN t.kind=b:=⟨_,rfl⟩;rw[ehs]at eS hR;have p79:=P79 [e0,if hs then 0 else 4] (by simp[short]);rw[←eS]at p79
 have hz:rO t=0→e0=0∧hs=true:=fun h=>by
  rw[eS]at h;simp only[bT,cZ]at h
  by_cases q:e0=0
  ·refine⟨q,?_⟩;cases hs
   ·simp[q]at h
   ·rfl
  ·simp[q]at h
 generalize rO t=E at*;refine k28.aI (by simp) (by simp[D.closed,A.closed]) rfl ?_;have fin:∀ st:St,st.tmps 4= .one (.t (I E))→st.tmps 1= .one (.ptr ⟨0,0,8,0,0⟩)→st.heap 0=some (.arr 0 false 8 [tyC t])→True:=fun _ _ _ _=>trivial
 simp -implicitDefEqProofs;refine aD.bN p80 rfl ?_;rcases eqCases t.kind 2 with k2 | k2
 ·have eh:hs=true:=by rw[←ehs];simp[rN,k2]
  subst eh;simp -implicitDefEqProofs [k2];refine aD.bN (P81 true 4) rfl ?_;simp -implicitDefEqProofs;refine aD.draw p79 (by simp) (by simp) (.inl rfl) ?_;rcases eqCases E 0 with z | z
  ·obtain⟨z1,_⟩:=hz z;have c:=hR z1 rfl;simp only[tyC,bE,aM,aQ,aG,k2]at c;simp -implicitDefEqProofs [z];refine aD.tree c rfl ?_;simp -implicitDefEqProofs [aC]
  ·simp -implicitDefEqProofs [z,aC,spans]
 ·have eh:hs=(t.kind==11||t.kind==12):=by rw[←ehs];simp[rN,k2]
  rw[←eh]at p61;simp -implicitDefEqProofs [k2];refine aD.bN p61 rfl ?_;simp -implicitDefEqProofs;refine aD.bN (P81 hs 4) rfl ?_;simp -implicitDefEqProofs;refine aD.draw p79 (by simp) (by simp) (.inl rfl) ?_;rcases eqCases E 0 with z | z
  ·obtain⟨z1,z2⟩:=hz z;simp -implicitDefEqProofs [z];refine aD.tree (hR z1 z2) rfl ?_;simp -implicitDefEqProofs [aC]
  ·simp -implicitDefEqProofs [z,aC,spans]
end
section
attribute [local simp] bE aM aQ aG aV aO aX tyC fdC vlC ndC aL D.cR D.pt
end
section
attribute [-simp] Go.Ab.aA Go.Ab.gval
attribute [local simp] bE aM aQ aG aV aO aX tyC fdC vlC ndC aL D.cR D.pt
theorem aM4(v:Vl):v.row.map A.t=vlC v:=by
 cases v;rw[Vl.row,dV];rfl
attribute [local simp] c118 in
theorem aXQ(v:Vl)(hv:v.fine):PSp prog 118 [.agg (vlC v)] (.one (.t (I v.cS))):=by
 have k145:=wU v hv;rw[aM4]at k145;refine k118.aI (by simp) (by simp[D.closed,A.closed]) rfl ?_;have e0:v.cS=if(v.sz 8 (120,false)).2 then 2 else v.fR:=by rw[Vl.cS,Vl.qA]
 rw[e0];simp -implicitDefEqProofs;refine aD.imp (ISp.ok fun ho=>k145 _ _ _ 8 (120,false) ho (by simp[sI,yQ])) ?_;obtain⟨⟨s1,s2⟩,hs⟩:∃ s,v.sz 8 (120,false)=s:=⟨_,rfl⟩;rw[hs];cases s2
 ·simp -implicitDefEqProofs [eC,hs];refine aD.tree (aSO v hv) rfl ?_;simp -implicitDefEqProofs [aC]
 ·simp -implicitDefEqProofs [eC,hs,aC]
attribute [local simp] c123 in
theorem aXR(l:List Sp)(c:Int)(hl:l.length≤1000000)(hc:0≤c∧c≤255)(h:Hp)(id:Nat)(e:h id=some (.arr 0 false 1 [[.t (spans l)]]))(n0:Nat):
  ISp prog 123 h n0 [.one (.t (.int .u8 c)),.one (.ptr ⟨id,0,1,0,0⟩)] (.one (.t (.bool (!inS l c)))) h:=by
 refine ISp.ok fun ho=>?_
 have h1:=fZ ho e;have aIW:=aQM l c (by simp only[short];omega);refine k123.gQ (by simp) ?_;obtain⟨o1,o2,o3,o4⟩:=aK e
 have hcv:D.dO .i64 (.one (.t (.int .u8 c)))= .one (.t (I c)):=by
  have:IntKind.i64.wrap c=c:=wrap_i64 (by omega) (by omega);simp[D.dO,this]
 simp -implicitDefEqProofs [o1,o2,o3,hcv];refine aD.tree aIW rfl ?_;simp -implicitDefEqProofs;exact dQ (.inr rfl) (by exact rfl) (fun j hj=>by simp) ho
def fB(v:Vl):Int:=if v.kind==10||v.kind==11 then(v.items.length:Int)else(v.s.size:Int)
attribute [local simp] b4i b4j b4k b4l c121 in
theorem aXS(v:Vl):PSp prog 121 [.agg (vlC v)] (.one (.t (I (fB v)))):=by
 rw[fB];obtain⟨a,ea⟩:∃ a,(v.kind==10)=a:=⟨_,rfl⟩;obtain⟨b,eb⟩:∃ a,(v.kind==11)=a:=⟨_,rfl⟩;rw[ea,eb];refine k121.aI (by simp) (by simp[D.closed,A.closed]) rfl ?_;cases a<;>cases b<;>simp -implicitDefEqProofs [ea,eb,aC]
def iX(l:List Nd):Int×Bool:=if l.length==0 then(-1,false)else((fN l:Nat),match l[l.length - 1]? with | some x=>x.k==7 | none=>false)
attribute [local simp] c74 in
theorem P74{l:List Nd}{bg:List Nat}(T:dM l bg)(hok:∀ x∈l,x.ok=true)(hl:l.length≤20):PSp prog 74 [.one (.t (aG l))] (.tup [.one (.t (I (iX l).1)),.one (.t (.bool (iX l).2))]):=by
 refine k74.aI (by simp) rfl rfl ?_
 by_cases z:l.length=0
 ·have zl:l=[]:=List.length_eq_zero_iff.1 z;subst zl;simp -implicitDefEqProofs [aC,iX]
 ·have zI:((l.length:Int)==0)=false:=by simpa using z
  obtain⟨m,hm⟩:∃ m:Nat,l.length - 1=m:=⟨_,rfl⟩;have hml:m<l.length:=by omega
  have hx:l[m]? =some (l[m]'hml):=gE9 _;generalize l[m]'hml=x at hx;have N:=T.node m x hx;have hmI:(m:Int)<(l.length:Int):=by omega
  have hw:IntKind.i64.wrap ((l.length:Int) - 1)=(m:Int):=by rw[wrap_i64 (by omega) (by omega)];omega
  obtain⟨r1,r2,r3,r4⟩:=fQ (hok x (gM9 hx))
  have er:iX l=(((if x.k==7 then aJ x 0 else m:Nat):Int),x.k==7):=by
   have zN:(l.length==0)=false:=by simpa using z
   simp[iX,zN,fN,hm,hx]
  rw[er];rcases eqCases x.k 7 with k7 | k7
  ·have pos:=(r4 (by omega) (by omega)).1;have a0:=aCL N pos;have l0:(0:Int)<(x.args.length:Int):=by omega
   simp -implicitDefEqProofs [zI,hw,hml,hmI,aE hx,Nd.row,k7,pos,aE a0,aC,-List.getElem_map]
  ·simp -implicitDefEqProofs [zI,hw,hml,hmI,aE hx,Nd.row,k7,aC,-List.getElem_map]
end
section
attribute [-simp] Go.Ab.aA Go.Ab.gval
attribute [local simp] bE aM aQ aG aV aO aX tyC fdC vlC ndC aL D.cR D.pt
def qG:List Int:=[0,1,2,3,4,5,6,7,8,9,11,12,13,14,16]
def oO(t:Ty)(v:Vl):Bool:=(v.kind==9&&t.kind==10)||(qG.getD v.kind.toNat 0==t.kind&&(t.kind != 6|| !(chars v.s).any fun c=> !inS (alpha t.name) c))
attribute [local simp] c119 in
theorem aXT(t:Ty)(v:Vl)(hvs:v.s.size≤1000000)(hk:0≤v.kind∧v.kind≤14):PSp prog 119 [.agg (tyC t),.agg (vlC v)] (.one (.t (.bool (oO t v)))):=by
 obtain⟨R0,hR0⟩:∃ R,oO t v=R:=⟨_,rfl⟩;rw[hR0];have aL9:=aTO t.name v.s (by omega);obtain⟨m,hm⟩:∃ m:Nat,v.kind=(m:Int):=⟨v.kind.toNat,by omega⟩;have aM5:m<15:=by omega
 have hmI:(m:Int)<15:=by omega
 obtain⟨y,hy⟩:∃ y,qG[m]? =some y:=⟨_,gE9 (by simpa[qG]using aM5)⟩
 have hyD:qG.getD v.kind.toNat 0=y:=by
  have:v.kind.toNat=m:=by omega
  rw[this,List.getD_eq_getElem?_getD,hy];rfl
 obtain⟨i,ei⟩:∃ i,(!(chars v.s).any fun c=> !inS (alpha t.name) c)=i:=⟨_,rfl⟩;rw[ei]at aL9;have e1:R0=((v.kind==9&&t.kind==10)||(y==t.kind&&(t.kind != 6||i))):=by rw[←hR0,oO,hyD,ei]
 have hrow:∀ hh,(qG.map fun a=>[I a])[m]'hh=[I y]:=fun hh=>aE hy hh
 obtain⟨a,ea⟩:∃ a,(v.kind==9)=a:=⟨_,rfl⟩;obtain⟨b,eb⟩:∃ a,(t.kind==10)=a:=⟨_,rfl⟩;obtain⟨c,ec⟩:∃ a,(y==t.kind)=a:=⟨_,rfl⟩;obtain⟨d,ed⟩:∃ a,(t.kind != 6)=a:=⟨_,rfl⟩;rw[ea,eb,ec,ed]at e1;rw[hm]at ea;clear hR0 ei hyD;refine k119.aI (by simp) (by simp[D.closed,A.closed]) rfl ?_;have hrow':∀ hh,([[I 0],[I 1],[I 2],[I 3],[I 4],[I 5],[I 6],[I 7],[I 8],[I 9],[I 11],[I 12],[I 13],[I 14],[I 16]]:List (List T))[m]'hh=[I y]:=hrow;have ed':(t.kind != 6)=d:=ed;have rest:(y==t.kind&&(t.kind != 6||i))=(c&&(d||i)):=by rw[ec,ed]
 have body:(a&&b)=false→R0=(c&&(d||i)):=fun h=>by rw[e1,h,Bool.false_or]
 cases a<;>cases b
 case true.true=>
  have:R0=true:=by rw[e1];rfl
  subst this;simp -implicitDefEqProofs [hm,ea,eb,aC]
 all_goals
  have e2:=body rfl;clear e1 body;cases c<;>cases d
  ·subst e2;simp -implicitDefEqProofs [hm,ea,eb,aM5,hmI,hrow',ec,ed,aC]
  ·subst e2;simp -implicitDefEqProofs [hm,ea,eb,aM5,hmI,hrow',ec,ed,aC]
  ·have:R0=i:=by rw[e2];simp
   subst this;simp -implicitDefEqProofs [hm,ea,eb,aM5,hmI,hrow',ec,ed];refine aD.bN aL9 rfl ?_;simp -implicitDefEqProofs [aC]
  ·subst e2;simp -implicitDefEqProofs [hm,ea,eb,aM5,hmI,hrow',ec,ed,aC]
end
section
attribute [-simp] Go.Ab.aA Go.Ab.gval
attribute [local simp] bE aM aQ aG aV aO aX tyC fdC vlC ndC aL D.cR D.pt
def dN(t:Ty)(v:Vl):Int:=if bZ [(eK t).2,v.cS] != 0 then bZ [(eK t).2,v.cS] else if oO t v then 0 else 17
attribute [local simp] c71 in
theorem P71(t:Ty)(hn:t.narrow=true)(v:Vl)(hv:v.fine)(hvs:v.s.size≤1000000)(hk:v.cS=0→0≤v.kind∧v.kind≤14):PSp prog 71 [.agg (tyC t),.agg (vlC v)] (.one (.t (I (dN t v)))):=by
 have p80:=P80 t hn;have aXU:=aXQ v hv;have aXV:=fun h=>aXT t v hvs (hk h)
 have eR:dN t v=if bZ [(eK t).2,v.cS] != 0 then bZ [(eK t).2,v.cS] else if oO t v then 0 else 17:=rfl
 rw[eR];generalize (eK t).2=e at*;generalize v.cS=f at*;generalize oO t v=b at*;have p79:=P79 [e,f] (by simp[short])
 have hz:bZ [e,f]=0→f=0:=fun h=>by
  simp only[bT,cZ]at h
  by_cases q:e=0
  ·by_cases q2:f=0
   ·exact q2
   ·simp[q,q2]at h
  ·simp[q]at h
 generalize bZ [e,f]=E at*;refine k71.aI (by simp) (by simp[D.closed,A.closed]) rfl ?_;simp -implicitDefEqProofs;refine aD.bN p80 rfl ?_;simp -implicitDefEqProofs;refine aD.bN aXU rfl ?_;simp -implicitDefEqProofs;refine aD.draw p79 (by simp) (by simp) (.inl rfl) ?_;rcases eqCases E 0 with z | z
 ·simp -implicitDefEqProofs [z];refine aD.tree (aXV (hz z)) rfl ?_;simp -implicitDefEqProofs;refine aD.tree (P81 b 17) rfl ?_;simp -implicitDefEqProofs [aC]
 ·simp -implicitDefEqProofs [z,aC]
end
theorem aJD:∀ m:Fin 15,∀k:Fin 16,(((m.val:Int)==9&&(k.val:Int)==10)||qG.getD m.val 0==(k.val:Int))=((m.val:Int)==aGQ (k.val:Int)):=by decide+kernel
theorem aJE(t:Ty)(v:Vl)(hv:0≤v.kind∧v.kind≤14)(ht:0≤t.kind∧t.kind≤15):oO t v=aM1 t v:=by
 obtain⟨m,hm⟩:∃ m:Nat,v.kind=(m:Int):=⟨v.kind.toNat,by omega⟩;obtain⟨k,hk⟩:∃ k:Nat,t.kind=(k:Int):=⟨t.kind.toNat,by omega⟩;have h:=aJD ⟨m,by omega⟩ ⟨k,by omega⟩;have e:v.kind.toNat=m:=by omega
 simp only at h;rw[oO,aM1,e,hm,hk];generalize ((chars v.s).any fun c=> !inS (alpha t.name) c)=a
 by_cases q:(k:Int)=6
 ·rw[q]at h ⊢;rw[←h];cases a<;>simp
 ·have q1:((k:Int) != 6)=true:=by simpa using q
  have q2:((k:Int)==6)=false:=by simpa using q
  rw[q1,q2,←h];simp
theorem aBB{v:Vl}(h:v.cS=0):(0≤v.kind∧v.kind≤14)∧v.bM=false∧v.large=false:=by
 have h1:v.fR=0:=by
  rw[Vl.cS,Vl.qA]at h;split at h
  ·cases h
  ·exact h
 have h2:v.fU=0:=by
  rw[Vl.nW]at h1;split at h1
  ·rename_i e;rw[h1]at e;simp at e
  ·rename_i e;simpa using e
 rw[Vl.fU]at h2;split at h2
 ·rename_i e;simp only[Bool.and_eq_true,decide_eq_true_eq]at e;rw[Vl.aDR]at h2;split at h2
  ·cases h2
  ·rename_i e2;rw[Vl.aFY]at h2;split at h2
   ·rw[Vl.aDQ]at h2;split at h2
    ·cases h2
    ·rename_i e3;exact⟨e,by simpa using e2,by simpa using e3⟩
   ·cases h2
 ·cases h2
theorem aGU{v:Vl}(h:v.bM=false)(hk:v.kind=2∨v.kind=4∨v.kind=5∨v.kind=6∨v.kind=10∨v.kind=11):fB v=(v.s.size:Int)+v.items.length:=by
 simp only[Vl.bM,Bool.or_eq_false_iff]at h;obtain⟨⟨⟨⟨_,_⟩,hs⟩,_⟩,hi⟩:=h
 have s0:bR v.s (bs [])=true→v.s.size=0:=fun e=>by
  have e1:v.s.toList=(bs []).toList:=by simpa[bR]using e
  have e2:(bs []).toList=[]:=by simp[bs]
  rw[e2,ByteArray.toList_eq]at e1;rw[←dsize,e1];rfl
 have no1:kO v.kind=false→v.s.size=0:=fun e=>by
  rw[e]at hs;exact s0 (by simpa using hs)
 have no2:gR v.kind=false→v.items.length=0:=fun e=>by
  rw[e]at hi;simpa using hi
 rcases hk with q | q | q | q | q | q
 ·have a:=no1 (by rw[q];rfl);have b:=no2 (by rw[q];rfl);simp[fB,q,a,b]
 ·have b:=no2 (by rw[q];rfl);simp[fB,q,b]
 ·have b:=no2 (by rw[q];rfl);simp[fB,q,b]
 ·have b:=no2 (by rw[q];rfl);simp[fB,q,b]
 ·have a:=no1 (by rw[q];rfl);simp[fB,q,a]
 ·have a:=no1 (by rw[q];rfl);simp[fB,q,a]
theorem aGV{t:Ty}(h:t.check=0):0≤t.kind∧t.kind≤15:=by
 have h1:t.cG=0:=by
  rw[Ty.check]at h;split at h
  ·cases h
  ·exact h
 rw[Ty.nX]at h1
 have h2:t.cI=0:=by
  split at h1
  ·rename_i e;rw[h1]at e;simp at e
  ·rename_i e;simpa using e
 cases t with
 | mk k nm tg fs o r of l=>
  rw[Ty.cI]at h2;split at h2
  ·cases h2
  ·rename_i e;have e2:(decide (0≤k)&&decide (k≤15))=true:=by simpa using e
   simpa[Ty.kind]using e2
section
attribute [-simp] Go.Ab.aA Go.Ab.gval
attribute [local simp] bE aM aQ aG aV aO aX tyC fdC vlC ndC aL D.cR D.pt
theorem aXW(l:List Int)(hl:short l)(p:Int→Bool)(clo:FuncId)(caps:List Pt)(h:Hp)(n0:Nat)(hc:callable prog clo=true)
  (hp:∀ x∈l,∀new K,n0≤new→K (.one (.t (.bool (p x)))) h→aD prog false clo (.one (.t (I x))::caps.map fun q=> .one (.ptr q)) h new K):
  ISp prog 124 h n0 [.one (.t (aX l)),.one (.fn clo caps)] (.one (.t (.bool (l.any p)))) h:=
 gX (sz:=1) (g:=false) k124 k157 l (fun a=>[I a]) (fun _x=>rfl) (fun _=>rfl) hl p clo caps h n0 hc hp
attribute [local simp] c125 in
theorem aXX(l:List Nd)(v:Vl)(a:Int)(r:Bool)(hc:PSp prog 72 [.one (.t (aG l)),.one (.t (I a)),.agg (vlC v)] (.one (.t (.bool r))))(h:Hp)(i1 i2:Nat)(e1:h i1=some (.arr 0 false 1 [[.t (aG l)]]))(e2:h i2=some (.arr 0 false 6 [vlC v]))(n0:Nat):
  ISp prog 125 h n0 [.one (.t (I a)),.one (.ptr ⟨i1,0,1,0,0⟩),.one (.ptr ⟨i2,0,6,0,0⟩)] (.one (.t (.bool r))) h:=by
 refine ISp.ok fun ho=>?_
 have h1:=fZ ho e1;have h2:=fZ ho e2;refine k125.gQ (by simp) ?_;obtain⟨o1,o2,o3,o4⟩:=aK e1;obtain⟨p1,p2,p3,p4⟩:=aK e2;simp -implicitDefEqProofs [o1,o2,o3,p1,p2,p3];refine aD.tree hc rfl ?_;simp -implicitDefEqProofs;exact dQ (.inr rfl) (by exact rfl) (fun j hj=>by simp) ho
attribute [local simp] c72 in
theorem P72{l:List Nd}{bg:List Nat}(T:dM l bg)(hok:∀ x∈l,x.ok=true)(v:Vl)(hvs:v.s.size≤1000000)(P Q:Nat→Prop)
  (hf:∀ p x,l[p]? =some x→Q p→∀c:Nat,(c:Int)∈x.args→if x.k=2∨x.k=3 then P c else Q c)
  (c90:∀ n i,i<n→i<l.length→P i→(spL l n i).length≤1000∧PSp prog 90 [.one (.t (aG l)),.one (.t (I ((i:Nat):Int)))] (.one (.t (spans (spL l n i))))):
  ∀n i,i<n→i<l.length→Q i→PSp prog 72 [.one (.t (aG l)),.one (.t (I ((i:Nat):Int))),.agg (vlC v)] (.one (.t (.bool (hoL l v.n v.s (fB v) n i)))):=by
 intro n
 induction n with
 | zero=>intro i hi;omega
 | succ n ih=>
  intro i hin hil hQ;have hx:l[i]? =some (l[i]'hil):=gE9 _;generalize l[i]'hil=x at hx;have N:=T.node i x hx;have hiI:(i:Int)<(l.length:Int):=by omega
  obtain⟨r1,r2,r3,r4⟩:=fQ (hok x (gM9 hx))
  have all:¬ (x.k=2∨x.k=3)→∀a∈x.args,PSp prog 72 [.one (.t (aG l)),.one (.t (I a)),.agg (vlC v)] (.one (.t (.bool (hoL l v.n v.s (fB v) n a.toNat)))):=fun h23 a ha=>by
   obtain⟨c,c1,c2,c3⟩:=N.arg a ha;have hq:=hf i x hx hQ c (by rw[←c1];exact ha);rw[if_neg h23]at hq;have:=ih c (by omega) (by omega) hq;rw[c1,Int.toNat_natCast];exact this
  have sub:¬ (x.k=2∨x.k=3)→∀k,k<x.args.length→PSp prog 72 [.one (.t (aG l)),.one (.t (I ((aJ x k:Nat):Int))),.agg (vlC v)] (.one (.t (.bool (hoL l v.n v.s (fB v) n (aJ x k))))):=fun h23 k hk=>by
   obtain⟨m1,m2,m3⟩:=cH N hk;have:=all h23 _ m1;rw[Int.toNat_natCast]at this;exact this
  obtain⟨R0,hR0⟩:∃ R,hoL l v.n v.s (fB v) (n+1) i=R:=⟨_,rfl⟩;rw[hR0];refine k72.aI (by simp) (by simp[D.closed,A.closed]) rfl ?_;rcases eqCases x.k 0 with k0 | k0
  ·have e1:R0=(decide (x.lo≤v.n)&&decide (v.n≤x.hi)):=by rw[←hR0];simp[hoL,hx,k0]
   rw[e1];simp -implicitDefEqProofs [hil,hiI,aE hx,Nd.row,k0,-List.getElem_map];refine aD.tree (P85 v.n x.lo x.hi) rfl ?_;simp -implicitDefEqProofs [aC]
  ·rcases eqCases x.k 1 with k1 | k1
   ·obtain⟨b,eb⟩:∃ b,(v.s.toList==x.s.toList)=b:=⟨_,rfl⟩;have e1:R0=b:=by rw[←hR0,←eb];simp[hoL,hx,k1,bR]
    subst e1;simp -implicitDefEqProofs [hil,hiI,aE hx,Nd.row,k1,eb,aC,-List.getElem_map]
   ·obtain⟨pos,aIA⟩:=r4 k0.2.1 k1.2.1;have a0:=aCL N pos;have l0:(0:Int)<(x.args.length:Int):=by omega
    obtain⟨m1,m2,m3⟩:=cH N pos;rcases eqCases x.k 2 with k2 | k2
    ·have hP:=hf i x hx hQ _ m1;rw[if_pos (.inl k2)]at hP;obtain⟨hl,c⟩:=c90 n _ (by omega) (by omega) hP;have e1:R0=inS (spL l n (aJ x 0)) (fB v):=by rw[←hR0];simp[hoL,hx,k2]
     have aXY:=aXS v;have aIW:=aQM (spL l n (aJ x 0)) (fB v) (by simp only[short];omega);rw[←e1]at aIW;generalize spL l n (aJ x 0)=S at*;generalize fB v=z at*;simp -implicitDefEqProofs [hil,hiI,aE hx,Nd.row,k2,pos,aE a0,-List.getElem_map];refine aD.bN c rfl ?_;simp -implicitDefEqProofs;refine aD.bN aXY rfl ?_;simp -implicitDefEqProofs;refine aD.bN aIW rfl ?_;simp -implicitDefEqProofs [aC]
    ·rcases eqCases x.k 3 with k3 | k3
     ·have hP:=hf i x hx hQ _ m1;rw[if_pos (.inr k3)]at hP;obtain⟨hl,c⟩:=c90 n _ (by omega) (by omega) hP;have e1:R0= !(chars v.s).any (fun c=> !inS (spL l n (aJ x 0)) c):=by rw[←hR0];simp only[hoL,hx];simp[k3]
      generalize spL l n (aJ x 0)=S at*;subst e1;simp -implicitDefEqProofs [hil,hiI,aE hx,Nd.row,k3,pos,aE a0,-List.getElem_map];refine aD.bN c rfl ?_;simp -implicitDefEqProofs;refine aD.imp (aQ1 v.s (by omega) (fun c=> !inS S c) 123 [⟨25,0,1,0,0⟩] _ _ (by kernel_rfl) fun c hc new K hn hK=>aD.imp (aXR S c (by omega) (by have:=mY hc;omega) _ 25 (by simp[Hp.set]) new) hK) ?_;simp -implicitDefEqProofs [aC]
     ·have sub:=sub (by omega);have all:=all (by omega);have c0:=sub 0 pos;obtain⟨A,hA⟩:∃ A,hoL l v.n v.s (fB v) n (aJ x 0)=A:=⟨_,rfl⟩;rcases eqCases x.k 5 with k5 | k5
      ·rw[hA]at c0;have one':1<x.args.length:=by have:=r3 (by omega);omega
       have a1:=aCL N one';have l1:(1:Int)<(x.args.length:Int):=by omega
       have c1:=sub 1 one';have e1:R0=(A&&hoL l v.n v.s (fB v) n (aJ x 1)):=by rw[←hR0];simp[hoL,hx,k5,hA]
       generalize hoL l v.n v.s (fB v) n (aJ x 1)=B at*;subst e1;simp -implicitDefEqProofs [hil,hiI,aE hx,Nd.row,k5,pos,aE a0,-List.getElem_map];refine aD.bN c0 rfl ?_;cases A
       ·simp -implicitDefEqProofs [aC]
       ·simp -implicitDefEqProofs [one',l1,aE a1,-List.getElem_map];refine aD.bN c1 rfl ?_;simp -implicitDefEqProofs [aC]
      ·rcases eqCases x.k 6 with k6 | k6
       ·rw[hA]at c0;have one':1<x.args.length:=by have:=r3 (by omega);omega
        have a1:=aCL N one';have l1:(1:Int)<(x.args.length:Int):=by omega
        have c1:=sub 1 one';have e1:R0=(A&& !hoL l v.n v.s (fB v) n (aJ x 1)):=by rw[←hR0];simp[hoL,hx,k6,hA]
        generalize hoL l v.n v.s (fB v) n (aJ x 1)=B at*;subst e1;simp -implicitDefEqProofs [hil,hiI,aE hx,Nd.row,k6,pos,aE a0,-List.getElem_map];refine aD.bN c0 rfl ?_;cases A
        ·simp -implicitDefEqProofs [aC]
        ·simp -implicitDefEqProofs [one',l1,aE a1,-List.getElem_map];refine aD.bN c1 rfl ?_;simp -implicitDefEqProofs [aC]
       ·have e1:R0=x.args.any fun a=>hoL l v.n v.s (fB v) n a.toNat:=by rw[←hR0];simp[hoL,hx,k0,k1,k2,k3,k5,k6]
        subst e1;simp -implicitDefEqProofs [hil,hiI,aE hx,Nd.row,k0,k1,k2,k3,k5,k6,-List.getElem_map];refine aD.imp (aXW x.args (by simp only[short];omega) (fun a=>hoL l v.n v.s (fB v) n a.toNat) 125 [⟨0,0,1,0,0⟩,⟨1,0,6,0,0⟩] _ _ (by kernel_rfl) fun a ha new K hn hK=>aD.imp (aXX l v a _ (all a ha) _ 0 1 (by simp[Hp.set]) (by simp[Hp.set]) new) hK) ?_;simp -implicitDefEqProofs [aC]
end
section
attribute [-simp] Go.Ab.aA Go.Ab.gval
attribute [local simp] bE aM aQ aG aV aO aX tyC fdC vlC ndC aL D.cR D.pt
def aCM(t:Ty)(v:Vl):Bool:=t.limits.length==0||hoL t.limits v.n v.s (fB v) t.limits.length (t.limits.length - 1)
def aGW(t:Ty)(v:Vl):Bool:=t.limits.length==0||hoL t.limits v.n v.s (fB v) t.limits.length (fN t.limits)
attribute [local simp] c22 in
theorem P22(t:Ty)(v:Vl)(c71:PSp prog 71 [.agg (tyC t),.agg (vlC v)] (.one (.t (I (dN t v)))))
  (c72:dN t v=0→t.limits.length≠0→t.limits.length≤20∧PSp prog 72 [.one (.t (aG t.limits)),.one (.t (I ((t.limits.length - 1:Nat):Int))),.agg (vlC v)] (.one (.t (.bool (hoL t.limits v.n v.s (fB v) t.limits.length (t.limits.length - 1)))))):
  PSp prog 22 [.agg (tyC t),.agg (vlC v)] (.tup [.one (.t (.bool (dN t v==0&&aCM t v))),.one (.t (I (dN t v)))]):=by
 rw[aCM];generalize dN t v=e at*;refine k22.aI (by simp) (by simp[D.closed,A.closed]) rfl ?_;simp -implicitDefEqProofs;refine aD.tree c71 rfl ?_;rcases eqCases e 0 with z | z
 ·by_cases q:t.limits.length=0
  ·have ql:t.limits=[]:=List.length_eq_zero_iff.1 q;simp -implicitDefEqProofs [z,ql,aC]
  ·obtain⟨hl,c⟩:=c72 z q;have qI:((t.limits.length:Int)==0)=false:=by simpa using q
   have qN:(t.limits.length==0)=false:=by simpa using q
   have hw:IntKind.i64.wrap ((t.limits.length:Int) - 1)=((t.limits.length - 1:Nat):Int):=by rw[wrap_i64 (by omega) (by omega)];omega
   rw[qN];generalize hoL t.limits v.n v.s (fB v) t.limits.length (t.limits.length - 1)=R at*;simp -implicitDefEqProofs [z,qI,hw];refine aD.tree c rfl ?_;simp -implicitDefEqProofs [aC]
 ·simp -implicitDefEqProofs [z,aC]
attribute [local simp] c24 in
theorem P24(t:Ty)(v:Vl)(c71:PSp prog 71 [.agg (tyC t),.agg (vlC v)] (.one (.t (I (dN t v)))))
  (c72:dN t v=0→(∃bg,dM t.limits bg)∧(∀x∈t.limits,x.ok=true)∧t.limits.length≤20∧(t.limits.length≠0→PSp prog 72 [.one (.t (aG t.limits)),.one (.t (I ((fN t.limits:Nat):Int))),.agg (vlC v)] (.one (.t (.bool (hoL t.limits v.n v.s (fB v) t.limits.length (fN t.limits))))))):
  PSp prog 24 [.agg (tyC t),.agg (vlC v)] (.tup [.one (.t (.bool (dN t v==0&&aGW t v))),.one (.t (I (dN t v)))]):=by
 rw[aGW];generalize dN t v=e at*;refine k24.aI (by simp) (by simp[D.closed,A.closed]) rfl ?_;simp -implicitDefEqProofs;refine aD.tree c71 rfl ?_;rcases eqCases e 0 with z | z
 ·obtain⟨⟨bg,T⟩,hok,hl,c⟩:=c72 z;have c74:=P74 T hok hl
  by_cases q:t.limits.length=0
  ·have ql:t.limits=[]:=List.length_eq_zero_iff.1 q;have e1:(iX t.limits).1= -1:=by simp[iX,ql]
   rw[e1]at c74;simp -implicitDefEqProofs [z];refine aD.tree c74 rfl ?_;simp -implicitDefEqProofs [ql,aC]
  ·have c:=c q;have qN:(t.limits.length==0)=false:=by simpa using q
   have e1:(iX t.limits).1=((fN t.limits:Nat):Int):=by simp[iX,qN]
   have nn:¬ ((fN t.limits:Nat):Int)<0:=by omega
   have nn2:(0:Int)≤((fN t.limits:Nat):Int):=by omega
   rw[e1]at c74;rw[qN];generalize hoL t.limits v.n v.s (fB v) t.limits.length (fN t.limits)=R at*;generalize fN t.limits=r at*;simp -implicitDefEqProofs [z];refine aD.tree c74 rfl ?_;simp -implicitDefEqProofs [nn];refine aD.tree c rfl ?_;simp -implicitDefEqProofs [aC]
 ·simp -implicitDefEqProofs [z,aC]
end
theorem aJF{t:Ty}{x:Nd}{r:Bool}{a:Int}(h:kJ t x r a=0)(k1:x.k=1):cC t x.s a=true∧x.s.size≤200:=by
 obtain⟨s1,_⟩:=kL h;simp only[kJ,s1]at h;cases hf:cC t x.s a
 ·simp[bT,cZ,k1,hf]at h
 ·by_cases q:x.s.size≤200
  ·exact⟨rfl,q⟩
  ·simp[bT,cZ,k1,hf,q]at h
theorem aGX{x:Nd}{k a:Int}(h:kQ x (hZ k a)=true)(ha:a=3∨a=4):0≤x.lo∧x.lo≤x.hi∧x.hi≤200:=by
 simp only[kQ,Bool.and_eq_true,decide_eq_true_eq]at h;obtain⟨⟨h1,h2⟩,h3⟩:=h;rcases ha with rfl | rfl
 ·have e:hZ k 3=(0,iQ k):=rfl;rw[e]at h2 h3;have m:iQ k≤200:=by unfold iQ;split<;>omega
  exact⟨h2,h1,by omega⟩
 ·have e:hZ k 4=(0,127):=rfl;rw[e]at h2 h3;exact⟨h2,h1,by omega⟩
structure aM6 (l:List Nd) (bg:List Nat) (P Q:Nat→Prop):Prop where
 tree:dM l bg
 few:l.length≤20
 ok:∀ x∈l,x.ok=true
 node:∀ p x,l[p]? =some x→P p→x.k≠2∧x.k≠3∧(x.k=0→0≤x.lo∧x.lo≤x.hi∧x.hi≤200)∧(x.k=1→x.s.size≤200∧∀c∈chars x.s,c≤127)
 edge:∀ p x,l[p]? =some x→P p→∀c:Nat,(c:Int)∈x.args→P c
 from_:∀ p x,l[p]? =some x→Q p→∀c:Nat,(c:Int)∈x.args→if x.k=2∨x.k=3 then P c else Q c
 last:Q (l.length - 1)
theorem aBC{t:Ty}(h:(eK t).2=0)(hl:t.limits.length≠0):t.kind=2∨t.kind=4∨t.kind=5∨t.kind=6∨t.kind=11∨t.kind=12:=by
 obtain⟨_,h2⟩:=gT h;simp only[rI]at h2;have e:(t.limits.length==0)=false:=by simpa using hl
 rw[e]at h2;simp only[Bool.false_eq_true,if_false]at h2
 by_cases q:(eJ t.kind==0&&t.kind != 2)=true
 ·rw[if_pos q]at h2;cases h2
 ·simp only[eJ]at q
  by_cases a2:t.kind=2
  ·exact .inl a2
  ·by_cases a4:t.kind=4
   ·exact .inr (.inl a4)
   ·by_cases a5:t.kind=5
    ·exact .inr (.inr (.inl a5))
    ·by_cases a6:t.kind=6
     ·exact .inr (.inr (.inr (.inl a6)))
     ·by_cases a11:t.kind=11
      ·exact .inr (.inr (.inr (.inr (.inl a11))))
      ·by_cases a12:t.kind=12
       ·exact .inr (.inr (.inr (.inr (.inr a12))))
       ·simp[a2,a4,a5,a6,a11,a12]at q
theorem uD{t:Ty}(h:(eK t).2=0)(hl:t.limits.length≠0):∃ bg,∃P Q:Nat→Prop,aM6 t.limits bg P Q:=by
 obtain⟨ht,L,h1,h2,h3⟩:=pM h hl;obtain⟨hlen,bg,T⟩:=bX ht
 have hn:∀ p x,t.limits[p]? =some x→(L p=3∨L p=4)→x.k≠2∧x.k≠3∧(x.k=0→0≤x.lo∧x.lo≤x.hi∧x.hi≤200)∧(x.k=1→x.s.size≤200∧∀c∈chars x.s,c≤127):=fun p x hx ha=>by
  obtain⟨r,hr⟩:=h3 p x hx;obtain⟨s1,s2⟩:=kL hr;refine⟨fun e=>?_,fun e=>?_,fun e=>aGX (s2 e) ha,fun e=>?_⟩
  ·rw[e]at s1;rcases ha with q | q<;>rw[q]at s1<;>simp[dI]at s1
  ·rw[e]at s1;rcases ha with q | q<;>rw[q]at s1<;>simp[dI]at s1
  ·obtain⟨t1,t2⟩:=aJF hr e;refine⟨t2,fun c hc=>?_⟩
   have a4:L p=4:=by
    rcases ha with q | q
    ·rw[e,q]at s1;simp[dI]at s1
    ·exact q
   rw[a4]at t1;have t3:(!bR x.s (bs [])&& !(chars x.s).any (fun c=>decide (127<c)))=true:=by simpa[cC]using t1
   rw[Bool.and_eq_true,Bool.not_eq_true',Bool.not_eq_true',List.any_eq_false]at t3;have:=t3.2 c hc;simpa using this
 refine⟨bg,fun p=>L p=3∨L p=4,fun p=>L p≠3∧L p≠4,T,hlen,nK ht,hn,fun p x hx ha c hc=>?_,fun p x hx ha c hc=>?_,?_⟩
 ·have hp:=(gS9.1 hx).1;obtain⟨k2,k3,_⟩:=hn p x hx ha;show L c=3∨L c=4;rw[h2.edge p x (Nat.zero_le _) (by omega) hx c hc];simpa[gH,k2,k3]using ha
 ·have hp:=(gS9.1 hx).1;have e:=h2.edge p x (Nat.zero_le _) (by omega) hx c hc
  by_cases k2:x.k=2
  ·rw[if_pos (.inl k2)];left;rw[e];simp[gH,k2]
  ·by_cases k3:x.k=3
   ·rw[if_pos (.inr k3)];right;rw[e];simp[gH,k3]
   ·rw[if_neg (by simp[k2,k3])];show L c≠3∧L c≠4;rw[e];simpa[gH,k2,k3]using ha
 ·show L (t.limits.length - 1)≠3∧L (t.limits.length - 1)≠4;rw[h1];rcases aBC h hl with q | q | q | q | q | q<;>rw[q]<;>decide
theorem aHP{l:List Nd}{bg:List Nat}(T:dM l bg)(hok:∀ x∈l,x.ok=true)(P:Nat→Prop)(B:Int)
  (hn:∀ p x,l[p]? =some x→P p→(x.k=0→0≤x.lo∧x.hi≤B)∧(x.k=1→∀c∈chars x.s,c≤B)) (he:∀ p x,l[p]? =some x→P p→∀c:Nat,(c:Int)∈x.args→P c):
  ∀n i m,i<l.length→P i→cN l n i m=true→0≤m∧m≤B:=by
 intro n
 induction n with
 | zero=>intro i m _ _ h;cases h
 | succ n ih=>
  intro i m hil hP h;have hx:l[i]? =some (l[i]'hil):=gE9 _;generalize l[i]'hil=x at hx;have N:=T.node i x hx;obtain⟨k0,k1⟩:=hn i x hx hP;obtain⟨r1,r2,r3,r4⟩:=fQ (hok x (gM9 hx))
  have sub:∀ k,k<x.args.length→cN l n (aJ x k) m=true→0≤m∧m≤B:=fun k hk=>by
   obtain⟨m1,m2,m3⟩:=cH N hk;exact ih _ m (by omega) (he i x hx hP _ m1)
  by_cases q0:x.k=0
  ·have:=k0 q0;simp[cN,hx,q0]at h;omega
  ·by_cases q1:x.k=1
   ·have k1:=k1 q1;have e2:cN l (n+1) i m=(chars x.s).any (fun c=>c==m):=by simp[cN,hx,q1]
    rw[e2,List.any_eq_true]at h;obtain⟨c,hc,e⟩:=h;have e:c=m:=by simpa using e
    have a:=k1 c hc;have b:=aE9 hc;omega
   ·have pos:=(r4 q0 q1).1
    by_cases q5:x.k=5
    ·have e2:cN l (n+1) i m=(cN l n (aJ x 0) m&&cN l n (aJ x 1) m):=by simp[cN,hx,q5]
     rw[e2,Bool.and_eq_true]at h;exact sub 0 pos h.1
    ·by_cases q6:x.k=6
     ·have e2:cN l (n+1) i m=(cN l n (aJ x 0) m&& !cN l n (aJ x 1) m):=by simp[cN,hx,q6]
      rw[e2,Bool.and_eq_true]at h;exact sub 0 pos h.1
     ·have e2:cN l (n+1) i m=(cN l n (aJ x 0) m||(decide (1<x.args.length)&&cN l n (aJ x 1) m)):=by simp[cN,hx,q0,q1,q5,q6]
      rw[e2,Bool.or_eq_true,Bool.and_eq_true,decide_eq_true_eq]at h;rcases h with h | ⟨h1,h⟩
      ·exact sub 0 pos h
      ·exact sub 1 h1 h
theorem aBD{l:List Nd}{bg:List Nat}{P Q:Nat→Prop}(H:aM6 l bg P Q)(n i:Nat)(m:Int)(h1:i<l.length)(h2:P i)(h3:cN l n i m=true):0≤m∧m≤200:=
 aHP H.tree H.ok P 200 (fun p x hx hp=>by
  obtain⟨_,_,a,b⟩:=H.node p x hx hp
  exact⟨fun q=>⟨(a q).1,(a q).2.2⟩,fun q c hc=>by have:=(b q).2 c hc;omega⟩) H.edge n i m h1 h2 h3
theorem aEV{l:List Nd}{bg:List Nat}{P Q:Nat→Prop}(H:aM6 l bg P Q):∀ n i,i<n→i<l.length→P i→Gap (spL l n i)∧(∀y∈spL l n i,bad y=false)∧(spL l n i).length≤101:=by
 intro n i hin hil hP
 obtain⟨g,e⟩:=vS H.tree H.ok P (fun p x hx hp=>by
  obtain⟨a,b,c,_⟩:=H.node p x hx hp
  exact⟨a,b,fun q=>(c q).2.1⟩) H.edge n i hin hil hP
 have key:∀ y∈spL l n i,0≤y.1∧y.2≤200:=fun y hy=>by
  have hv:=g.valid y hy;have in1:inS (spL l n i) y.1=true:=fM.2 ⟨y,hy,by omega,hv⟩;have in2:inS (spL l n i) y.2=true:=fM.2 ⟨y,hy,hv,by omega⟩;rw[e]at in1 in2;exact⟨(aBD H n i _ hil hP in1).1,(aBD H n i _ hil hP in2).2⟩
 refine⟨g,fun y hy=>(jW y).2 ⟨g.valid y hy,by have:=key y hy;omega,by have:=key y hy;omega⟩,?_⟩;have:=aCK _ 0 200 g key (by omega);omega
theorem val_zero{t:Ty}{v:Vl}(h:dN t v=0):(eK t).2=0∧v.cS=0∧oO t v=true:=by
 rw[dN]at h
 by_cases q:bZ [(eK t).2,v.cS]=0
 ·simp only[q,bne_self_eq_false,Bool.false_eq_true,if_false]at h;simp only[bT,cZ]at q
  by_cases a:(eK t).2=0
  ·by_cases b:v.cS=0
   ·refine⟨a,b,?_⟩;cases hf:oO t v
    ·simp[hf]at h
    ·rfl
   ·simp[a,b]at q
  ·simp[a]at q
 ·have:(bZ [(eK t).2,v.cS] != 0)=true:=by simpa using q
  rw[if_pos this]at h;exact absurd h q
theorem aHQ{l:List Nd}{bg:List Nat}{P Q:Nat→Prop}(H:aM6 l bg P Q)(hl:l.length≠0):Q (fN l):=by
 have hx:l[l.length - 1]? =some (l[l.length - 1]'(by omega)):=gE9 _;generalize l[l.length - 1]'(by omega)=x at hx;rw[fN,hx]
 by_cases q:x.k=7
 ·simp only[q,beq_self_eq_true,if_true];obtain⟨_,_,_,r4⟩:=fQ (H.ok x (gM9 hx));obtain⟨m1,_,_⟩:=cH (H.tree.node _ x hx) (k:=0) (r4 (by omega) (by omega)).1;have:=H.from_ _ x hx H.last _ m1;rwa [if_neg (by omega)]at this
 ·have:(x.k==7)=false:=by simpa using q
  simp only[this,Bool.false_eq_true,if_false];exact H.last
theorem aM7{t:Ty}{v:Vl}(h:dN t v=0):aCM t v=(t.limits.length==0||saR t.limits v.n v.s ((v.s.size:Int)+v.items.length) t.limits.length (t.limits.length - 1))∧aGW t v=(t.limits.length==0||saR t.limits v.n v.s ((v.s.size:Int)+v.items.length) t.limits.length (fN t.limits)):=by
 by_cases hl:t.limits.length=0
 ·simp[aCM,aGW,hl]
 ·obtain⟨h1,h2,h3⟩:=val_zero h;obtain⟨f1,f2,_⟩:=aBB h2;have hk:=aBC h1 hl
  have hvk:v.kind=2∨v.kind=4∨v.kind=5∨v.kind=6∨v.kind=10∨v.kind=11:=by
   rw[aJE t v f1 (aGV (gT h1).1),aM1]at h3
   have e:v.kind=aGQ t.kind:=by
    simp only[Bool.and_eq_true,beq_iff_eq]at h3;exact h3.1
   rw[e];rcases hk with q | q | q | q | q | q<;>rw[q]<;>decide
  have hz:=aGU f2 hvk;obtain⟨bg,P,Q,H⟩:=uD h1 hl
  have key:=aGP H.tree H.ok P Q (fun p x hx hp=>by
   obtain⟨a,b,c,_⟩:=H.node p x hx hp
   exact⟨a,b,fun q=>(c q).2.1⟩) H.edge H.from_ v.n v.s (fB v)
  have hr:=aER H.tree H.ok hl;rw[aCM,aGW,key _ _ (by omega) (by omega) H.last,key _ _ hr hr (aHQ H hl),hz];exact⟨rfl,rfl⟩
end Go.Proofs.YtdpbobkcbakpfaaGreatDoor
