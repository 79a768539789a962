/- Texts of this proof, laid one behind the other (Sg, Pm, CD, Pa, Pb, Pc, Pe, Sg2, Nb2, Nc2, Nd2, Sw, Sw2, Pf, Pg, Ph, Pi, Pj, Pk, Pn, Po, Pq, Pw, Pr, Py, Pt). -/
import Derived.Test.YtdpbobkcbakpfaaGreatDoorProg
import Derived.Test.YtdpbobkcbakpfaaGreatDoorMrpH
namespace Go.Proofs.YtdpbobkcbakpfaaGreatDoor
open Go Go.Ab
set_option maxRecDepth 100000
set_option maxHeartbeats 4000000
theorem yK:∀ (r:List Nd) (bg out:List Nat),eY r bg=some out→∀x∈r,x.ok=true
 | [],_,_,_,x,hx=>by cases hx
 | y::r,bg,out,h,x,hx=>by
  rw[eY]at h
  split at h
  ·rename_i hy
   split at h
   ·cases h
   ·rcases List.mem_cons.1 hx with e | e
    ·rw[e];exact hy
    ·exact yK r _ out h x e
  ·cases h
theorem jZ {l:List Nd} (h:bI l=true):∀ x∈l,x.ok=true:=by
 simp only[bI,Bool.and_eq_true,decide_eq_true_eq]at h
 obtain⟨_,h⟩:=h
 split at h
 ·cases h
 ·rename_i bg hbg
  exact yK l [] bg hbg
theorem aCA (x y:Sp):(meet x y).length≤1:=by
 unfold meet;split<;>simp
theorem yL {x y:Sp} (h:y.2<x.1∨x.2<y.1):meet x y=[]:=by
 unfold meet;rw[if_neg];omega
theorem sD {α:Type} {f:α→List Sp}:∀ {l:List α},(∀y∈l,f y=[])→l.flatMap f=[]
 | [],_=>rfl
 | y::r,h=>by rw[List.flatMap_cons,h y (by simp),sD fun z hz=>h z (by simp[hz])];rfl
theorem yM (c:Int):∀ b:List Sp,Gap b→∃b1 b2,b=b1++b2∧(∀y∈b1,y.2≤c)∧(∀y∈b2,c<y.2)∧Gap b2
 | [],_=>⟨[],[],rfl,by simp,by simp,trivial⟩
 | y::r,h=>by
  by_cases hy:y.2≤c
  ·obtain⟨b1,b2,e,h1,h2,h3⟩:=yM c r h.tail
   exact⟨y::b1,b2,by rw[e];rfl,fun z hz=>by
    rcases List.mem_cons.1 hz with q | q
    ·rw[q];exact hy
    ·exact h1 z q,h2,h3⟩
  ·refine⟨[],y::r,rfl,by simp,fun z hz=>?_,h⟩
   rcases List.mem_cons.1 hz with q | q
   ·rw[q];omega
   ·have h1:=h.2.1 z q
    have h2:=h.valid z hz
    omega
theorem aCB {f:Sp→List Sp} (hf:∀ y,(f y).length≤1):∀ l:List Sp,(l.flatMap f).length≤l.length
 | []=>by simp
 | y::r=>by
  have:=hf y
  have:=aCB hf r
  rw[List.flatMap_cons,List.length_append,List.length_cons];omega
theorem yN:∀ (a b:List Sp),Gap a→Gap b→(dF a b).length≤a.length+b.length
 | [],b,_,_=>by simp[dF]
 | x::a,b,ha,hb=>by
  obtain⟨b1,b2,e,h1,h2,h3⟩:=yM x.2 b hb
  have ih:=yN a b2 ha.tail h3
  have e1:dF (x::a) b=b.flatMap (meet x)++dF a b:=by simp[dF]
  have e2:dF a b=dF a b2:=by
   have:∀ a':List Sp,(∀z∈a',z∈a)→dF a' b=dF a' b2:=by
    intro a'
    induction a' with
    | nil=>intro _;rfl
    | cons z r ih=>
     intro hz
     have hza:=hz z (by simp)
     have q:b.flatMap (meet z)=b2.flatMap (meet z):=by
      rw[e,List.flatMap_append,sD (l:=b1),List.nil_append]
      intro y hy
      have k1:=h1 y hy
      have k2:=ha.2.1 z hza
      exact yL (by omega)
     have ih':=ih fun w hw=>hz w (by simp[hw])
     simp only[dF,List.flatMap_cons]at ih' ⊢
     rw[ih']
     congr 1
   exact this a fun z hz=>hz
  have e3:(b.flatMap (meet x)).length≤b1.length+1:=by
   rw[e,List.flatMap_append,List.length_append]
   have k1:=aCB (aCA x) b1
   have k2:(b2.flatMap (meet x)).length≤1:=by
    cases b2 with
    | nil=>simp
    | cons y r=>
     rw[List.flatMap_cons,sD (l:=r),List.append_nil]
     ·exact aCA x y
     ·intro z hz
      have k3:=h3.2.1 z hz
      have k4:=h2 y (by simp)
      exact yL (by omega)
   omega
  have e4:b.length=b1.length+b2.length:=by rw[e];simp
  rw[e1,List.length_append,e2,List.length_cons]
  omega
theorem aE3 {x y z:Sp} (h:z∈meet x y):z.1≤z.2:=by
 unfold meet at h
 split at h
 ·rename_i hc
  have:=List.mem_singleton.1 h
  subst this
  exact hc
 ·cases h
theorem aCC {a b:List Sp}:∀ z∈dF a b,z.1≤z.2:=by
 intro z hz
 simp only[dF,List.mem_flatMap]at hz
 obtain⟨x,_,y,_,h⟩:=hz
 exact aE3 h
theorem aES (x:Sp):bad x=false↔x.1≤x.2∧ -1152921504606846976≤x.1∧x.2≤1152921504606846976:=by
 simp[bad,and_assoc]
def aT (x:Nd) (k:Nat):Nat:=(x.args.getD k 0).toNat
def spL (l:List Nd):Nat→Nat→List Sp
 | 0,_=>[]
 | n+1,i=>match l[i]? with
  | none=>[]
  | some x=>if x.k==0 then[(x.lo,x.hi)] else if x.k==1 then cH ((chars x.s).map fun c=>(c,c))else if x.k==2 then spL l n (aT x 0)
   else if x.args.length<2 then spL l n (aT x 0)else if x.k==5 then cH (dF (spL l n (aT x 0)) (spL l n (aT x 1)))
   else if x.k==6 then cH (bM (spL l n (aT x 0)) (spL l n (aT x 1)))else cH (spL l n (aT x 0)++spL l n (aT x 1))
theorem gO {bg:List Nat} {i:Nat} {x:Nd} (N:xW bg i x.args) {k:Nat} (h:k<x.args.length):(aT x k:Int)∈x.args∧aT x k<i∧bg.getD i 0≤bg.getD (aT x k) 0:=by
 have hm:x.args[k]'h∈x.args:=List.getElem_mem h
 obtain⟨c,c1,c2,c3⟩:=N.arg _ hm
 have e:aT x k=c:=by
  simp only[aT,List.getD_eq_getElem?_getD,List.getElem?_eq_getElem h,Option.getD_some,c1];simp
 rw[e,←c1]
 exact⟨hm,c2,c3⟩
end Go.Proofs.YtdpbobkcbakpfaaGreatDoor

namespace Go.Proofs.YtdpbobkcbakpfaaGreatDoor
open Go Go.Ab
set_option maxRecDepth 100000
set_option maxHeartbeats 4000000
def cD (l:List Nd):Nat→Nat→Int→Bool
 | 0,_,_=>false
 | n+1,i,m=>match l[i]? with
  | none=>false
  | some x=>if x.k==0 then decide (x.lo≤m)&&decide (m≤x.hi)else if x.k==1 then(chars x.s).any (fun c=>c==m)
   else if x.k==5 then cD l n (aT x 0) m&&cD l n (aT x 1) m else if x.k==6 then cD l n (aT x 0) m&& !cD l n (aT x 1) m
   else cD l n (aT x 0) m||(decide (1<x.args.length)&&cD l n (aT x 1) m)
theorem aET:∀ (l:List Sp) (a b:Int),Gap l→(∀x∈l,a≤x.1∧x.2≤b)→a≤b+2→2*(l.length:Int)≤b - a+2
 | [],a,b,_,_,h=>by simp;omega
 | x::r,a,b,h,hb,_=>by
  obtain⟨h1,h2,h3⟩:=h
  have hx:=hb x (by simp)
  have ih:=aET r (x.2+2) b h3 (fun y hy=>⟨by have:=h2 y hy;omega,(hb y (by simp[hy])).2⟩) (by omega)
  rw[List.length_cons]
  omega
theorem aEU {l:List Nd} {bg:List Nat} (T:eX l bg) (hok:∀ x∈l,x.ok=true) (P:Nat→Prop)
  (hn:∀ p x,l[p]? =some x→P p→x.k≠2∧x.k≠3∧(x.k=0→x.lo≤x.hi)) (he:∀ p x,l[p]? =some x→P p→∀c:Nat,(c:Int)∈x.args→P c):
  ∀n i,i<n→i<l.length→P i→Gap (spL l n i)∧∀m,inS (spL l n i) m=cD l n i m:=by
 intro n
 induction n with
 | zero=>intro i hi;omega
 | succ n ih=>
  intro i hin hil hP
  have hx:l[i]? =some (l[i]'hil):=List.getElem?_eq_getElem _
  generalize l[i]'hil=x at hx
  have N:=T.node i x hx
  obtain⟨k2,k3,k0⟩:=hn i x hx hP
  have hr:=hok x (List.mem_of_getElem? hx)
  simp only[Nd.ok,Bool.and_eq_true]at hr
  have hr:=hr.1.1
  have sub:∀ k,k<x.args.length→Gap (spL l n (aT x k))∧∀m,inS (spL l n (aT x k)) m=cD l n (aT x k) m:=fun k hk=>by
   obtain⟨m1,m2,m3⟩:=gO N hk
   exact ih _ (by omega) (by omega) (he i x hx hP _ m1)
  by_cases q0:x.k=0
  ·have e1:spL l (n+1) i=[(x.lo,x.hi)]:=by simp[spL,hx,q0]
   rw[e1]
   refine⟨⟨k0 q0,by simp,trivial⟩,fun m=>?_⟩
   simp[cD,hx,q0,inS]
  ·by_cases q1:x.k=1
   ·have e1:spL l (n+1) i=cH ((chars x.s).map fun c=>(c,c)):=by simp[spL,hx,q1]
    obtain⟨g1,g2⟩:=lA (l:=(chars x.s).map fun c=>((c,c):Sp)) fun y hy=>by
     obtain⟨c,_,rfl⟩:=List.mem_map.1 hy
     exact Int.le_refl _
    rw[e1]
    refine⟨g1,fun m=>?_⟩
    rw[g2]
    have e2:cD l (n+1) i m=(chars x.s).any (fun c=>c==m):=by simp[cD,hx,q1]
    rw[e2,inS,List.any_map]
    refine any_congr fun c _=>?_
    rw[Bool.eq_iff_iff]
    simp
    omega
   ·have pos:0<x.args.length:=by
     unfold Nd.right at hr
     simp only[q0,q1,or_self,if_false]at hr
     split at hr
     ·have:=of_decide_eq_true hr;omega
     ·split at hr
      ·have:=of_decide_eq_true hr;omega
      ·split at hr
       ·have:=of_decide_eq_true hr;omega
       ·cases hr
    obtain⟨a1,a2⟩:=sub 0 pos
    by_cases one:x.args.length=1
    ·have n5:x.k≠5:=fun e=>by
      unfold Nd.right at hr
      simp[e]at hr
      omega
     have n6:x.k≠6:=fun e=>by
      unfold Nd.right at hr
      simp[e]at hr
      omega
     have e1:spL l (n+1) i=spL l n (aT x 0):=by simp[spL,hx,q0,q1,k2,one]
     rw[e1]
     refine⟨a1,fun m=>?_⟩
     have e2:cD l (n+1) i m=cD l n (aT x 0) m:=by simp[cD,hx,q0,q1,n5,n6,one]
     rw[e2,a2]
    ·obtain⟨b1,b2⟩:=sub 1 (by omega)
     have two:¬ x.args.length<2:=by omega
     have two':1<x.args.length:=by omega
     have va:=a1.valid
     have vb:=b1.valid
     by_cases q5:x.k=5
     ·have e1:spL l (n+1) i=cH (dF (spL l n (aT x 0)) (spL l n (aT x 1))):=by simp[spL,hx,q5,two]
      obtain⟨g1,g2⟩:=lA (l:=dF (spL l n (aT x 0)) (spL l n (aT x 1))) aCC
      rw[e1]
      refine⟨g1,fun m=>?_⟩
      have e2:cD l (n+1) i m=(cD l n (aT x 0) m&&cD l n (aT x 1) m):=by simp[cD,hx,q5]
      rw[g2,aC7,a2,b2,e2]
     ·by_cases q6:x.k=6
      ·have e1:spL l (n+1) i=cH (bM (spL l n (aT x 0)) (spL l n (aT x 1))):=by simp[spL,hx,q6,two]
       have w:=iD (b:=spL l n (aT x 1)) (a:=spL l n (aT x 0)) a1.asc vb
       obtain⟨g1,g2⟩:=lA (l:=bM (spL l n (aT x 0)) (spL l n (aT x 1))) w.1.valid
       rw[e1]
       refine⟨g1,fun m=>?_⟩
       have e2:cD l (n+1) i m=(cD l n (aT x 0) m&& !cD l n (aT x 1) m):=by simp[cD,hx,q6]
       rw[g2,tF va vb,a2,b2,e2]
      ·have e1:spL l (n+1) i=cH (spL l n (aT x 0)++spL l n (aT x 1)):=by simp[spL,hx,q0,q1,k2,q5,q6,two]
       obtain⟨g1,g2⟩:=lA (l:=spL l n (aT x 0)++spL l n (aT x 1)) fun y hy=>by
        rcases List.mem_append.1 hy with q | q
        ·exact va y q
        ·exact vb y q
       rw[e1]
       refine⟨g1,fun m=>?_⟩
       have e2:cD l (n+1) i m=(cD l n (aT x 0) m||cD l n (aT x 1) m):=by simp[cD,hx,q0,q1,q5,q6,two']
       rw[g2,iR,a2,b2,e2]
def hoL (l:List Nd) (vn:Int) (vs:ByteArray) (sz:Int):Nat→Nat→Bool
 | 0,_=>false
 | n+1,i=>match l[i]? with
  | none=>false
  | some x=>if x.k==0 then decide (x.lo≤vn)&&decide (vn≤x.hi)else if x.k==1 then bJ vs x.s else if x.k==2 then inS (spL l n (aT x 0)) sz
   else if x.k==3 then !(chars vs).any (fun c=> !inS (spL l n (aT x 0)) c)else if x.k==5 then hoL l vn vs sz n (aT x 0)&&hoL l vn vs sz n (aT x 1)
   else if x.k==6 then hoL l vn vs sz n (aT x 0)&& !hoL l vn vs sz n (aT x 1)else x.args.any fun a=>hoL l vn vs sz n a.toNat
def saR (l:List Nd) (vn:Int) (vs:ByteArray) (sz:Int):Nat→Nat→Bool
 | 0,_=>false
 | n+1,i=>match l[i]? with
  | none=>false
  | some x=>if x.k==0 then decide (x.lo≤vn)&&decide (vn≤x.hi)else if x.k==1 then bJ vs x.s else if x.k==2 then cD l n (aT x 0) sz
   else if x.k==3 then(chars vs).all (fun c=>cD l n (aT x 0) c)else if x.k==5 then saR l vn vs sz n (aT x 0)&&saR l vn vs sz n (aT x 1)
   else if x.k==6 then saR l vn vs sz n (aT x 0)&& !saR l vn vs sz n (aT x 1)else saR l vn vs sz n (aT x 0)||(decide (1<x.args.length)&&saR l vn vs sz n (aT x 1))
theorem aE4 {l:List Nd} {bg:List Nat} (T:eX l bg) (hok:∀ x∈l,x.ok=true) (P Q:Nat→Prop)
  (hn:∀ p x,l[p]? =some x→P p→x.k≠2∧x.k≠3∧(x.k=0→x.lo≤x.hi)) (he:∀ p x,l[p]? =some x→P p→∀c:Nat,(c:Int)∈x.args→P c)
  (hf:∀ p x,l[p]? =some x→Q p→∀c:Nat,(c:Int)∈x.args→if x.k=2∨x.k=3 then P c else Q c) (vn:Int) (vs:ByteArray) (sz:Int):
  ∀n i,i<n→i<l.length→Q i→hoL l vn vs sz n i=saR l vn vs sz n i:=by
 intro n
 induction n with
 | zero=>intro i hi;omega
 | succ n ih=>
  intro i hin hil hQ
  have hx:l[i]? =some (l[i]'hil):=List.getElem?_eq_getElem _
  generalize l[i]'hil=x at hx
  have N:=T.node i x hx
  have hr:=hok x (List.mem_of_getElem? hx)
  simp only[Nd.ok,Bool.and_eq_true]at hr
  have hr:=hr.1.1
  by_cases q0:x.k=0
  ·simp[hoL,saR,hx,q0]
  ·by_cases q1:x.k=1
   ·simp[hoL,saR,hx,q1]
   ·by_cases q23:x.k=2∨x.k=3
    ·have one:x.args.length=1:=by
      unfold Nd.right at hr
      simp only[q0,q1,or_self,if_false,q23,if_true]at hr
      exact of_decide_eq_true hr
     obtain⟨m1,m2,m3⟩:=gO N (k:=0) (by omega)
     have hP:=hf i x hx hQ _ m1
     rw[if_pos q23]at hP
     obtain⟨_,g⟩:=aEU T hok P hn he n _ (by omega) (by omega) hP
     rcases q23 with q | q
     ·simp[hoL,saR,hx,q,g]
     ·have e1:hoL l vn vs sz (n+1) i= !(chars vs).any (fun c=> !inS (spL l n (aT x 0)) c):=by simp only[hoL,hx];simp[q]
      have e2:saR l vn vs sz (n+1) i=(chars vs).all (fun c=>cD l n (aT x 0) c):=by simp only[saR,hx];simp[q]
      rw[e1,e2,List.not_any_eq_all_not]
      congr 1
      funext c
      rw[g];simp
    ·have sub:∀ k,k<x.args.length→hoL l vn vs sz n (aT x k)=saR l vn vs sz n (aT x k):=fun k hk=>by
      obtain⟨m1,m2,m3⟩:=gO N hk
      have:=hf i x hx hQ _ m1
      rw[if_neg q23]at this
      exact ih _ (by omega) (by omega) this
     have n2:x.k≠2:=fun e=>q23 (.inl e)
     have n3:x.k≠3:=fun e=>q23 (.inr e)
     have len:x.args.length=1∨x.args.length=2:=by
      unfold Nd.right at hr
      simp only[q0,q1,n2,n3,or_self,if_false]at hr
      split at hr
      ·right;exact of_decide_eq_true hr
      ·split at hr
       ·exact of_decide_eq_true hr
       ·cases hr
     have c0:=sub 0 (by omega)
     by_cases q5:x.k=5
     ·have two:x.args.length=2:=by
       unfold Nd.right at hr
       simpa[q5]using hr
      have c1:=sub 1 (by omega)
      simp[hoL,saR,hx,q5,c0,c1]
     ·by_cases q6:x.k=6
      ·have two:x.args.length=2:=by
        unfold Nd.right at hr
        simpa[q6]using hr
       have c1:=sub 1 (by omega)
       simp[hoL,saR,hx,q6,c0,c1]
      ·have e1:hoL l vn vs sz (n+1) i=x.args.any fun a=>hoL l vn vs sz n a.toNat:=by simp[hoL,hx,q0,q1,n2,n3,q5,q6]
       have e2:saR l vn vs sz (n+1) i=(saR l vn vs sz n (aT x 0)||(decide (1<x.args.length)&&saR l vn vs sz n (aT x 1))):=by simp[saR,hx,q0,q1,n2,n3,q5,q6]
       rw[e1,e2]
       rcases len with q | q
       ·obtain⟨a,ea⟩:∃ a,x.args=[a]:=by
         match h:x.args,q with
         | [a],_=>exact⟨a,rfl⟩
        have e3:aT x 0=a.toNat:=by simp[aT,ea]
        rw[←c0,e3]
        simp[ea]
       ·have c1:=sub 1 (by omega)
        obtain⟨a,b,ea⟩:∃ a b,x.args=[a,b]:=by
         match h:x.args,q with
         | [a,b],_=>exact⟨a,b,rfl⟩
        have e3:aT x 0=a.toNat:=by simp[aT,ea]
        have e4:aT x 1=b.toNat:=by simp[aT,ea]
        rw[←c0,←c1,e3,e4]
        simp[ea]
end Go.Proofs.YtdpbobkcbakpfaaGreatDoor

namespace Go.Proofs.YtdpbobkcbakpfaaGreatDoor
open Go Go.Ab
set_option maxRecDepth 100000
def c129b11:aC:= .seq (zs 7 5 [zv 25 8,zf 26 3 7,zl 27 26,zo 28 (.len true (.tmp 27)),zB 29 .lss 25 28] (zd 29 .skip (.exit 1))) (.seq (.block 2 (zs 9 7 [zf 32 3 7,zl 33 32,zv 34 8,zo 35 (.ixs (.tmp 33) (.tmp 34)),zo 36 (.cF .i64 (.tmp 35)),zv 37 2,zB 38 .eql 36 37] (zd 38 (zs 10 1 [zW 6 true] .ret) .skip))) (zr 8 3 [zv 30 8,zK 31 .add 30 1,zv 8 31]))
def c129:aC:=zs 0 1 [zW 6 false] (zs 1 6 [zv 9 0,zv 10 1,zI 11 5 9 10,zA 12 5 11,zo 7 (.alloc [za,za,za,.t (.str (bs [])),.tt 1 []]),zn (.store 5 (.tmp 7) (.tmp 12))] (.seq (zs 2 2 [zf 13 0 7,zl 14 13] (.block 0 (zs 3 2 [zK 16 .eql 14 0,zv 15 16] (zd 15 (zs 4 7 [zv 17 2,zf 18 1 7,zl 19 18,zf 20 2 7,zl 21 20,zc 22 37 [.tmp 17,.tmp 19,.tmp 21],zv 6 22] .ret) (zs 5 2 [zK 24 .eql 14 1,zv 23 24] (zd 23 (.seq (zs 6 1 [zM 8 0] (.block 1 (.loop c129b11))) (zs 11 1 [zW 6 false] .ret)) (zs 12 2 [zK 40 .eql 14 5,zv 39 40] (zd 39 (zs 13 17 [zv 41 0,zf 42 4 7,zl 43 42,zo 44 (.ia 1 (.tmp 43) (zi 0)),zl 45 44,zv 46 2,zc 47 129 [.tmp 41,.tmp 45,.tmp 46],zv 48 47,.br 48 true [zg 49 (.mv (.tmp 0)) 48 true,zg 50 (.fa 4 (.tmp 7)) 48 true,zg 51 (.load 1 false (.tmp 50)) 48 true,zg 52 (.ia 1 (.tmp 51) (zi 1)) 48 true,zg 53 (.load 1 false (.tmp 52)) 48 true,zg 54 (.mv (.tmp 2)) 48 true,.mk (some 55) (.call 129 [.tmp 49,.tmp 53,.tmp 54]) (some (48,true))],zP 56 48 55,zv 6 56] .ret) (zs 14 2 [zK 58 .eql 14 6,zv 57 58] (zd 57 (zs 15 18 [zv 59 0,zf 60 4 7,zl 61 60,zo 62 (.ia 1 (.tmp 61) (zi 0)),zl 63 62,zv 64 2,zc 65 129 [.tmp 59,.tmp 63,.tmp 64],zv 66 65,.br 66 true [zg 67 (.mv (.tmp 0)) 66 true,zg 68 (.fa 4 (.tmp 7)) 66 true,zg 69 (.load 1 false (.tmp 68)) 66 true,zg 70 (.ia 1 (.tmp 69) (zi 1)) 66 true,zg 71 (.load 1 false (.tmp 70)) 66 true,zg 72 (.mv (.tmp 2)) 66 true,.mk (some 73) (.call 129 [.tmp 67,.tmp 71,.tmp 72]) (some (66,true)),zg 74 (.un .not (.tmp 73)) 66 true],zP 75 66 74,zv 6 75] .ret) .skip)))))))))) (zs 16 23 [zv 76 0,zf 77 4 7,zl 78 77,zo 79 (.ia 1 (.tmp 78) (zi 0)),zl 80 79,zv 81 2,zc 82 129 [.tmp 76,.tmp 80,.tmp 81],zv 83 82,.grp 83 false [zg 84 (.fa 4 (.tmp 7)) 83 false,zg 85 (.load 1 false (.tmp 84)) 83 false,zg 86 (.len false (.tmp 85)) 83 false,zg 87 (.bin .gtr false (.tmp 86) (zi 1)) 83 false,zg 88 (.mv (.tmp 87)) 83 false],.br 88 true [zg 89 (.mv (.tmp 0)) 88 true,zg 90 (.fa 4 (.tmp 7)) 88 true,zg 91 (.load 1 false (.tmp 90)) 88 true,zg 92 (.ia 1 (.tmp 91) (zi 1)) 88 true,zg 93 (.load 1 false (.tmp 92)) 88 true,zg 94 (.mv (.tmp 2)) 88 true,.mk (some 95) (.call 129 [.tmp 89,.tmp 93,.tmp 94]) (some (88,true))],.grp 83 false [zg 96 (.pick (.tmp 88) (.tmp 95) (zb false)) 83 false],zQ 97 83 96,zv 6 97] .ret)))
theorem k129:Compiled Tryz.prog 129 98 [.tmp 6] c129:= .mk' [] Tryz.func129 rfl (by kernel_rfl) (by kernel_rfl)
def c77b15:aC:= .seq (zs 11 5 [zv 43 8,zf 44 3 5,zl 45 44,zo 46 (.len true (.tmp 45)),zB 47 .lss 43 46] (zd 47 .skip (.exit 1))) (.seq (.block 2 (.seq (.region 13 true 12 [zv 50 0,zf 51 4 7,zl 52 51,zo 53 (.ia 1 (.tmp 52) (zi 0)),zl 54 53,zf 55 3 5,zl 56 55,zv 57 8,zo 58 (.ixs (.tmp 56) (.tmp 57)),zo 59 (.cF .i64 (.tmp 58)),zc 60 129 [.tmp 50,.tmp 54,.tmp 59],zN 61 60]) (zd 61 (zs 14 1 [zW 6 false] .ret) .skip))) (zr 12 3 [zv 48 8,zK 49 .add 48 1,zv 8 49]))
def c77:aC:=zs 0 2 [zX 5 6 2,zW 6 false] (zs 1 6 [zv 9 0,zv 10 1,zI 11 5 9 10,zA 12 5 11,zo 7 (.alloc [za,za,za,.t (.str (bs [])),.tt 1 []]),zn (.store 5 (.tmp 7) (.tmp 12))] (.seq (zs 2 2 [zf 13 0 7,zl 14 13] (.block 0 (zs 3 2 [zK 16 .eql 14 0,zv 15 16] (zd 15 (zs 4 8 [zf 17 1 5,zl 18 17,zf 19 1 7,zl 20 19,zf 21 2 7,zl 22 21,zc 23 37 [.tmp 18,.tmp 20,.tmp 22],zv 6 23] .ret) (zs 5 2 [zK 25 .eql 14 1,zv 24 25] (zd 24 (zs 6 6 [zf 26 3 5,zl 27 26,zf 28 3 7,zl 29 28,zB 30 .eql 27 29,zv 6 30] .ret) (zs 7 2 [zK 32 .eql 14 2,zv 31 32] (zd 31 (.seq (.region 8 true 9 [zv 33 0,zf 34 4 7,zl 35 34,zo 36 (.ia 1 (.tmp 35) (zi 0)),zl 37 36,zA 38 6 5,zc 39 50 [.tmp 38],zc 40 129 [.tmp 33,.tmp 37,.tmp 39],zv 6 40]) .ret) (zs 9 2 [zK 42 .eql 14 3,zv 41 42] (zd 41 (.seq (zs 10 1 [zM 8 0] (.block 1 (.loop c77b15))) (zs 15 1 [zW 6 true] .ret)) (zs 16 2 [zK 63 .eql 14 5,zv 62 63] (zd 62 (.seq (.region 17 true 17 [zv 64 0,zf 65 4 7,zl 66 65,zo 67 (.ia 1 (.tmp 66) (zi 0)),zl 68 67,zA 69 6 5,zc 70 77 [.tmp 64,.tmp 68,.tmp 69],zv 71 70,.br 71 true [zg 72 (.mv (.tmp 0)) 71 true,zg 73 (.fa 4 (.tmp 7)) 71 true,zg 74 (.load 1 false (.tmp 73)) 71 true,zg 75 (.ia 1 (.tmp 74) (zi 1)) 71 true,zg 76 (.load 1 false (.tmp 75)) 71 true,zg 77 (.load 6 true (.tmp 5)) 71 true,.mk (some 78) (.call 77 [.tmp 72,.tmp 76,.tmp 77]) (some (71,true))],zP 79 71 78,zv 6 79]) .ret) (zs 18 2 [zK 81 .eql 14 6,zv 80 81] (zd 80 (.seq (.region 19 true 18 [zv 82 0,zf 83 4 7,zl 84 83,zo 85 (.ia 1 (.tmp 84) (zi 0)),zl 86 85,zA 87 6 5,zc 88 77 [.tmp 82,.tmp 86,.tmp 87],zv 89 88,.br 89 true [zg 90 (.mv (.tmp 0)) 89 true,zg 91 (.fa 4 (.tmp 7)) 89 true,zg 92 (.load 1 false (.tmp 91)) 89 true,zg 93 (.ia 1 (.tmp 92) (zi 1)) 89 true,zg 94 (.load 1 false (.tmp 93)) 89 true,zg 95 (.load 6 true (.tmp 5)) 89 true,.mk (some 96) (.call 77 [.tmp 90,.tmp 94,.tmp 95]) (some (89,true)),zg 97 (.un .not (.tmp 96)) 89 true],zP 98 89 97,zv 6 98]) .ret) .skip)))))))))))))) (.seq (.region 20 true 23 [zv 99 0,zf 100 4 7,zl 101 100,zo 102 (.ia 1 (.tmp 101) (zi 0)),zl 103 102,zA 104 6 5,zc 105 77 [.tmp 99,.tmp 103,.tmp 104],zv 106 105,.grp 106 false [zg 107 (.fa 4 (.tmp 7)) 106 false,zg 108 (.load 1 false (.tmp 107)) 106 false,zg 109 (.len false (.tmp 108)) 106 false,zg 110 (.bin .gtr false (.tmp 109) (zi 1)) 106 false,zg 111 (.mv (.tmp 110)) 106 false],.br 111 true [zg 112 (.mv (.tmp 0)) 111 true,zg 113 (.fa 4 (.tmp 7)) 111 true,zg 114 (.load 1 false (.tmp 113)) 111 true,zg 115 (.ia 1 (.tmp 114) (zi 1)) 111 true,zg 116 (.load 1 false (.tmp 115)) 111 true,zg 117 (.load 6 true (.tmp 5)) 111 true,.mk (some 118) (.call 77 [.tmp 112,.tmp 116,.tmp 117]) (some (111,true))],.grp 106 false [zg 119 (.pick (.tmp 111) (.tmp 118) (zb false)) 106 false],zQ 120 106 119,zv 6 120]) .ret)))
theorem k77:Compiled Tryz.prog 77 121 [.tmp 6] c77:= .mk' [] Tryz.func77 rfl (by kernel_rfl) (by kernel_rfl)
def c123:aC:=zs 0 1 [zW 3 false] (zs 1 6 [zl 4 1,zv 5 0,zo 6 (.cF .i64 (.tmp 5)),zc 7 120 [.tmp 4,.tmp 6],zN 8 7,zv 3 8] .ret)
theorem k123:Compiled Tryz.prog 123 9 [.tmp 3] c123:= .mk' [] Tryz.func123 rfl (by kernel_rfl) (by kernel_rfl)
def c50:aC:=zs 0 2 [zX 1 6 0,zM 2 0] (zs 1 8 [zf 3 3 1,zl 4 3,zo 5 (.len true (.tmp 4)),zf 6 5 1,zl 7 6,zL 8 7,zB 9 .add 5 8,zv 2 9] .ret)
theorem k50:Compiled Tryz.prog 50 10 [.tmp 2] c50:= .mk' [] Tryz.func50 rfl (by kernel_rfl) (by kernel_rfl)
def c128:aC:=zs 0 1 [zM 2 0] (.seq (zs 1 1 [zv 3 0] (.block 0 (.seq (zs 2 2 [zK 5 .eql 3 9,zv 4 5] (zd 4 .skip (zr 3 2 [zK 6 .eql 3 10,zv 4 6]))) (zd 4 (zs 4 1 [zM 2 9] .ret) (zs 5 2 [zK 8 .eql 3 11,zv 7 8] (zd 7 (zs 6 1 [zM 2 10] .ret) (zs 7 2 [zK 10 .eql 3 12,zv 9 10] (zd 9 (zs 8 1 [zM 2 11] .ret) (zs 9 2 [zK 12 .eql 3 13,zv 11 12] (zd 11 (zs 10 1 [zM 2 12] .ret) (zs 11 2 [zK 14 .eql 3 14,zv 13 14] (zd 13 (zs 12 1 [zM 2 13] .ret) (zs 13 2 [zK 16 .eql 3 15,zv 15 16] (zd 15 (zs 14 1 [zM 2 (-1)] .ret) .skip)))))))))))))) (zs 15 2 [zv 17 0,zv 2 17] .ret))
theorem k128:Compiled Tryz.prog 128 18 [.tmp 2] c128:= .mk' [] Tryz.func128 rfl (by kernel_rfl) (by kernel_rfl)
def c76b8:aC:= .seq (zs 4 10 [zv 12 5,zf 13 3 3,zl 14 13,zo 15 (.len true (.tmp 14)),zB 16 .lss 12 15,zv 17 16,.grp 17 true [zg 18 (.fa 0 (.tmp 2)) 17 true,zg 19 (.load 1 false (.tmp 18)) 17 true,zg 20 (.bin .eql false (.tmp 19) (zi 6)) 17 true],zP 21 17 20] (zd 21 .skip (.exit 0))) (.seq (.block 1 (.seq (.region 6 true 10 [zf 24 1 2,zl 25 24,zc 26 18 [.tmp 25],zf 27 3 3,zl 28 27,zv 29 5,zo 30 (.ixs (.tmp 28) (.tmp 29)),zo 31 (.cF .i64 (.tmp 30)),zc 32 41 [.tmp 26,.tmp 31],zN 33 32]) (zd 33 (zs 7 1 [zW 4 false] .ret) .skip))) (zr 5 3 [zv 22 5,zK 23 .add 22 1,zv 5 23]))
def c76:aC:=zs 0 3 [zX 2 8 0,zX 3 6 1,zW 4 false] (.seq (.seq (.region 1 true 6 [zf 6 0 3,zl 7 6,zf 8 0 2,zl 9 8,zc 10 128 [.tmp 9],zB 11 .neq 7 10]) (zd 11 (zs 2 1 [zW 4 false] .ret) .skip)) (.seq (zs 3 1 [zM 5 0] (.block 0 (.loop c76b8))) (zs 8 1 [zW 4 true] .ret)))
theorem k76:Compiled Tryz.prog 76 34 [.tmp 4] c76:= .mk' [] Tryz.func76 rfl (by kernel_rfl) (by kernel_rfl)
def c25:aC:=zs 0 3 [zX 2 8 0,zX 3 6 1,zM 4 0] (.seq (zs 1 3 [zA 7 8 2,zc 8 29 [.tmp 7],zv 5 8] (zs 2 2 [zv 9 5,zK 10 .neq 9 0] (zd 10 (zs 3 2 [zv 11 5,zv 4 11] .ret) .skip))) (.seq (zs 4 3 [zA 12 6 3,zc 13 75 [.tmp 12],zv 6 13] (zs 5 2 [zv 14 6,zK 15 .neq 14 0] (zd 15 (zs 6 2 [zv 16 6,zv 4 16] .ret) .skip))) (zs 7 7 [zA 17 8 2,zA 18 6 3,zc 19 76 [.tmp 17,.tmp 18],zN 20 19,zc 21 19 [.tmp 20],zo 22 (.bin .mul false (zi 17) (.tmp 21)),zv 4 22] .ret)))
theorem k25:Compiled Tryz.prog 25 23 [.tmp 4] c25:= .mk' [] Tryz.func25 rfl (by kernel_rfl) (by kernel_rfl)
def c26:aC:=zs 0 3 [zX 2 8 0,zX 3 6 1,zW 4 false] (zs 1 15 [zf 5 7 2,zl 6 5,zL 7 6,zK 8 .eql 7 0,zv 9 8,.br 9 false [zg 10 (.fa 7 (.tmp 2)) 9 false,zg 11 (.load 1 false (.tmp 10)) 9 false,zg 12 (.fa 7 (.tmp 2)) 9 false,zg 13 (.load 1 false (.tmp 12)) 9 false,zg 14 (.len false (.tmp 13)) 9 false,zg 15 (.bin .sub false (.tmp 14) (zi 1)) 9 false,zg 16 (.load 6 true (.tmp 3)) 9 false,.mk (some 17) (.call 77 [.tmp 11,.tmp 15,.tmp 16]) (some (9,false))],zQ 18 9 17,zv 4 18] .ret)
theorem k26:Compiled Tryz.prog 26 19 [.tmp 4] c26:= .mk' [] Tryz.func26 rfl (by kernel_rfl) (by kernel_rfl)
def c27:aC:=zs 0 3 [zX 2 8 0,zX 3 6 1,zW 4 false] (.seq (.region 1 true 14 [zf 5 7 2,zl 6 5,zL 7 6,zK 8 .eql 7 0,zv 9 8,.br 9 false [zg 10 (.fa 7 (.tmp 2)) 9 false,zg 11 (.load 1 false (.tmp 10)) 9 false,zg 12 (.fa 7 (.tmp 2)) 9 false,zg 13 (.load 1 false (.tmp 12)) 9 false,.mk (some 14) (.call 78 [.tmp 13]) (some (9,false)),zg 15 (.load 6 true (.tmp 3)) 9 false,.mk (some 16) (.call 77 [.tmp 11,.tmp 14,.tmp 15]) (some (9,false))],zQ 17 9 16,zv 4 17]) .ret)
theorem k27:Compiled Tryz.prog 27 18 [.tmp 4] c27:= .mk' [] Tryz.func27 rfl (by kernel_rfl) (by kernel_rfl)
def c78:aC:=zs 0 1 [zM 2 0] (zs 1 4 [zv 4 0,zL 5 4,zK 6 .sub 5 1,zv 3 6] (.seq (zs 2 6 [zv 7 0,zv 8 3,zI 9 5 7 8,zf 10 0 9,zl 11 10,zK 12 .eql 11 7] (zd 12 (zs 3 8 [zv 13 0,zv 14 3,zI 15 5 13 14,zf 16 4 15,zl 17 16,zo 18 (.ia 1 (.tmp 17) (zi 0)),zl 19 18,zv 2 19] .ret) .skip)) (zs 4 2 [zv 20 3,zv 2 20] .ret)))
theorem k78:Compiled Tryz.prog 78 21 [.tmp 2] c78:= .mk' [] Tryz.func78 rfl (by kernel_rfl) (by kernel_rfl)
def c4t3:aC:=zd 11 (zs 2 1 [zW 4 false] .ret) .skip
def c4t6:aC:=zd 19 (zs 4 1 [zW 4 true] .ret) .skip
def c4t12:aC:=zd 40 (zs 9 17 [zv 41 6,zv 42 9,zB 43 .eql 41 42,zv 44 43,.grp 44 true [zg 45 (.mv (.tmp 8)) 44 true,zg 46 (.mv (.tmp 9)) 44 true,zg 47 (.bin .eql false (.tmp 45) (.tmp 46)) 44 true],zP 48 44 47,zv 49 48,.grp 49 true [zg 50 (.mv (.tmp 5)) 49 true,zg 51 (.un .not (.tmp 50)) 49 true],zP 52 49 51,zv 53 52,.grp 53 true [zg 54 (.mv (.tmp 7)) 53 true,zg 55 (.un .not (.tmp 54)) 53 true],zP 56 53 55,zv 4 56] .ret) .skip
def c4t14:aC:= .seq (zs 8 2 [zv 39 9,zK 40 .neq 39 0] c4t12) (zs 10 21 [zv 57 6,zK 58 .eql 57 0,zv 59 58,.grp 59 true [zg 60 (.mv (.tmp 8)) 59 true,zg 61 (.bin .eql false (.tmp 60) (zi 0)) 59 true],zP 62 59 61,zv 63 62,.br 63 true [zg 64 (.mv (.tmp 5)) 63 true,zg 65 (.load 8 true (.tmp 2)) 63 true,zg 66 (.load 6 true (.tmp 3)) 63 true,.mk (some 67) (.call 26 [.tmp 65,.tmp 66]) (some (63,true)),zg 68 (.bin .eql true (.tmp 64) (.tmp 67)) 63 true],zP 69 63 68,zv 70 69,.br 70 true [zg 71 (.mv (.tmp 7)) 70 true,zg 72 (.load 8 true (.tmp 2)) 70 true,zg 73 (.load 6 true (.tmp 3)) 70 true,.mk (some 74) (.call 27 [.tmp 72,.tmp 73]) (some (70,true)),zg 75 (.bin .eql true (.tmp 71) (.tmp 74)) 70 true],zP 76 70 75,zv 4 76] .ret)
def c4t15:aC:=zs 7 4 [zA 36 8 2,zA 37 6 3,zc 38 25 [.tmp 36,.tmp 37],zv 9 38] c4t14
def c4t16:aC:= .seq (.region 6 true 10 [zA 29 8 2,zc 30 15 [.tmp 29],zA 31 6 3,zc 32 23 [.tmp 31],zc 33 24 [.tmp 30,.tmp 32],zv 28 33,zE 34 0 28,zE 35 1 28,zv 7 34,zv 8 35]) c4t15
def c4t17:aC:= .seq (.region 5 true 10 [zA 21 8 2,zc 22 15 [.tmp 21],zA 23 6 3,zc 24 23 [.tmp 23],zc 25 22 [.tmp 22,.tmp 24],zv 20 25,zE 26 0 20,zE 27 1 20,zv 5 26,zv 6 27]) c4t16
def c4t18:aC:= .seq (zs 3 8 [zA 12 8 2,zc 13 13 [.tmp 12],zN 14 13,zv 15 14,.br 15 false [zg 16 (.load 6 true (.tmp 3)) 15 false,.mk (some 17) (.call 21 [.tmp 16]) (some (15,false)),zg 18 (.un .not (.tmp 17)) 15 false],zQ 19 15 18] c4t6) c4t17
def c4t19:aC:= .seq (zs 1 2 [zc 10 12 [],zN 11 10] c4t3) c4t18
def c4:aC:=zs 0 3 [zX 2 8 0,zX 3 6 1,zW 4 false] c4t19
theorem k4:Compiled Tryz.prog 4 77 [.tmp 4] c4:= .mk' [] Tryz.func4 rfl (by kernel_rfl) (by kernel_rfl)
end Go.Proofs.YtdpbobkcbakpfaaGreatDoor

namespace Go.Proofs.YtdpbobkcbakpfaaGreatDoor
open Go Go.Ab
set_option maxRecDepth 100000
set_option maxHeartbeats 4000000
attribute [local simp] bH aM aS aJ aW aN bB tyC fdC vlC ndC aL D.cV D.pt
theorem iS {bg:List Nat} {i:Nat} {x:Nd} (N:xW bg i x.args) {k:Nat} (h:k<x.args.length):x.args[k]? =some ((aT x k:Nat):Int):=by
 obtain⟨c,c1,_,_⟩:=N.arg _ (List.getElem_mem h)
 simp only[aT,List.getD_eq_getElem?_getD,List.getElem?_eq_getElem h,Option.getD_some,c1]
 simp
theorem fS {x:Nd} (h:x.ok=true):(x.k=0∨x.k=1→x.args.length=0)∧(x.k=2∨x.k=3→x.args.length=1)∧(x.k=4∨x.k=5∨x.k=6→x.args.length=2)∧(x.k≠0→x.k≠1→0<x.args.length∧x.args.length≤2):=by
 simp only[Nd.ok,Bool.and_eq_true]at h
 have hr:=h.1.1
 unfold Nd.right at hr
 split at hr
 ·have:=of_decide_eq_true hr
  rename_i q
  exact⟨fun _=>this,by omega,by omega,by omega⟩
 ·split at hr
  ·have:=of_decide_eq_true hr
   rename_i q _
   exact⟨by omega,by omega,by omega,by omega⟩
  ·split at hr
   ·have:=of_decide_eq_true hr
    exact⟨by omega,by omega,by omega,by omega⟩
   ·split at hr
    ·have:=of_decide_eq_true hr
     exact⟨by omega,by omega,by omega,by omega⟩
    ·cases hr
attribute [local simp] pO D.mZ
attribute [local simp] c129b11 c129 in
theorem aU0 {l:List Nd} {bg:List Nat} (T:eX l bg) (hok:∀ x∈l,x.ok=true) (hs:∀ x∈l,x.s.size≤500):∀ n i m,i<n→i<l.length→PSp Tryz.prog 129 [.one (.t (aJ l)),.one (.t (I ((i:Nat):Int))),.one (.t (I m))] (.one (.t (.bool (cD l n i m)))):=by
 intro n
 induction n with
 | zero=>intro i m hi;omega
 | succ n ih=>
  intro i m hin hil
  have hx:l[i]? =some (l[i]'hil):=List.getElem?_eq_getElem _
  generalize l[i]'hil=x at hx
  have N:=T.node i x hx
  have hiI:(i:Int)<(l.length:Int):=by omega
  obtain⟨r1,r2,r3,r4⟩:=fS (hok x (List.mem_of_getElem? hx))
  have hsx:=hs x (List.mem_of_getElem? hx)
  have sub:∀ k,k<x.args.length→PSp Tryz.prog 129 [.one (.t (aJ l)),.one (.t (I ((aT x k:Nat):Int))),.one (.t (I m))] (.one (.t (.bool (cD l n (aT x k) m)))):=fun k hk=>by
   obtain⟨m1,m2,m3⟩:=gO N hk
   exact ih _ m (by omega) (by omega)
  obtain⟨R0,hR0⟩:∃ R,cD l (n+1) i m=R:=⟨_,rfl⟩
  rw[hR0]
  refine k129.aH (by simp) rfl rfl ?_
  rcases eqCases x.k 0 with k0 | k0
  ·have e1:R0=(decide (x.lo≤m)&&decide (m≤x.hi)):=by rw[←hR0];simp[cD,hx,k0]
   rw[e1]
   simp -implicitDefEqProofs [-aA,-gval,hil,hiI,aE hx,Nd.row,k0,-List.getElem_map]
   refine aD.tree (cW m x.lo x.hi) rfl ?_
   simp -implicitDefEqProofs [-aA,-gval,aB]
  ·rcases eqCases x.k 1 with k1 | k1
   ·have e1:R0=(chars x.s).any (fun c=>c==m):=by rw[←hR0];simp[cD,hx,k1]
    subst e1
    simp -implicitDefEqProofs [-aA,-gval,hil,hiI,aE hx,Nd.row,k1,-List.getElem_map]
    have hcl:=cI x.s
    refine bD (chars x.s) (fun c=>c==m) [2,7] [5] (fun i st=>st.tmps 8= .one (.t (I i))) (by simp only[short];omega) ?_ ?_ ?_
    ·exact⟨by simp,by simp,by simp⟩
    ·intro j y st' hj hjI hw hg hy hany hx8 hk hh
     simp at hk hh
     rw[hcl]at hj hjI
     obtain⟨o1,o2,o3,o4⟩:=aI hh.1
     have hc:(chars x.s)[j]?.getD 0=y:=by rw[hg];rfl
     have hm:=gW hy
     have hcv:D.cF .i64 (.one (.t (.int .u8 y)))= .one (.t (I y)):=by
      have:IntKind.i64.wrap y=y:=wrap_i64 (by omega) (by omega)
      simp[D.cF,this]
     rcases eqCases y m with q | q
     ·have ha:=hany (by simp[q])
      subst q
      simp -implicitDefEqProofs [-aA,-gval,hx8,hk,hjI,hc,hcv,o1,o2,o3]
      simp -implicitDefEqProofs [-aA,-gval,ha,aB]
     ·simp -implicitDefEqProofs [-aA,-gval,hx8,hk,hjI,hw,hc,hcv,o1,o2,o3,q,hh.1]
    ·intro st' hany hx8 hk hh
     simp at hk hh
     rw[hcl]at hx8
     obtain⟨o1,o2,o3,o4⟩:=aI hh.1
     simp -implicitDefEqProofs [-aA,-gval,hx8,hk,o1,o2,o3,aB,hany]
   ·obtain⟨pos,aD6⟩:=r4 k0.2.1 k1.2.1
    have a0:=iS N pos
    have l0:(0:Int)<(x.args.length:Int):=by omega
    have c0:=sub 0 pos
    obtain⟨A,hA⟩:∃ A,cD l n (aT x 0) m=A:=⟨_,rfl⟩
    rw[hA]at c0
    rcases eqCases x.k 5 with k5 | k5
    ·have one':1<x.args.length:=by have:=r3 (by omega);omega
     have a1:=iS N one'
     have l1:(1:Int)<(x.args.length:Int):=by omega
     have c1:=sub 1 one'
     have e1:R0=(A&&cD l n (aT x 1) m):=by rw[←hR0];simp[cD,hx,k5,hA]
     generalize cD l n (aT x 1) m=B at*
     subst e1
     simp -implicitDefEqProofs [-aA,-gval,hil,hiI,aE hx,Nd.row,k5,pos,aE a0,-List.getElem_map]
     refine aD.tree c0 rfl ?_
     cases A
     ·simp -implicitDefEqProofs [-aA,-gval,aB]
     ·simp -implicitDefEqProofs [-aA,-gval,one',l1,aE a1,-List.getElem_map]
      refine aD.tree c1 rfl ?_
      simp -implicitDefEqProofs [-aA,-gval,aB]
    ·rcases eqCases x.k 6 with k6 | k6
     ·have one':1<x.args.length:=by have:=r3 (by omega);omega
      have a1:=iS N one'
      have l1:(1:Int)<(x.args.length:Int):=by omega
      have c1:=sub 1 one'
      have e1:R0=(A&& !cD l n (aT x 1) m):=by rw[←hR0];simp[cD,hx,k6,hA]
      generalize cD l n (aT x 1) m=B at*
      subst e1
      simp -implicitDefEqProofs [-aA,-gval,hil,hiI,aE hx,Nd.row,k6,pos,aE a0,-List.getElem_map]
      refine aD.tree c0 rfl ?_
      cases A
      ·simp -implicitDefEqProofs [-aA,-gval,aB]
      ·simp -implicitDefEqProofs [-aA,-gval,one',l1,aE a1,-List.getElem_map]
       refine aD.tree c1 rfl ?_
       simp -implicitDefEqProofs [-aA,-gval,aB]
     ·have e1:R0=(A||(decide (1<x.args.length)&&cD l n (aT x 1) m)):=by rw[←hR0];simp[cD,hx,k0,k1,k5,k6,hA]
      simp -implicitDefEqProofs [-aA,-gval,hil,hiI,aE hx,Nd.row,k0,k1,k5,k6,pos,aE a0,-List.getElem_map]
      refine aD.tree c0 rfl ?_
      cases A
      ·by_cases one':1<x.args.length
       ·have a1:=iS N one'
        have l1:(1:Int)<(x.args.length:Int):=by omega
        have l3:¬ (x.args.length:Int)≤1:=by omega
        have c1:=sub 1 one'
        have e2:R0=cD l n (aT x 1) m:=by rw[e1];simp[one']
        generalize cD l n (aT x 1) m=B at*
        subst e2
        simp -implicitDefEqProofs [-aA,-gval,one',l1,l3,aE a1,-List.getElem_map]
        refine aD.tree c1 rfl ?_
        simp -implicitDefEqProofs [-aA,-gval,aB]
       ·have l1:¬ (1:Int)<(x.args.length:Int):=by omega
        have e2:R0=false:=by rw[e1];simp[one']
        have l3:(x.args.length:Int)≤1:=by omega
        subst e2
        simp -implicitDefEqProofs [-aA,-gval,one',l1,l3,aB]
      ·have e2:R0=true:=by rw[e1];simp
       subst e2
       simp -implicitDefEqProofs [-aA,-gval,aB]
end Go.Proofs.YtdpbobkcbakpfaaGreatDoor

namespace Go.Proofs.YtdpbobkcbakpfaaGreatDoor
open Go Go.Ab
set_option maxRecDepth 100000
set_option maxHeartbeats 4000000
attribute [local simp] bH aM aS aJ aW aN bB tyC fdC vlC ndC aL D.cV D.pt
attribute [local simp] pO D.mZ
attribute [local simp] c50 in
theorem P50 (v:Vl) (hs:v.s.size≤1000000) (hi:v.items.length≤1000000):PSp Tryz.prog 50 [.agg (vlC v)] (.one (.t (I ((v.s.size:Int)+v.items.length)))):=by
 have w:IntKind.i64.wrap ((v.s.size:Int)+v.items.length)=(v.s.size:Int)+v.items.length:=wrap_i64 (by omega) (by omega)
 refine k50.aH (by simp) (by simp[D.closed,A.closed]) rfl ?_
 simp -implicitDefEqProofs [-aA,-gval,w,aB]
attribute [local simp] c77b15 c77 in
theorem P77 {l:List Nd} {bg:List Nat} (T:eX l bg) (hok:∀ x∈l,x.ok=true) (hs:∀ x∈l,x.s.size≤500) (v:Vl) (hvs:v.s.size≤1000000) (hvi:v.items.length≤1000000) (z:Int) (hz:(v.s.size:Int)+v.items.length=z):∀ n i,i<n→i<l.length→PSp Tryz.prog 77 [.one (.t (aJ l)),.one (.t (I ((i:Nat):Int))),.agg (vlC v)] (.one (.t (.bool (saR l v.n v.s z n i)))):=by
 intro n
 induction n with
 | zero=>intro i hi;omega
 | succ n ih=>
  intro i hin hil
  have hx:l[i]? =some (l[i]'hil):=List.getElem?_eq_getElem _
  generalize l[i]'hil=x at hx
  have N:=T.node i x hx
  have hiI:(i:Int)<(l.length:Int):=by omega
  obtain⟨r1,r2,r3,r4⟩:=fS (hok x (List.mem_of_getElem? hx))
  have hsx:=hs x (List.mem_of_getElem? hx)
  have p50:=P50 v hvs hvi
  rw[hz]at p50
  have sub:∀ k,k<x.args.length→PSp Tryz.prog 77 [.one (.t (aJ l)),.one (.t (I ((aT x k:Nat):Int))),.agg (vlC v)] (.one (.t (.bool (saR l v.n v.s z n (aT x k))))):=fun k hk=>by
   obtain⟨m1,m2,m3⟩:=gO N hk
   exact ih _ (by omega) (by omega)
  have num:∀ k m,k<x.args.length→PSp Tryz.prog 129 [.one (.t (aJ l)),.one (.t (I ((aT x k:Nat):Int))),.one (.t (I m))] (.one (.t (.bool (cD l n (aT x k) m)))):=fun k m hk=>by
   obtain⟨m1,m2,m3⟩:=gO N hk
   exact aU0 T hok hs n _ m (by omega) (by omega)
  obtain⟨R0,hR0⟩:∃ R,saR l v.n v.s z (n+1) i=R:=⟨_,rfl⟩
  rw[hR0]
  refine k77.aH (by simp) (by simp[D.closed,A.closed]) rfl ?_
  rcases eqCases x.k 0 with k0 | k0
  ·have e1:R0=(decide (x.lo≤v.n)&&decide (v.n≤x.hi)):=by rw[←hR0];simp[saR,hx,k0]
   rw[e1]
   simp -implicitDefEqProofs [-aA,-gval,hil,hiI,aE hx,Nd.row,k0,-List.getElem_map]
   refine aD.tree (cW v.n x.lo x.hi) rfl ?_
   simp -implicitDefEqProofs [-aA,-gval,aB]
  ·rcases eqCases x.k 1 with k1 | k1
   ·obtain⟨b,eb⟩:∃ b,(v.s.toList==x.s.toList)=b:=⟨_,rfl⟩
    have e1:R0=b:=by rw[←hR0,←eb];simp[saR,hx,k1,bJ]
    subst e1
    simp -implicitDefEqProofs [-aA,-gval,hil,hiI,aE hx,Nd.row,k1,eb,aB,-List.getElem_map]
   ·obtain⟨pos,aD6⟩:=r4 k0.2.1 k1.2.1
    have a0:=iS N pos
    have l0:(0:Int)<(x.args.length:Int):=by omega
    rcases eqCases x.k 2 with k2 | k2
    ·have e1:R0=cD l n (aT x 0) z:=by rw[←hR0];simp[saR,hx,k2]
     have c:=num 0 z pos
     rw[←e1]at c
     simp -implicitDefEqProofs [-aA,-gval,hil,hiI,aE hx,Nd.row,k2,pos,aE a0,-List.getElem_map]
     refine aD.bK p50 rfl ?_
     simp -implicitDefEqProofs [-aA,-gval]
     refine aD.bK c rfl ?_
     simp -implicitDefEqProofs [-aA,-gval,aB]
    ·rcases eqCases x.k 3 with k3 | k3
     ·have e1:R0=(chars v.s).all (fun c=>cD l n (aT x 0) c):=by rw[←hR0];simp only[saR,hx];simp[k3]
      have e2:R0= !(chars v.s).any (fun c=> !cD l n (aT x 0) c):=by rw[e1,List.not_any_eq_all_not];simp
      subst e2
      have hcl:=cI v.s
      simp -implicitDefEqProofs [-aA,-gval,hil,hiI,aE hx,Nd.row,k3,-List.getElem_map]
      refine bD (chars v.s) (fun c=> !cD l n (aT x 0) c) [0,5,7] [0,6] (fun i st=>st.tmps 8= .one (.t (I i))) (by simp only[short];omega) ?_ ?_ ?_
      ·exact⟨by simp,by simp,by simp⟩
      ·intro j y st' hj hjI hw hg hy hany hx8 hk hh
       simp at hk
       simp[Hp.set]at hh
       rw[hcl]at hj hjI
       obtain⟨o1,o2,o3,o4⟩:=aI hh.1.1
       obtain⟨p1,p2,p3,p4⟩:=aI hh.2.1
       have hc:(chars v.s)[j]?.getD 0=y:=by rw[hg];rfl
       have hm:=gW hy
       have hcv:D.cF .i64 (.one (.t (.int .u8 y)))= .one (.t (I y)):=by
        have:IntKind.i64.wrap y=y:=wrap_i64 (by omega) (by omega)
        simp[D.cF,this]
       have c:=num 0 y pos
       obtain⟨B,hB⟩:∃ B,cD l n (aT x 0) y=B:=⟨_,rfl⟩
       rw[hB]at c
       simp -implicitDefEqProofs [-aA,-gval,hx8,hk,hjI,hc,hcv,o1,o2,o3,p1,p2,p3,pos,aE a0,-List.getElem_map]
       refine aD.bK c rfl ?_
       cases B
       ·have ha:=hany (by rw[hB];rfl)
        simp -implicitDefEqProofs [-aA,-gval]
        simp -implicitDefEqProofs [-aA,-gval,ha,aB]
       ·simp -implicitDefEqProofs [-aA,-gval,hx8,hk,hw,hB,hh.1.1,hh.2.1]
        simp[Hp.set]
      ·intro st' hany hx8 hk hh
       simp at hk
       simp[Hp.set]at hh
       rw[hcl]at hx8
       obtain⟨o1,o2,o3,o4⟩:=aI hh.1.1
       simp -implicitDefEqProofs [-aA,-gval,hx8,hk,o1,o2,o3,aB,hany]
     ·have c0:=sub 0 pos
      obtain⟨A,hA⟩:∃ A,saR l v.n v.s z n (aT x 0)=A:=⟨_,rfl⟩
      rw[hA]at c0
      rcases eqCases x.k 5 with k5 | k5
      ·have one':1<x.args.length:=by have:=r3 (by omega);omega
       have a1:=iS N one'
       have l1:(1:Int)<(x.args.length:Int):=by omega
       have c1:=sub 1 one'
       have e1:R0=(A&&saR l v.n v.s z n (aT x 1)):=by rw[←hR0];simp[saR,hx,k5,hA]
       generalize saR l v.n v.s z n (aT x 1)=B at*
       subst e1
       simp -implicitDefEqProofs [-aA,-gval,hil,hiI,aE hx,Nd.row,k5,pos,aE a0,-List.getElem_map]
       refine aD.bK c0 rfl ?_
       cases A
       ·simp -implicitDefEqProofs [-aA,-gval,aB]
       ·simp -implicitDefEqProofs [-aA,-gval,one',l1,aE a1,-List.getElem_map]
        refine aD.bK c1 rfl ?_
        simp -implicitDefEqProofs [-aA,-gval,aB]
      ·rcases eqCases x.k 6 with k6 | k6
       ·have one':1<x.args.length:=by have:=r3 (by omega);omega
        have a1:=iS N one'
        have l1:(1:Int)<(x.args.length:Int):=by omega
        have c1:=sub 1 one'
        have e1:R0=(A&& !saR l v.n v.s z n (aT x 1)):=by rw[←hR0];simp[saR,hx,k6,hA]
        generalize saR l v.n v.s z n (aT x 1)=B at*
        subst e1
        simp -implicitDefEqProofs [-aA,-gval,hil,hiI,aE hx,Nd.row,k6,pos,aE a0,-List.getElem_map]
        refine aD.bK c0 rfl ?_
        cases A
        ·simp -implicitDefEqProofs [-aA,-gval,aB]
        ·simp -implicitDefEqProofs [-aA,-gval,one',l1,aE a1,-List.getElem_map]
         refine aD.bK c1 rfl ?_
         simp -implicitDefEqProofs [-aA,-gval,aB]
       ·have e1:R0=(A||(decide (1<x.args.length)&&saR l v.n v.s z n (aT x 1))):=by rw[←hR0];simp[saR,hx,k0,k1,k2,k3,k5,k6,hA]
        simp -implicitDefEqProofs [-aA,-gval,hil,hiI,aE hx,Nd.row,k0,k1,k2,k3,k5,k6,pos,aE a0,-List.getElem_map]
        refine aD.bK c0 rfl ?_
        cases A
        ·by_cases one':1<x.args.length
         ·have a1:=iS N one'
          have l1:(1:Int)<(x.args.length:Int):=by omega
          have l3:¬ (x.args.length:Int)≤1:=by omega
          have c1:=sub 1 one'
          have e2:R0=saR l v.n v.s z n (aT x 1):=by rw[e1];simp[one']
          generalize saR l v.n v.s z n (aT x 1)=B at*
          subst e2
          simp -implicitDefEqProofs [-aA,-gval,one',l1,l3,aE a1,-List.getElem_map]
          refine aD.bK c1 rfl ?_
          simp -implicitDefEqProofs [-aA,-gval,aB]
         ·have l1:¬ (1:Int)<(x.args.length:Int):=by omega
          have e2:R0=false:=by rw[e1];simp[one']
          have l3:(x.args.length:Int)≤1:=by omega
          subst e2
          simp -implicitDefEqProofs [-aA,-gval,one',l1,l3,aB]
        ·have e2:R0=true:=by rw[e1];simp
         subst e2
         simp -implicitDefEqProofs [-aA,-gval,aB]
end Go.Proofs.YtdpbobkcbakpfaaGreatDoor

namespace Go.Proofs.YtdpbobkcbakpfaaGreatDoor
open Go Go.Ab
set_option maxRecDepth 100000
set_option maxHeartbeats 4000000
attribute [local simp] bH aM aS aJ aW aN bB tyC fdC vlC ndC aL D.cV D.pt
attribute [local simp] pO D.mZ
def iE (k:Int):Int:=if k==9||k==10 then 9 else if k==11 then 10 else if k==12 then 11 else if k==13 then 12 else if k==14 then 13 else if k==15 then -1 else k
attribute [local simp] c128 in
theorem aU1 (k:Int):PSp Tryz.prog 128 [.one (.t (I k))] (.one (.t (I (iE k)))):=by
 refine k128.aH (by simp) rfl rfl ?_
 rcases eqCases k 9 with q | q
 ·subst q;simp -implicitDefEqProofs [-aA,-gval,aB,iE]
 ·rcases eqCases k 10 with q2 | q2
  ·subst q2;simp -implicitDefEqProofs [-aA,-gval,aB,iE]
  ·rcases eqCases k 11 with q3 | q3
   ·subst q3;simp -implicitDefEqProofs [-aA,-gval,aB,iE]
   ·rcases eqCases k 12 with q4 | q4
    ·subst q4;simp -implicitDefEqProofs [-aA,-gval,aB,iE]
    ·rcases eqCases k 13 with q5 | q5
     ·subst q5;simp -implicitDefEqProofs [-aA,-gval,aB,iE]
     ·rcases eqCases k 14 with q6 | q6
      ·subst q6;simp -implicitDefEqProofs [-aA,-gval,aB,iE]
      ·rcases eqCases k 15 with q7 | q7
       ·subst q7;simp -implicitDefEqProofs [-aA,-gval,aB,iE]
       ·simp -implicitDefEqProofs [-aA,-gval,q,q2,q3,q4,q5,q6,q7,aB,iE]
def nX (t:Ty) (v:Vl):Bool:=v.kind==iE t.kind&& !(t.kind==6&&(chars v.s).any fun c=> !inS (alpha t.name) c)
attribute [local simp] c76b8 c76 in
theorem P76 (t:Ty) (v:Vl) (hvs:v.s.size≤1000000):PSp Tryz.prog 76 [.agg (tyC t),.agg (vlC v)] (.one (.t (.bool (nX t v)))):=by
 obtain⟨R0,hR0⟩:∃ R,nX t v=R:=⟨_,rfl⟩
 rw[hR0]
 have aU2:=aU1 t.kind
 have hal:=rX t.name
 have hcl:=cI v.s
 refine k76.aH (by simp) (by simp[D.closed,A.closed]) rfl ?_
 obtain⟨b,eb⟩:∃ b,(v.kind==iE t.kind)=b:=⟨_,rfl⟩
 have eb':(v.kind != iE t.kind)= !b:=by rw[←eb];rfl
 simp -implicitDefEqProofs [-aA,-gval]
 refine aD.bK aU2 rfl ?_
 cases b
 ·have:R0=false:=by rw[←hR0];simp[nX,eb]
  subst this
  simp -implicitDefEqProofs [-aA,-gval,eb',aB]
 ·simp -implicitDefEqProofs [-aA,-gval,eb']
  rcases eqCases t.kind 6 with k6 | k6
  ·have e1:R0= !(chars v.s).any fun c=> !inS (alpha t.name) c:=by rw[←hR0];simp only[nX,eb];simp[k6]
   subst e1
   refine bD (chars v.s) (fun c=> !inS (alpha t.name) c) [2,3] [0,1] (fun i st=>st.tmps 5= .one (.t (I i))) (by simp only[short];omega) ?_ ?_ ?_
   ·exact⟨by simp,by simp,by simp⟩
   ·intro j y st' hj hjI hw hg hy hany hx hk hh
    simp at hk
    simp[Hp.set]at hh
    rw[hcl]at hj hjI
    obtain⟨o1,o2,o3,o4⟩:=aI hh.1.1
    obtain⟨p1,p2,p3,p4⟩:=aI hh.2.1
    have hc:(chars v.s)[j]?.getD 0=y:=by rw[hg];rfl
    have hm:=gW hy
    have hcv:D.cF .i64 (.one (.t (.int .u8 y)))= .one (.t (I y)):=by
     have:IntKind.i64.wrap y=y:=wrap_i64 (by omega) (by omega)
     simp[D.cF,this]
    obtain⟨B,hB⟩:∃ B,inS (alpha t.name) y=B:=⟨_,rfl⟩
    have pin:=InP (alpha t.name) y (by omega)
    have p18:=P18 t.name
    rw[hB]at pin
    generalize alpha t.name=al at*
    simp -implicitDefEqProofs [-aA,-gval,hx,hk,hjI,o1,o2,o3,p1,p2,p3,k6]
    refine aD.bK p18 rfl ?_
    simp -implicitDefEqProofs [-aA,-gval,hx,hk,hjI,hc,hcv,p1,p2,p3]
    refine aD.bK pin rfl ?_
    cases B
    ·have ha:=hany (by rw[hB];rfl)
     simp -implicitDefEqProofs [-aA,-gval]
     simp -implicitDefEqProofs [-aA,-gval,ha,aB]
    ·simp -implicitDefEqProofs [-aA,-gval,hx,hk,hw,hB,hh.1.1,hh.2.1]
     simp[Hp.set,k6]
   ·intro st' hany hx hk hh
    simp at hk
    simp[Hp.set]at hh
    rw[hcl]at hx
    obtain⟨o1,o2,o3,o4⟩:=aI hh.2.1
    simp -implicitDefEqProofs [-aA,-gval,hx,hk,o1,o2,o3,aB,hany]
  ·have e1:R0=true:=by rw[←hR0];simp[nX,eb,k6]
   subst e1
   refine bD ([]:List Int) (fun c=>false) [2,3] [0,1] (fun i st=>st.tmps 5= .one (.t (I i))) (by simp[short]) ?_ ?_ ?_
   ·exact⟨by simp,by simp,by simp⟩
   ·intro j y st' hj
    simp at hj
   ·intro st' hany hx hk hh
    simp at hk hx
    simp[Hp.set]at hh
    obtain⟨o1,o2,o3,o4⟩:=aI hh.1.1
    obtain⟨p1,p2,p3,p4⟩:=aI hh.2.1
    obtain⟨w,ew⟩:∃ w,decide ((0:Int)<(v.s.size:Int))=w:=⟨_,rfl⟩
    cases w<;>simp -implicitDefEqProofs [-aA,-gval,hx,hk,o1,o2,o3,p1,p2,p3,k6,aB]
end Go.Proofs.YtdpbobkcbakpfaaGreatDoor

namespace Go.Proofs.YtdpbobkcbakpfaaGreatDoor
open Go Go.Ab
set_option maxRecDepth 100000
set_option maxHeartbeats 4000000
attribute [local simp] bH aM aS aJ aW aN bB tyC fdC vlC ndC aL D.cV D.pt
def dG (l:List Nd):Nat:=match l[l.length - 1]? with | some x=>if x.k==7 then aT x 0 else l.length - 1 | none=>0
attribute [local simp] c78 in
theorem P78 {l:List Nd} {bg:List Nat} (T:eX l bg) (hok:∀ x∈l,x.ok=true) (hl:l.length≤20) (hne:l.length≠0):PSp Tryz.prog 78 [.one (.t (aJ l))] (.one (.t (I ((dG l:Nat):Int)))):=by
 obtain⟨m,hm⟩:∃ m:Nat,l.length - 1=m:=⟨_,rfl⟩
 have hml:m<l.length:=by omega
 have hx:l[m]? =some (l[m]'hml):=List.getElem?_eq_getElem _
 generalize l[m]'hml=x at hx
 have N:=T.node m x hx
 have hmI:(m:Int)<(l.length:Int):=by omega
 have hw:IntKind.i64.wrap ((l.length:Int) - 1)=(m:Int):=by rw[wrap_i64 (by omega) (by omega)];omega
 obtain⟨r1,r2,r3,r4⟩:=fS (hok x (List.mem_of_getElem? hx))
 have er:dG l=if x.k==7 then aT x 0 else m:=by simp[dG,hm,hx]
 rw[er]
 refine k78.aH (by simp) rfl rfl ?_
 rcases eqCases x.k 7 with k7 | k7
 ·have pos:=(r4 (by omega) (by omega)).1
  have a0:=iS N pos
  have l0:(0:Int)<(x.args.length:Int):=by omega
  simp -implicitDefEqProofs [-aA,-gval,hw,hml,hmI,aE hx,Nd.row,k7,pos,aE a0,aB,-List.getElem_map]
 ·simp -implicitDefEqProofs [-aA,-gval,hw,hml,hmI,aE hx,Nd.row,k7,aB,-List.getElem_map]
theorem vR {l:List Nd} {bg:List Nat} (T:eX l bg) (hok:∀ x∈l,x.ok=true) (hne:l.length≠0):dG l<l.length:=by
 have hx:l[l.length - 1]? =some (l[l.length - 1]'(by omega)):=List.getElem?_eq_getElem _
 generalize l[l.length - 1]'(by omega)=x at hx
 obtain⟨r1,r2,r3,r4⟩:=fS (hok x (List.mem_of_getElem? hx))
 simp only[dG,hx]
 split
 ·rename_i k7
  have k7:x.k=7:=by simpa using k7
  have pos:=(r4 (by omega) (by omega)).1
  have:=(gO (T.node _ x hx) pos).2.1
  omega
 ·omega
attribute [local simp] c26 in
theorem P26 (t:Ty) (v:Vl) (h0:bI t.limits=true) (hs:∀ x∈t.limits,x.s.size≤500) (hvs:v.s.size≤1000000) (hvi:v.items.length≤1000000):
  PSp Tryz.prog 26 [.agg (tyC t),.agg (vlC v)] (.one (.t (.bool (t.limits.length==0||saR t.limits v.n v.s ((v.s.size:Int)+v.items.length) t.limits.length (t.limits.length - 1))))):=by
 obtain⟨hlen,bg,T⟩:=bW h0
 have hok:=jZ h0
 refine k26.aH (by simp) (by simp[D.closed,A.closed]) rfl ?_
 by_cases z:t.limits.length=0
 ·have zl:t.limits=[]:=List.length_eq_zero_iff.1 z
  simp -implicitDefEqProofs [-aA,-gval,zl,aB]
 ·have zI:((t.limits.length:Int)==0)=false:=by simpa using z
  have zN:(t.limits.length==0)=false:=by simpa using z
  have hw:IntKind.i64.wrap ((t.limits.length:Int) - 1)=((t.limits.length - 1:Nat):Int):=by rw[wrap_i64 (by omega) (by omega)];omega
  have c:=P77 T hok hs v hvs hvi _ rfl t.limits.length (t.limits.length - 1) (by omega) (by omega)
  rw[zN]
  generalize saR t.limits v.n v.s ((v.s.size:Int)+v.items.length) t.limits.length (t.limits.length - 1)=R at*
  simp -implicitDefEqProofs [-aA,-gval,zI,hw]
  refine aD.tree c rfl ?_
  simp -implicitDefEqProofs [-aA,-gval,aB]
attribute [local simp] c27 in
theorem P27 (t:Ty) (v:Vl) (h0:bI t.limits=true) (hs:∀ x∈t.limits,x.s.size≤500) (hvs:v.s.size≤1000000) (hvi:v.items.length≤1000000):
  PSp Tryz.prog 27 [.agg (tyC t),.agg (vlC v)] (.one (.t (.bool (t.limits.length==0||saR t.limits v.n v.s ((v.s.size:Int)+v.items.length) t.limits.length (dG t.limits))))):=by
 obtain⟨hlen,bg,T⟩:=bW h0
 have hok:=jZ h0
 refine k27.aH (by simp) (by simp[D.closed,A.closed]) rfl ?_
 by_cases z:t.limits.length=0
 ·have zl:t.limits=[]:=List.length_eq_zero_iff.1 z
  simp -implicitDefEqProofs [-aA,-gval,zl,aB]
 ·have zI:((t.limits.length:Int)==0)=false:=by simpa using z
  have zN:(t.limits.length==0)=false:=by simpa using z
  have rl:=vR T hok z
  have c78:=P78 T hok hlen z
  have c:=P77 T hok hs v hvs hvi _ rfl t.limits.length (dG t.limits) (by omega) rl
  rw[zN]
  generalize saR t.limits v.n v.s ((v.s.size:Int)+v.items.length) t.limits.length (dG t.limits)=R at*
  generalize dG t.limits=r at*
  simp -implicitDefEqProofs [-aA,-gval,zI]
  refine aD.bK c78 rfl ?_
  simp -implicitDefEqProofs [-aA,-gval]
  refine aD.bK c rfl ?_
  simp -implicitDefEqProofs [-aA,-gval,aB]
end Go.Proofs.YtdpbobkcbakpfaaGreatDoor

namespace Go.Proofs.YtdpbobkcbakpfaaGreatDoor
open Go Go.Ab
set_option maxRecDepth 100000
set_option maxHeartbeats 4000000
theorem rB:∀ {l:List Int},(cS l).2=0→∀e∈l,e=0
 | [],_,e,he=>by cases he
 | x::r,h,e,he=>by
  by_cases hx:x=0
  ·simp only[cS,hx,beq_self_eq_true,if_true]at h
   rcases List.mem_cons.1 he with q | q
   ·rw[q];exact hx
   ·exact rB h e q
  ·simp[cS,hx]at h
theorem tH {t:Ty} {x:Nd} {r:Bool} {a:Int} (h:lR t x r a=0):dY t.kind x.k a=true∧(x.k=0→nR x (jG t.kind a)=true):=by
 simp only[lR]at h
 cases hs:dY t.kind x.k a
 ·rw[hs]at h
  simp only[bL,dD]at h
  by_cases q:(x.k != 7||r)=true
  ·simp[q]at h
  ·simp[q]at h
 ·refine⟨rfl,fun k0=>?_⟩
  rw[hs]at h
  cases hb:nR x (jG t.kind a)
  ·simp[bL,dD,k0,hb]at h
  ·rfl
theorem kP {t:Ty} (h:(fZ t).2=0):t.check=0∧(wM t).2=0:=by
 simp only[fZ]at h
 by_cases q:t.check=0
 ·simp only[q,bne_self_eq_false,Bool.false_eq_true,if_false]at h
  exact⟨q,h⟩
 ·have:(t.check != 0)=true:=by simpa using q
  rw[if_pos this]at h
  exact absurd h q
theorem aCD {t:Ty} (h:(fZ t).2=0) (hl:t.limits.length≠0):bI t.limits=true∧∃L:Nat→Int,L (t.limits.length - 1)=dV t.kind∧Lab t.limits gS L (t.limits.length - 1) 0∧∀p x,t.limits[p]? =some x→∃r,lR t x r (L p)=0:=by
 obtain⟨h1,h2⟩:=kP h
 have ht:=eO t h1
 obtain⟨hlen,bg,T⟩:=bW ht
 have h3:(cS (lS t (lk (cT t)))).2=0:=by
  simp only[wM]at h2
  have e:(t.limits.length==0)=false:=by simpa using hl
  rw[e]at h2
  simp only[Bool.false_eq_true,if_false]at h2
  split at h2
  ·cases h2
  ·exact h2
 obtain⟨_,p2,p3⟩:=sZ (f:=gS) T t.limits.length (t.limits.length - 1) (dV t.kind) (List.replicate t.limits.length 0) (by omega) (by omega) (by simp)
 rw[T.root]at p3
 refine⟨ht,lk (cT t),p2,p3,fun p x hx=>⟨p+1==t.limits.length,?_⟩⟩
 have hp:=(List.getElem?_eq_some_iff.1 hx).1
 have he:(lS t (lk (cT t)))[p]? =some (lR t x (p+1==t.limits.length) (lk (cT t) p)):=by
  simp[lS,List.getElem?_mapIdx,hx]
 exact rB h3 _ (List.mem_of_getElem? he)
end Go.Proofs.YtdpbobkcbakpfaaGreatDoor

namespace Go.Proofs.YtdpbobkcbakpfaaGreatDoor
open Go Go.Ab
set_option maxRecDepth 100000
theorem sC.more {d:D} {h:Hp} {nx nx' did did':Nat} {acc:List Sp} (ho:sC d h nx acc did) (hn:nx≤nx') (hd:nx≤did'∨did'=did):sC d h nx' acc did':=by
 rcases ho with ho | ⟨h1,id,ver,h2,h3,h4⟩
 ·exact .inl ho
 ·exact .inr ⟨h1,id,ver,by omega,by omega,h4⟩
theorem sC.set {d:D} {h:Hp} {nx did j:Nat} {o:O} {acc:List Sp} (ho:sC d h nx acc did) (hj:nx≤j):sC d (h.set j o) nx acc did:=by
 rcases ho with ho | ⟨h1,id,ver,h2,h3,h4,h5,h6,h7,h8⟩
 ·exact .inl ho
 ·have hne:id≠j:=by omega
  refine .inr ⟨h1,id,ver,h2,h3,h4,?_,?_,?_,?_⟩
  ·unfold Ab.alive Hp.set at*; rw[if_neg hne];exact h5
  ·unfold Hp.rows Hp.set at*; rw[if_neg hne];exact h6
  ·unfold Hp.sz Hp.set at*; rw[if_neg hne];exact h7
  ·unfold Hp.shut Hp.set at*; rw[if_neg hne];exact h8
def BIn (x:Sp) (b:List Sp) (bx:Nat) (wP:List Sp) (st:St) (k:Nat) (st1:St):Prop:=
 ∃(j:Nat) (acc:List Sp),k=b.length - j∧j≤b.length∧acc=wP++(b.take j).flatMap (meet x)∧acc.length≤wP.length+j∧st1.tmps 7=st.tmps 7∧Data st1.heap bx 0 #[x]∧st.nx≤st1.nx∧st1.tmps 18=st.tmps 18∧st1.tmps 19=st.tmps 19∧st1.tmps 20= .one (.t (I j))∧
  sC (st1.tmps 5) st1.heap st1.nx acc bx∧st1.tmps 0=st.tmps 0∧st1.tmps 1=st.tmps 1∧st1.tmps 12=st.tmps 12∧st1.tmps 13=st.tmps 13∧st1.tmps 14=st.tmps 14
theorem take_one {b:List Sp} {j:Nat} (h:j<b.length):b.take (j+1)=b.take j++[b[j]]:=by rw[List.take_add_one,List.getElem?_eq_getElem h];rfl
theorem aGH {n:Nat} {A:Exit→St→Prop} {ks:List KF} (x:Sp) (b:List Sp) (bx:Nat) (wP:List Sp) (hlen:wP.length+b.length≤100000) (st:St) (h7:st.tmps 7= .one (.ptr ⟨bx,0,2,0,0⟩)) (hx:Data st.heap bx 0 #[x]) (hbx:bx<st.nx)
  (h18:st.tmps 18= .one (.t (spans b))) (h19:st.tmps 19= .one (.t (I b.length))) (h20:st.tmps 20= .one (.t (I 0))) (h5:sC (st.tmps 5) st.heap st.nx wP bx)
  (K:∀ st':St,sC (st'.tmps 5) st'.heap st'.nx (wP++b.flatMap (meet x)) bx→st.nx≤st'.nx→st'.tmps 0=st.tmps 0→st'.tmps 1=st.tmps 1→st'.tmps 12=st.tmps 12→st'.tmps 13=st.tmps 13→st'.tmps 14=st.tmps 14→cK Tryz.prog n A ks .normal st'):
  W Tryz.prog n (.loop c132b12) (kont Tryz.prog n A (.blk 2::ks)) st:=by
 refine W.dI (fun k st1=>BIn x b bx wP st k st1) b.length
  ⟨0,wP,by simp,by simp,by simp,by simp,rfl,hx,Nat.le_refl _,rfl,rfl,h20,h5,rfl,rfl,rfl,rfl,rfl⟩ ?_
 rintro k st1 ⟨j,acc,hk,hj,hacc,hal,e7,hd,hnx,e18,e19,e20,e5,e0,e1,e12,e13,e14⟩
 rw[h7]at e7;rw[h18]at e18;rw[h19]at e19
 rcases Nat.lt_or_ge j b.length with hlt | hge
 ·have fN:(j:Int)<b.length:=by omega
  have hw:IntKind.i64.wrap ((j:Int)+1)=((j+1:Nat):Int):=aG _ (by omega) (by omega)
  have hr:st1.heap.rows bx=[cell x]:=by rw[hd.rows];rfl
  have hn1:¬ bx=st1.nx+1+2:=by omega
  have hn1':¬ st1.nx+1+2=bx:=by omega
  obtain⟨y,hy⟩:∃ y,y=b[j]:=⟨_,rfl⟩
  have htake:wP++(b.take (j+1)).flatMap (meet x)=acc++meet x y:=by
   rw[hacc,take_one hlt,List.flatMap_append,hy]
   simp
  have hmax:max x.1 y.1=if x.1<y.1 then y.1 else x.1:=by rw[Int.max_def];split<;>split<;>omega
  have hmin:min x.2 y.2=if y.2<x.2 then y.2 else x.2:=by rw[Int.min_def];split<;>split<;>omega
  simp[c132b12,c132r6,c132r7,c132r8,c132r9,e18,e19,e20,spans,hlt,fN,spr,e7,hd.alive,hd.sz,hr,hn1,cell,←hy]
  rw[←hmax,←hmin]
  have hml:(meet x y).length≤1:=by unfold meet;split<;>simp
  have vJ:∀ st':St,st'.tmps 7= .one (.ptr ⟨bx,0,2,0,0⟩)→Data st'.heap bx 0 #[x]→st1.nx≤st'.nx→st'.tmps 18=st1.tmps 18→st'.tmps 19=st1.tmps 19→st'.tmps 20= .one (.t (I ((j+1:Nat):Int)))→sC (st'.tmps 5) st'.heap st'.nx (acc++meet x y) bx→
    st'.tmps 0=st1.tmps 0→st'.tmps 1=st1.tmps 1→st'.tmps 12=st1.tmps 12→st'.tmps 13=st1.tmps 13→st'.tmps 14=st1.tmps 14→∃k',k'<k∧BIn x b bx wP st k' st':=by
   intro st' u7 ud un u18 u19 u20 u5 u0 u1 u12 u13 u14
   refine⟨b.length - (j+1),by omega,j+1,_,rfl,by omega,htake.symm,by simp;omega,by rw[u7,h7],ud,by omega,by rw[u18,e18,h18],by rw[u19,e19,h19],u20,u5,by rw[u0,e0],by rw[u1,e1],by rw[u12,e12],by rw[u13,e13],by rw[u14,e14]⟩
  have hmt:meet x y=if max x.1 y.1≤min x.2 y.2 then[(max x.1 y.1,min x.2 y.2)] else[]:=rfl
  generalize max x.1 y.1=lo at*
  generalize min x.2 y.2=hiV at*
  have hd':∀ o:O,∀o':O,Data ((st1.heap.set (st1.nx+1+2) o).set (st1.nx+1+2) o') bx 0 #[x]:=fun o o'=>(hd.set (by omega)).set (by omega)
  constructor
  ·intro hle
   rw[if_pos hle]at hmt
   rw[hmt]at vJ
   rcases e5 with⟨rfl,e5⟩ | ⟨hne,id,ver,h2,h3,h4,h5',h6,h7',h8⟩
   ·simp[c132r10,c132r11,e5,hw,e20]
    refine vJ _ (by simp[e7]) ((hd' _ _).set (by omega)) (by simp;omega) (by simp) (by simp) (by simp) (.inr ⟨by simp,_,0,?_,?_,by simp;rfl,by simp,?_,by simp,by simp⟩) (by simp) (by simp) (by simp) (by simp) (by simp)
    ·simp<;>omega
    ·omega
    ·rw[dN,if_pos rfl];rfl
   ·have aC9:¬ id=st1.nx+1+2:=by omega
    have vQ:(st1.heap.rows id).length=acc.length:=by rw[h6];simp
    simp[c132r10,c132r11,h4,hw,e20,h5',h7',vQ,aC9]
    refine⟨by omega,vJ _ (by simp[e7]) ((hd' _ _).set (by omega)) (by simp;omega) (by simp) (by simp) (by simp) (.inr ⟨by simp,id,ver+1,by simp;omega,by omega,by simp,by simp,?_,by simp,by simp[h8]⟩) (by simp) (by simp) (by simp) (by simp) (by simp)⟩
    rw[dN,if_pos rfl,h6];simp[cell]
  ·intro hgt
   rw[if_neg (by omega)]at hmt
   rw[hmt]at vJ
   simp[c132r11,hw,e20]
   exact vJ _ (by simp[e7]) (hd' _ _) (by simp;omega) (by simp) (by simp) (by simp) (by simpa using((e5.set (by omega)).set (by omega)).more (by omega) (.inr rfl)) (by simp) (by simp) (by simp) (by simp) (by simp)
 ·have hj':j=b.length:=by omega
  subst hj'
  have fN:¬ (b.length:Int)<b.length:=by omega
  simp at hacc
  simp[c132b12,c132r6,e19,e20]
  exact K _ (by rw[←hacc];exact e5.more (by simp) (.inr rfl)) (by simp;omega) (by simp[e0]) (by simp[e1]) (by simp[e12]) (by simp[e13]) (by simp[e14])
def aU3 (a b:List Sp) (k:Nat) (st1:St):Prop:=
 ∃(i:Nat),k=a.length - i∧i≤a.length∧st1.tmps 0= .one (.t (spans a))∧st1.tmps 1= .one (.t (spans b))∧st1.tmps 12= .one (.t (spans a))∧st1.tmps 13= .one (.t (I a.length))∧st1.tmps 14= .one (.t (I i))∧
  sC (st1.tmps 5) st1.heap st1.nx (dF (a.take i) b) st1.nx
theorem aJ2 {x y:Sp}:(meet x y).length≤1:=by unfold meet;split<;>simp
theorem yO (x:Sp):∀ b:List Sp,(b.flatMap (meet x)).length≤b.length
 | []=>by simp
 | y::b=>by
  have h1:=yO x b
  have h2:=aJ2 (x:=x) (y:=y)
  rw[List.flatMap_cons,List.length_append,List.length_cons];omega
theorem yP (b:List Sp):∀ a:List Sp,(dF a b).length≤a.length*b.length
 | []=>by simp[dF]
 | x::a=>by
  have h1:=yP b a
  have h2:(b.flatMap fun y=>meet x y).length≤b.length:=yO x b
  unfold dF at*
  rw[List.flatMap_cons,List.length_append,List.length_cons,Nat.add_mul]
  simp only[Nat.one_mul]at*
  omega
theorem aJ3 {a b:List Sp} (ha:∀ x∈a,bad x=false) (hb:∀ x∈b,bad x=false):∀ z∈dF a b,bad z=false:=by
 intro z hz
 obtain⟨x,hx,hz⟩:=List.mem_flatMap.1 hz
 obtain⟨y,hy,hz⟩:=List.mem_flatMap.1 hz
 have h1:=ha x hx
 have h2:=hb y hy
 unfold meet at hz
 split at hz
 ·rename_i h
  simp at hz
  subst hz
  simp[bad]at h1 h2 ⊢
  omega
 ·cases hz
theorem aQQ (a b:List Sp) (hs:(dF a b).length≤100000) (ha:a.length≤300) (hb:b.length≤300) (hoa:∀ x∈a,bad x=false) (hob:∀ x∈b,bad x=false):PSp Tryz.prog 132 [.one (.t (spans a)),.one (.t (spans b))] (.one (.t (spans (cH (dF a b))))):=by
 refine k132.aH (by simp) rfl rfl ?_
 simp[c132,c132r0,c132r1,c132r2,spans]
 have hbl:∀ i,i≤a.length→(dF (a.take i) b).length+b.length≤100000:=fun i hi=>by
  have h1:=yP b (a.take i)
  have h2:(a.take i).length*b.length≤300*300:=Nat.mul_le_mul (by rw[List.length_take];omega) hb
  omega
 refine W.dI (fun k st=>aU3 a b k st) a.length ⟨0,by simp,by simp,by simp[spans],by simp[spans],by simp[spans],by simp,by simp,.inl ⟨by simp[dF],by simp⟩⟩ ?_
 rintro k st ⟨i,hk,hi,h0,h1,h12,h13,h14,h5⟩
 rcases Nat.lt_or_ge i a.length with hlt | hge
 ·have fN:(i:Int)<a.length:=by omega
  have hw:IntKind.i64.wrap ((i:Int)+1)=((i+1:Nat):Int):=aG _ (by omega) (by omega)
  obtain⟨x,hx⟩:∃ x,x=a[i]:=⟨_,rfl⟩
  simp[c132b14,c132r3,c132r4,c132r5,h1,h12,h13,h14,hlt,fN,spans,spr,←hx]
  refine aGH x b (st.nx+1+2) (dF (a.take i) b) (hbl i hi) _ (by simp) ⟨by simp,?_,by simp,by simp⟩ (by simp<;>omega) (by simp[spans]) (by simp) (by simp) (by simpa using((h5.set (by omega)).set (by omega)).more (by omega) (.inl (by omega))) fun st' u5 un u0 u1 u12 u13 u14=>?_
  ·rw[dN,if_pos rfl];simp[cell]
  simp[h0,h1,h12,h13,h14]at u0 u1 u12 u13 u14
  simp[c132r12,u14,hw]
  refine⟨a.length - (i+1),by omega,i+1,rfl,by omega,by simp[u0],by simp[u1],by simp[u12],by simp[u13],by simp,?_⟩
  have e:dF (a.take (i+1)) b=dF (a.take i) b++b.flatMap (meet x):=by
   rw[take_one hlt];unfold dF;rw[List.flatMap_append,hx];simp
  rw[e]
  simpa using u5.more (by simp) (.inl (by simp))
 ·have hi':i=a.length:=by omega
  subst hi'
  have fN:¬ (a.length:Int)<a.length:=by omega
  simp at h5
  have hN:=tU (dF a b) hs (aJ3 hoa hob)
  simp[c132b14,c132r3,h13,h14,c132r13]
  rcases h5 with⟨e,h5⟩ | ⟨_,id,ver,_,_,h5,q1,q2,q3,q4⟩
  ·rw[e]at hN ⊢
   rw[h5]
   refine aD.pure hN (by simp) (by simp[spans]) ?_
   simp[aB,spans]
  ·have e1:((dF a b).map spr).length=(dF a b).length:=by simp
   rw[h5,←e1]
   have q2':st.heap.rows id=((dF a b).map spr).map (·.map .t):=by rw[q2,List.map_map];rfl
   refine aD.pure hN (by simpa using jI q1 q3 q2') (by simp only[List.map_cons,List.map_nil,D.frz,lW q2',spans]) ?_
   simp[aB,spans]
end Go.Proofs.YtdpbobkcbakpfaaGreatDoor

namespace Go.Proofs.YtdpbobkcbakpfaaGreatDoor
open Go Go.Ab
set_option maxRecDepth 100000
theorem Data.congr {h h':Hp} {id ver:Nat} {d:Array Sp} (hd:Data h id ver d) (e:h' id=h id):Data h' id ver d:=by
 obtain⟨a,b,c,f⟩:=hd
 refine⟨?_,?_,?_,?_⟩
 ·unfold Ab.alive at*; rw[e];exact a
 ·unfold Hp.rows at*; rw[e];exact b
 ·unfold Hp.sz at*; rw[e];exact c
 ·unfold Hp.shut at*; rw[e];exact f
def tK (d:D) (h:Hp) (nx:Nat) (acc:List Sp) (base did:Nat):Prop:=
 (acc=[]∧d= .one (.tt 2 []))∨(acc≠[]∧∃id ver,base≤id∧id<nx∧id≠did∧d= .one (.ref id ver 0 acc.length 2 false)∧alive h id ver∧h.rows id=acc.map cell∧h.sz id=2∧h.shut id=false)
theorem tK.more {d:D} {h:Hp} {nx nx' base did did':Nat} {acc:List Sp} (ho:tK d h nx acc base did) (hn:nx≤nx') (hd:nx≤did'∨did'<base∨did'=did):tK d h nx' acc base did':=by
 rcases ho with ho | ⟨h1,id,ver,h2,h3,h4⟩
 ·exact .inl ho
 ·exact .inr ⟨h1,id,ver,h2,by omega,by omega,h4.2⟩
theorem tK.set {d:D} {h:Hp} {nx base did j:Nat} {o:O} {acc:List Sp} (ho:tK d h nx acc base did) (hj:nx≤j):tK d (h.set j o) nx acc base did:=by
 rcases ho with ho | ⟨h1,id,ver,h2,h3,h3',h4,h5,h6,h7,h8⟩
 ·exact .inl ho
 ·have hne:id≠j:=by omega
  refine .inr ⟨h1,id,ver,h2,h3,h3',h4,?_,?_,?_,?_⟩
  ·unfold Ab.alive Hp.set at*; rw[if_neg hne];exact h5
  ·unfold Hp.rows Hp.set at*; rw[if_neg hne];exact h6
  ·unfold Hp.sz Hp.set at*; rw[if_neg hne];exact h7
  ·unfold Hp.shut Hp.set at*; rw[if_neg hne];exact h8
theorem bG {h:Hp} {j id:Nat} {o:O} (hne:id≠j):(h.set j o) id=h id:=by simp[Hp.set,hne]
structure aE5 (x y:Sp) (bx bY base:Nat) (acc:List Sp) (h:Hp) (nx:Nat) (tm:Nat→D):Prop where
 t9:tm 9= .one (.ptr ⟨bx,0,2,0,0⟩)
 t6:tm 6= .one (.ptr ⟨bY,0,2,0,0⟩)
 dx:Data h bx 0 #[x]
 dy:Data h bY 0 #[y]
 bxb:base≤bx
 bxn:bx<nx
 byb:bY<base
 out:tK (tm 7) h nx acc base bx
 len:acc.length≤100000
def nY (tm tm':Nat→D):Prop:=tm' 1=tm 1∧tm' 6=tm 6∧tm' 10=tm 10∧tm' 11=tm 11∧tm' 12=tm 12∧tm' 16=tm 16∧tm' 17=tm 17∧tm' 18=tm 18∧tm' 9=tm 9
theorem aU4 {n:Nat} {A:Exit→St→Prop} {ks:List KF} {x y:Sp} {bx bY base:Nat} {acc:List Sp} {tm:Nat→D} {h:Hp} {nx nx':Nat} (cs:aE5 x y bx bY base acc h nx tm) (_hx:bad x=false) (hy:bad y=false) (hnx:nx'=nx+13)
  (K:∀ tm' h',aE5 x y bx bY base (acc++[(x.1,min x.2 (y.1 - 1))]) h' nx' tm'∨100000<acc.length+1→(∀id,id<base→h' id=h id)→nY tm tm'→cK Tryz.prog n A ks .normal ⟨tm',h',nx'⟩):
  hX Tryz.prog false nx c102r9 (nI (kont Tryz.prog n A ks) nx') 0 tm h:=by
 obtain⟨t9,t6,dx,dy,bxb,bxn,byb,out,len⟩:=cs
 have rx:h.rows bx=[cell x]:=by rw[dx.rows];rfl
 have ry:h.rows bY=[cell y]:=by rw[dy.rows];rfl
 simp[bad]at hy
 have hw:IntKind.i64.wrap (y.1 - 1)=y.1 - 1:=wrap_i64 (by omega) (by omega)
 have hmin:(if y.1 - 1<x.2 then y.1 - 1 else x.2)=min x.2 (y.1 - 1):=by rw[Int.min_def];split<;>split<;>omega
 rcases out with⟨rfl,out⟩ | ⟨hne,id,ver,h2,h3,h3',h4,h5,h6,h7,h8⟩
 ·simp[c102r9,t9,t6,dx.alive,dx.sz,rx,dy.alive,dy.sz,ry,cell,hw,hmin,out]
  refine K _ _ (.inl ⟨by simp[t9],by simp[t6],dx.set (by omega),dy.set (by omega),bxb,by omega,byb,.inr ⟨by simp,_,0,?_,?_,?_,by simp;rfl,by simp,?_,by simp,by simp⟩,by simp⟩) (fun id hid=>bG (by omega)) (by simp[nY])
  ·omega
  ·omega
  ·omega
  ·rw[dN,if_pos rfl];rfl
 ·have vQ:(h.rows id).length=acc.length:=by rw[h6];simp
  simp[c102r9,t9,t6,dx.alive,dx.sz,rx,dy.alive,dy.sz,ry,cell,hw,hmin,h4,h5,h7,vQ]
  refine⟨by omega,K _ _ ?_ (fun id hid=>bG (by omega)) (by simp[nY])⟩
  rcases Nat.lt_or_ge 100000 (acc.length+1)with hb | hb
  ·exact .inr hb
  ·refine .inl ⟨by simp[t9],by simp[t6],dx.set (by omega),dy.set (by omega),bxb,by omega,byb,.inr ⟨by simp,id,ver+1,h2,by omega,h3',by simp,by simp,?_,by simp,by simp[h8]⟩,by simpa using hb⟩
   rw[dN,if_pos rfl,h6];simp[cell]
theorem aU5 {n:Nat} {A:Exit→St→Prop} {ks:List KF} {x y:Sp} {bx bY base:Nat} {acc:List Sp} {tm:Nat→D} {h:Hp} {nx nx':Nat} (cs:aE5 x y bx bY base acc h nx tm) (_hx:bad x=false) (hy:bad y=false) (hnx:nx'=nx+13)
  (K:∀ tm' h',aE5 x y bx bY base (acc++[(max x.1 (y.2+1),x.2)]) h' nx' tm'∨100000<acc.length+1→(∀id,id<base→h' id=h id)→nY tm tm'→cK Tryz.prog n A ks .normal ⟨tm',h',nx'⟩):
  hX Tryz.prog false nx c102r11 (nI (kont Tryz.prog n A ks) nx') 0 tm h:=by
 obtain⟨t9,t6,dx,dy,bxb,bxn,byb,out,len⟩:=cs
 have rx:h.rows bx=[cell x]:=by rw[dx.rows];rfl
 have ry:h.rows bY=[cell y]:=by rw[dy.rows];rfl
 simp[bad]at hy
 have hw:IntKind.i64.wrap (y.2+1)=y.2+1:=wrap_i64 (by omega) (by omega)
 have hmax:(if x.1<y.2+1 then y.2+1 else x.1)=max x.1 (y.2+1):=by rw[Int.max_def];split<;>split<;>omega
 rcases out with⟨rfl,out⟩ | ⟨hne,id,ver,h2,h3,h3',h4,h5,h6,h7,h8⟩
 ·simp[c102r11,t9,t6,dx.alive,dx.sz,rx,dy.alive,dy.sz,ry,cell,hw,hmax,out]
  refine K _ _ (.inl ⟨by simp[t9],by simp[t6],dx.set (by omega),dy.set (by omega),bxb,by omega,byb,.inr ⟨by simp,_,0,?_,?_,?_,by simp;rfl,by simp,?_,by simp,by simp⟩,by simp⟩) (fun id hid=>bG (by omega)) (by simp[nY])
  ·omega
  ·omega
  ·omega
  ·rw[dN,if_pos rfl];rfl
 ·have vQ:(h.rows id).length=acc.length:=by rw[h6];simp
  simp[c102r11,t9,t6,dx.alive,dx.sz,rx,dy.alive,dy.sz,ry,cell,hw,hmax,h4,h5,h7,vQ]
  refine⟨by omega,K _ _ ?_ (fun id hid=>bG (by omega)) (by simp[nY])⟩
  rcases Nat.lt_or_ge 100000 (acc.length+1)with hb | hb
  ·exact .inr hb
  ·refine .inl ⟨by simp[t9],by simp[t6],dx.set (by omega),dy.set (by omega),bxb,by omega,byb,.inr ⟨by simp,id,ver+1,h2,by omega,h3',by simp,by simp,?_,by simp,by simp[h8]⟩,by simpa using hb⟩
   rw[dN,if_pos rfl,h6];simp[cell]
theorem aEV {n:Nat} {A:Exit→St→Prop} {ks:List KF} {J:St→Prop} {x y:Sp} {bx bY base:Nat} {acc:List Sp} {tm:Nat→D} {h:Hp} {nx:Nat} {i:Nat} (cs:aE5 x y bx bY base acc h nx tm) (hx:bad x=false) (hy:bad y=false) (hlen:acc.length+2≤100000) (hi:i≤100000) (h18:tm 18= .one (.t (I i)))
  (K:∀ st':St,tK (st'.tmps 7) st'.heap st'.nx (acc++gZ y x) base st'.nx→(∀id,id<base→st'.heap id=h id)→nx≤st'.nx→st'.tmps 1=tm 1→st'.tmps 6=tm 6→st'.tmps 10=tm 10→st'.tmps 11=tm 11→st'.tmps 12=tm 12→st'.tmps 16=tm 16→st'.tmps 17=tm 17→st'.tmps 18= .one (.t (I ((i+1:Nat):Int)))→J st'):
  hX Tryz.prog false nx c102r8 (nI (kont Tryz.prog n A (.thn (.cond (X.tmp 26) (.region 9 false 13 c102r9) .skip):: .thn (.seq (.region 10 false 5 c102r10) (.cond (X.tmp 43) (.region 11 false 13 c102r11) .skip)):: .blk 3:: .thn (.region 12 false 2 c102r12):: .post J::ks)) (nx+5)) 0 tm h:=by
 have cs0:=cs
 obtain⟨t9,t6,dx,dy,bxb,bxn,byb,out,len⟩:=cs
 have rx:h.rows bx=[cell x]:=by rw[dx.rows];rfl
 have ry:h.rows bY=[cell y]:=by rw[dy.rows];rfl
 have hw:IntKind.i64.wrap ((i:Int)+1)=((i+1:Nat):Int):=aG _ (by omega) (by omega)
 -- the second half
 have second:∀ (acc':List Sp) (tm':Nat→D) (h':Hp) (nx':Nat),aE5 x y bx bY base acc' h' nx' tm'→acc'.length≤acc.length+1→(acc'++(if y.2<x.2 then[(max x.1 (y.2+1),x.2)] else[])=acc++gZ y x)→(∀id,id<base→h' id=h id)→nx≤nx'→nY tm tm'→
   hX Tryz.prog false nx' c102r10 (nI (kont Tryz.prog n A (.thn (.cond (X.tmp 43) (.region 11 false 13 c102r11) .skip):: .blk 3:: .thn (.region 12 false 2 c102r12):: .post J::ks)) (nx'+5)) 0 tm' h':=by
  intro acc' tm' h' nx' cs' hl he hk hn kt
  have cs1:=cs'
  obtain⟨t9',t6',dx',dy',_,bxn',_,out',len'⟩:=cs'
  have rx':h'.rows bx=[cell x]:=by rw[dx'.rows];rfl
  have ry':h'.rows bY=[cell y]:=by rw[dy'.rows];rfl
  obtain⟨k1,k6,k10,k11,k12,k16,k17,k18,k9⟩:=kt
  simp[c102r10,t9',t6',dx'.alive,dx'.sz,rx',dy'.alive,dy'.sz,ry',cell]
  constructor
  ·intro hlt
   rw[if_pos hlt]at he
   refine aU5 (acc:=acc') ⟨by simp[t9'],by simp[t6'],dx',dy',bxb,by omega,byb,by simpa using out'.more (by omega) (.inr (.inr rfl)),len'⟩ hx hy rfl fun tm2 h2 c2 hk2 kt2=>?_
   obtain⟨j1,j6,j10,j11,j12,j16,j17,j18,j9⟩:=kt2
   simp at j1 j6 j10 j11 j12 j16 j17 j18
   rcases c2 with c2 | c2
   ·simp[c102r12,j18,k18,h18,hw]
    refine K _ ?_ (fun id hid=>(hk2 id hid).trans (hk id hid)) (by simp;omega) (by simp[j1,k1]) (by simp[j6,k6]) (by simp[j10,k10]) (by simp[j11,k11]) (by simp[j12,k12]) (by simp[j16,k16]) (by simp[j17,k17]) (by simp)
    rw[←he]
    simpa using c2.out.more (by omega) (.inl (by omega))
   ·omega
  ·intro hge
   rw[if_neg (by omega)]at he
   simp[c102r12,k18,h18,hw]
   refine K _ ?_ hk (by simp;omega) (by simp[k1]) (by simp[k6]) (by simp[k10]) (by simp[k11]) (by simp[k12]) (by simp[k16]) (by simp[k17]) (by simp)
   rw[←he]
   simpa using out'.more (by omega) (.inl (by omega))
 simp[c102r8,t9,t6,dx.alive,dx.sz,rx,dy.alive,dy.sz,ry,cell]
 constructor
 ·intro hlt
  refine aU4 (acc:=acc) ⟨by simp[t9],by simp[t6],dx,dy,bxb,by omega,byb,by simpa using out.more (by omega) (.inr (.inr rfl)),len⟩ hx hy rfl fun tm2 h2 c2 hk2 kt2=>?_
  obtain⟨j1,j6,j10,j11,j12,j16,j17,j18,j9⟩:=kt2
  simp at j1 j6 j10 j11 j12 j16 j17 j18 j9
  rcases c2 with c2 | c2
  ·simp
   refine second (acc++[(x.1,min x.2 (y.1 - 1))]) tm2 h2 _ c2 (by simp) (by simp[gZ,hlt]) hk2 (by omega) ⟨j1,j6,j10,j11,j12,j16,j17,j18,j9⟩
  ·omega
 ·intro hge
  have hng:¬ x.1<y.1:=by omega
  exact second acc _ h _ ⟨by simp[t9],by simp[t6],dx,dy,bxb,by omega,byb,by simpa using out.more (by omega) (.inr (.inr rfl)),len⟩ (by omega) (by simp[gZ,hng]) (fun _ _=>rfl) (by omega) (by simp[nY])
theorem Asc.left:∀ {a b:List Sp},Asc (a++b)→Asc a
 | [],_,_=>trivial
 | x::a,b,h=>⟨h.1,fun y hy=>h.2.1 y (by simp[hy]),Asc.left h.2.2⟩
theorem Asc.take {a:List Sp} (h:Asc a) (j:Nat):Asc (a.take j):=Asc.left (b:=a.drop j) (by rw[List.take_append_drop];exact h)
def Cur (d:D) (h:Hp) (base:Nat) (l:List Sp):Prop:=
 d= .one (.t (spans l))∨(l=[]∧d= .one (.tt 2 []))∨∃id ver,id<base∧d= .one (.ref id ver 0 l.length 2 false)∧Data h id ver l.toArray
def CIn (y:Sp) (cur:List Sp) (base:Nat) (st:St) (k:Nat) (st1:St):Prop:=
 ∃j:Nat,k=cur.length - j∧j≤cur.length∧(∀id,id<base→st1.heap id=st.heap id)∧st.nx≤st1.nx∧tK (st1.tmps 7) st1.heap st1.nx (iF (cur.take j) y) base st1.nx∧
  st1.tmps 1=st.tmps 1∧st1.tmps 6=st.tmps 6∧st1.tmps 10=st.tmps 10∧st1.tmps 11=st.tmps 11∧st1.tmps 12=st.tmps 12∧st1.tmps 16=st.tmps 16∧st1.tmps 17=st.tmps 17∧st1.tmps 18= .one (.t (I j))
theorem vS {n:Nat} {A:Exit→St→Prop} {ks:List KF} (y:Sp) (cur:List Sp) (bY base:Nat) (st:St) (hcur:Cur (st.tmps 16) st.heap base cur) (h17:st.tmps 17= .one (.t (I cur.length))) (h18:st.tmps 18= .one (.t (I 0))) (h7:st.tmps 7= .one (.tt 2 []))
  (h6:st.tmps 6= .one (.ptr ⟨bY,0,2,0,0⟩)) (dy:Data st.heap bY 0 #[y]) (byb:bY<base) (hbase:base≤st.nx) (hA:Asc cur) (hok:∀ x∈cur,bad x=false) (hy:bad y=false) (hlen:cur.length≤50000)
  (K:∀ st':St,tK (st'.tmps 7) st'.heap st'.nx (iF cur y) base st'.nx→(∀id,id<base→st'.heap id=st.heap id)→st.nx≤st'.nx→st'.tmps 1=st.tmps 1→st'.tmps 10=st.tmps 10→st'.tmps 11=st.tmps 11→st'.tmps 12=st.tmps 12→cK Tryz.prog n A ks .normal st'):
  W Tryz.prog n (.loop c102b13) (kont Tryz.prog n A (.blk 2::ks)) st:=by
 have hyv:y.1≤y.2:=by simp[bad]at hy;omega
 refine W.dI (fun k st1=>CIn y cur base st k st1) cur.length ⟨0,by simp,by simp,fun _ _=>rfl,Nat.le_refl _,.inl ⟨by simp[iF],h7⟩,rfl,rfl,rfl,rfl,rfl,rfl,rfl,h18⟩ ?_
 rintro k st1 ⟨j,hk,hj,hh,hnx,h7,e1,e6,e10,e11,e12,e16,e17,e18⟩
 rw[h6]at e6;rw[h17]at e17
 rcases Nat.lt_or_ge j cur.length with hlt | hge
 ·have fN:(j:Int)<cur.length:=by omega
  obtain⟨x,hx⟩:∃ x,x=cur[j]:=⟨_,rfl⟩
  have hbx:bad x=false:=hok x (by rw[hx];exact List.getElem_mem hlt)
  have hl:=vP (hA.take j) hyv
  rw[List.length_take]at hl
  have hstep:iF (cur.take j) y++gZ y x=iF (cur.take (j+1)) y:=by
   rw[take_one hlt];unfold iF;rw[List.flatMap_append,hx];simp
  have dy1:Data st1.heap bY 0 #[y]:=dy.congr (hh bY byb)
  have fin:∀ (st':St),tK (st'.tmps 7) st'.heap st'.nx (iF (cur.take j) y++gZ y x) base st'.nx→(∀id,id<base→st'.heap id=st1.heap id)→st1.nx≤st'.nx→st'.tmps 1=st1.tmps 1→st'.tmps 6=st1.tmps 6→st'.tmps 10=st1.tmps 10→st'.tmps 11=st1.tmps 11→st'.tmps 12=st1.tmps 12→st'.tmps 16=st1.tmps 16→st'.tmps 17=st1.tmps 17→st'.tmps 18= .one (.t (I ((j+1:Nat):Int)))→∃k',k'<k∧CIn y cur base st k' st':=by
   intro st' u7 uh un u1 u6 u10 u11 u12 u16 u17 u18
   rw[hstep]at u7
   exact⟨cur.length - (j+1),by omega,j+1,rfl,by omega,fun id hid=>(uh id hid).trans (hh id hid),by omega,u7,u1.trans e1,u6.trans (e6.trans h6.symm),u10.trans e10,u11.trans e11,u12.trans e12,u16.trans e16,u17.trans (e17.trans h17.symm),u18⟩
  have boxed:∀ (d16:D) (tm:Nat→D),st1.tmps 16=d16→tm 9= .one (.ptr ⟨st1.nx+1+2,0,2,0,0⟩)→tm 6=st1.tmps 6→tm 7=st1.tmps 7→
    aE5 x y (st1.nx+1+2) bY base (iF (cur.take j) y) ((st1.heap.set (st1.nx+1+2) (.arr 0 false 2 [[.t (.int .i64 0),.t (.int .i64 0)]])).set (st1.nx+1+2) (.arr 0 false 2 [[.t (I x.1),.t (I x.2)]])) (st1.nx+1+4) tm:=by
   intro d16 tm _ t9 t6 t7
   refine⟨t9,by rw[t6,e6],⟨by simp,?_,by simp,by simp⟩,(dy1.set (by omega)).set (by omega),by omega,by omega,byb,?_,by omega⟩
   ·rw[dN,if_pos rfl];simp[cell]
   ·rw[t7]
    exact((h7.set (by omega)).set (by omega)).more (by omega) (.inl (by omega))
  have keep:∀ id,id<base→((st1.heap.set (st1.nx+1+2) (.arr 0 false 2 [[.t (.int .i64 0),.t (.int .i64 0)]])).set (st1.nx+1+2) (.arr 0 false 2 [[.t (I x.1),.t (I x.2)]])) id=st1.heap id:=fun id hid=>by rw[bG (by omega),bG (by omega)]
  have aQR:Cur (st1.tmps 16) st1.heap base cur:=by
   rw[e16]
   rcases hcur with h | h | ⟨id,ver,q1,q2,q3⟩
   ·exact .inl h
   ·exact .inr (.inl h)
   ·exact .inr (.inr ⟨id,ver,q1,q2,q3.congr (hh id q1)⟩)
  rcases aQR with h | ⟨h,_⟩ | ⟨id,ver,q1,q2,q3⟩
  ·simp[c102b13,c102r6,c102r7,h,e17,e18,spans,hlt,fN,spr,←hx]
   refine aEV (i:=j) (boxed _ _ h (by simp) (by simp) (by simp)) hbx hy (by omega) (by omega) (by simp[e18]) fun st' u7 uh un u1 u6 u10 u11 u12 u16 u17 u18=>?_
   simp at u1 u6 u10 u11 u12 u16 u17
   exact fin st' u7 (fun id hid=>(uh id hid).trans (keep id hid)) (by omega) u1 u6 u10 u11 u12 u16 u17 u18
  ·rw[h]at hlt;simp at hlt
  ·have hja:j<cur.toArray.size:=by simpa using hlt
   have hln:(st1.heap.rows id).length=cur.length:=by rw[q3.rows];simp
   have g1:∀ hh,(st1.heap.rows id)[j]'hh=cell x:=fun hh=>by have:=rowAt q3 hja hh;rw[hx];simpa using this
   simp[c102b13,c102r6,c102r7,q2,e17,e18,hlt,fN,q3.alive,q3.sz,hln,g1,cell]
   refine aEV (i:=j) (boxed _ _ q2 (by simp) (by simp) (by simp)) hbx hy (by omega) (by omega) (by simp[e18]) fun st' u7 uh un u1 u6 u10 u11 u12 u16 u17 u18=>?_
   simp at u1 u6 u10 u11 u12 u16 u17
   exact fin st' u7 (fun id hid=>(uh id hid).trans (keep id hid)) (by omega) u1 u6 u10 u11 u12 u16 u17 u18
 ·have hj':j=cur.length:=by omega
  subst hj'
  have fN:¬ (cur.length:Int)<cur.length:=by omega
  simp at h7
  simp[c102b13,c102r6,e17,e18]
  exact K _ (by simpa using h7.more (by simp) (.inl (by simp))) hh (by simp;omega) (by simp[e1]) (by simp[e10]) (by simp[e11]) (by simp[e12])
def CB (b a:List Sp) (k:Nat) (st:St):Prop:=
 ∃i:Nat,k=b.length - i∧i≤b.length∧Cur (st.tmps 0) st.heap st.nx (bM a (b.take i))∧st.tmps 1= .one (.t (spans b))∧st.tmps 10= .one (.t (spans b))∧st.tmps 11= .one (.t (I b.length))∧st.tmps 12= .one (.t (I i))
theorem aCE {a b:List Sp} (hA:Asc a) (hb:∀ y∈b,y.1≤y.2) (hoa:∀ x∈a,bad x=false):∀ z∈bM a b,bad z=false:=by
 intro z hz
 obtain⟨h1,_,h3⟩:=iD hA hb
 obtain⟨x,hx,h4⟩:=h3 z hz
 have h5:=h1.valid z hz
 have h6:=hoa x hx
 simp[bad]at h6 ⊢
 omega
theorem aJ4 (a b:List Sp) (hs:(bM a b).length≤100000) (ha:a.length≤300) (hb:b.length≤300) (hA:Asc a) (hoa:∀ x∈a,bad x=false) (hob:∀ x∈b,bad x=false):PSp Tryz.prog 102 [.one (.t (spans a)),.one (.t (spans b))] (.one (.t (spans (cH (bM a b))))):=by
 have hvb:∀ y∈b,y.1≤y.2:=fun y hy=>by have:=hob y hy;simp[bad]at this;omega
 have hpart:∀ i,Asc (bM a (b.take i))∧(bM a (b.take i)).length≤600∧∀z∈bM a (b.take i),bad z=false:=fun i=>by
  have hv:∀ y∈b.take i,y.1≤y.2:=fun y hy=>hvb y (List.mem_of_mem_take hy)
  obtain⟨h1,h2,_⟩:=iD (b:=b.take i) hA hv
  refine⟨h1,?_,aCE hA hv hoa⟩
  rw[List.length_take]at h2;omega
 refine k102.aH (by simp) rfl rfl ?_
 simp[c102,c102r0,c102r1,spans]
 refine W.dI (fun k st=>CB b a k st) b.length ⟨0,by simp,by simp,.inl (by simp[bM,spans]),by simp[spans],by simp[spans],by simp,by simp⟩ ?_
 rintro k st ⟨i,hk,hi,hcur,h1,h10,h11,h12⟩
 obtain⟨pA,pl,pok⟩:=hpart i
 rcases Nat.lt_or_ge i b.length with hlt | hge
 ·have fN:(i:Int)<b.length:=by omega
  have hw:IntKind.i64.wrap ((i:Int)+1)=((i+1:Nat):Int):=aG _ (by omega) (by omega)
  obtain⟨y,hy⟩:∃ y,y=b[i]:=⟨_,rfl⟩
  have hby:bad y=false:=hob y (by rw[hy];exact List.getElem_mem hlt)
  have hstep:bM a (b.take (i+1))=iF (bM a (b.take i)) y:=by
   unfold bM;rw[take_one hlt,List.foldl_append,hy];rfl
  obtain⟨cur,hc⟩:∃ cur,cur=bM a (b.take i):=⟨_,rfl⟩
  rw[←hc]at hcur pA pl pok hstep
  have next:∀ st':St,tK (st'.tmps 7) st'.heap st'.nx (iF cur y) (st.nx+1+4+1+3) st'.nx→st'.tmps 1= .one (.t (spans b))→st'.tmps 10= .one (.t (spans b))→st'.tmps 11= .one (.t (I b.length))→st'.tmps 12= .one (.t (I i))→
    cK Tryz.prog 61 (aB [.tmp 4] (.one (.t (spans (cH (bM a b)))))) [.thn (.region 13 false 2 c102r13),.blk 1,.thn (.region 14 false 2 c102r14),.post fun st'=>∃ k',k'<k∧CB b a k' st',.blk 0,.thn (.seq (.region 15 false 3 c102r15) .ret)] .normal st':=by
   intro st' u7 u1 u10 u11 u12
   simp[c102r13,c102r14,u12,hw]
   refine⟨b.length - (i+1),by omega,i+1,rfl,by omega,?_,by simp[u1],by simp[u10],by simp[u11],by simp⟩
   rw[hstep]
   rcases u7 with⟨e,u7⟩ | ⟨_,id,ver,q0,q1,q2,q3,q4,q5,q6,q7⟩
   ·exact .inr (.inl ⟨e,by simp[u7]⟩)
   ·exact .inr (.inr ⟨id,ver,by simp;omega,by simp[q3],⟨q4,by simpa using q5,q6,q7⟩⟩)
  have hnx:st.nx+1+4+1+3=st.nx+9:=by omega
  have dyS:∀ (o:O),Data ((st.heap.set (st.nx+1+2) o).set (st.nx+1+2) (.arr 0 false 2 [[.t (I y.1),.t (I y.2)]])) (st.nx+1+2) 0 #[y]:=fun o=>⟨by simp,by rw[dN,if_pos rfl];simp[cell],by simp,by simp⟩
  rcases hcur with h | ⟨h,h'⟩ | ⟨id,ver,q1,q2,q3⟩
  ·simp[c102b16,c102r2,c102r3,c102r4,c102r5,h,h10,h11,h12,spans,hlt,fN,spr,←hy]
   refine vS y cur (st.nx+1+2) (st.nx+1+4+1+3) _ (.inl (by simp[spans])) (by simp) (by simp) (by simp) (by simp) (dyS _) (by omega) (by simp) pA pok hby (by omega) fun st' u7 uh un u1 u10 u11 u12=>?_
   exact next st' u7 (by rw[u1];simp[h1]) (by rw[u10];simp[h10]) (by rw[u11];simp[h11]) (by rw[u12];simp[h12])
  ·subst h
   simp[c102b16,c102r2,c102r3,c102r4,c102r5,h',h10,h11,h12,spans,hlt,fN,spr,←hy]
   refine vS y [] (st.nx+1+2) (st.nx+1+4+1+3) _ (.inr (.inl ⟨rfl,by simp⟩)) (by simp) (by simp) (by simp) (by simp) (dyS _) (by omega) (by simp) pA pok hby (by simp) fun st' u7 uh un u1 u10 u11 u12=>?_
   exact next st' u7 (by rw[u1];simp[h1]) (by rw[u10];simp[h10]) (by rw[u11];simp[h11]) (by rw[u12];simp[h12])
  ·simp[c102b16,c102r2,c102r3,c102r4,c102r5,q2,h10,h11,h12,spans,hlt,fN,spr,←hy]
   refine vS y cur (st.nx+1+2) (st.nx+1+4+1+3) _ (.inr (.inr ⟨id,ver,by omega,by simp,(q3.set (by omega)).set (by omega)⟩)) (by simp) (by simp) (by simp) (by simp) (dyS _) (by omega) (by simp) pA pok hby (by omega) fun st' u7 uh un u1 u10 u11 u12=>?_
   exact next st' u7 (by rw[u1];simp[h1]) (by rw[u10];simp[h10]) (by rw[u11];simp[h11]) (by rw[u12];simp[h12])
 ·have hi':i=b.length:=by omega
  subst hi'
  have fN:¬ (b.length:Int)<b.length:=by omega
  simp at hcur pl pok
  have hN:=tU (bM a b) hs (fun x hx=>by have:=pok x.1 x.2 hx;simpa using this)
  rcases hcur with h | ⟨h,h'⟩ | ⟨id,ver,q1,q2,q3⟩
  ·simp[c102b16,c102r2,h11,h12,c102r15,h]
   refine aD.pure hN (by simp) (by simp[spans]) ?_
   simp[aB,spans]
  ·rw[h]at hN ⊢
   simp[c102b16,c102r2,h11,h12,c102r15,h']
   refine aD.pure hN (by simp) (by simp[spans]) ?_
   simp[aB,spans]
  ·have e1:((bM a b).map spr).length=(bM a b).length:=by simp
   simp[c102b16,c102r2,h11,h12,c102r15,q2]
   rw[←e1]
   have q2':st.heap.rows id=((bM a b).map spr).map (·.map .t):=by rw[q3.rows,List.map_map];rfl
   refine aD.pure hN (by simpa using jI q3.alive q3.sz q2') (by simp only[List.map_cons,List.map_nil,D.frz,lW q2',spans]) ?_
   simp[aB,spans]
end Go.Proofs.YtdpbobkcbakpfaaGreatDoor

namespace Go.Proofs.YtdpbobkcbakpfaaGreatDoor
open Go Go.Ab
set_option maxRecDepth 100000
theorem aQS (m:Nat) (hm:0<m) (hm2:m≤100000) (h:Hp) (n0:Nat) (ho:aF h n0):
  ISp Tryz.prog 162 h n0 [.one (.tt 2 []),.one (.t (I m))] (.one (.ref n0 1 0 0 2 false)) (aP h n0 1 #[]):=by
 refine k162.aMI (by simp) ?_
 have w0:IntKind.i64.wrap (0:Int)=0:=wrap_i64 (by omega) (by omega)
 have w1:IntKind.i64.wrap (m:Int)=m:=wrap_i64 (by omega) (by omega)
 have hneg:¬ (m:Int)<0:=by omega
 have hpos:(0:Int)<m:=by omega
 simp[c162,c162r0,c162r1,c162r3,c162r4,c162r5,c162r6,hneg,hm,w0,w1,D.aGN,D.tN,D.trunc,D.pX]
 refine⟨⟨by omega,by omega⟩,n0+1+2+8+2+5,.inr rfl,⟨by simp,by simp⟩,⟨.ref (n0+1+2+8+2+5) 1 0 0 2 false,rfl,by simp[A.only],by simp[A.ren,qL]⟩,by omega,fun id hid=>?_,?_,⟨.arr 1 false 2 [],by simp[Hp.set]⟩,fun id hid=>?_,fun id o hid=>?_⟩
 ·simp only[aP,Hp.set];rw[if_neg (by omega),if_neg (by omega),if_neg (by omega)]
 ·simp only[aP,Hp.set,if_true];rfl
 ·simp only[aP,Hp.set];rw[if_neg (by omega)];exact ho.above id (by omega)
 ·simp only[aP,Hp.set]at hid
  split at hid
  ·simp only[Option.some.injEq]at hid;subst hid
   simp[O.below]
  ·exact ho.below id o hid
theorem aNV (h:Hp) (n0:Nat) (ho:aF h n0):ISp Tryz.prog 162 h n0 [.one (.tt 2 []),.one (.t (I 0))] (.one (.tt 2 [])) h:=by
 refine k162.ttK (by simp) ?_
 have w0:IntKind.i64.wrap (0:Int)=0:=wrap_i64 (by omega) (by omega)
 simp[c162,c162r0,c162r1,c162r3,c162r4,c162r6,w0,D.aGN]
 exact⟨.inr rfl,⟨by simp,by simp⟩,rfl,⟨2,[],rfl⟩,fun _ _=>rfl,ho.above,ho.below⟩
def lists (ls:List (List Sp)):T:= .rows 1 (ls.map fun l=>[spans l])
def aQT (d:D) (h:Hp) (nx:Nat) (acc:List Sp) (tot:Nat):Prop:=
 (tot=0∧acc=[]∧d= .one (.tt 2 []))∨(0<tot∧∃id ver,id<nx∧d= .one (.ref id ver 0 acc.length 2 false)∧Data h id ver acc.toArray)
def CC1 (ls:List (List Sp)) (k:Nat) (st:St):Prop:=
 ∃i:Nat,k=ls.length - i∧i≤ls.length∧st.heap=iL∧st.tmps 0= .one (.t (lists ls))∧st.tmps 9= .one (.t (lists ls))∧st.tmps 10= .one (.t (I ls.length))∧st.tmps 11= .one (.t (I i))∧st.tmps 3= .one (.t (I ((ls.take i).flatten.length:Nat)))
def CC2 (ls:List (List Sp)) (k:Nat) (st:St):Prop:=
 ∃i:Nat,k=ls.length - i∧i≤ls.length∧st.tmps 25= .one (.t (lists ls))∧st.tmps 26= .one (.t (I ls.length))∧st.tmps 27= .one (.t (I i))∧aQT (st.tmps 6) st.heap st.nx (ls.take i).flatten ls.flatten.length
theorem yQ {b:List (List Sp)} {j:Nat} (h:j<b.length):(b.take (j+1)).flatten=(b.take j).flatten++b[j]:=by rw[List.take_add_one,List.getElem?_eq_getElem h,List.flatten_append];simp
theorem rC (ls:List (List Sp)) (i:Nat):(ls.take i).flatten.length≤ls.flatten.length:=by
 have:=congrArg List.length (congrArg List.flatten (List.take_append_drop i ls))
 rw[List.flatten_append,List.length_append]at this
 omega
theorem aLN (ls:List (List Sp)) (hl:ls.flatten.length≤100000) (hl2:ls.length≤100000):PSp Tryz.prog 131 [.one (.t (lists ls))] (.one (.t (spans ls.flatten))):=by
 refine k131.aH (by simp) rfl rfl ?_
 simp[c131,c131r0,c131r1,c131r2,lists]
 refine W.dI (fun k st=>CC1 ls k st) ls.length ⟨0,by simp,by simp,by simp,by simp[lists],by simp[lists],by simp,by simp,by simp⟩ ?_
 rintro k st ⟨i,hk,hi,hh,h0,h9,h10,h11,h3⟩
 have hpi:=rC ls i
 rcases Nat.lt_or_ge i ls.length with hlt | hge
 ·have fN:(i:Int)<ls.length:=by omega
  have aNW:=rC ls (i+1)
  have hstep:=yQ hlt
  obtain⟨l,hle⟩:∃ l,l=ls[i]:=⟨_,rfl⟩
  obtain⟨t,ht⟩:∃ t:Nat,t=(ls.take i).flatten.length:=⟨_,rfl⟩
  obtain⟨t1,ht1⟩:∃ t:Nat,t=(ls.take (i+1)).flatten.length:=⟨_,rfl⟩
  have hsum:t1=t+l.length:=by rw[ht1,hstep,List.length_append,ht,hle]
  rw[←ht]at h3 hpi
  rw[←ht1]at aNW
  have hw:IntKind.i64.wrap ((i:Int)+1)=((i+1:Nat):Int):=aG _ (by omega) (by omega)
  have hw2:IntKind.i64.wrap ((t:Int)+l.length)=(t1:Int):=aG _ (by omega) (by omega)
  have hng:¬ (t1:Int)<0:=by omega
  simp[c131b9,c131r3,c131r4,c131r5,c131r6,c131r8,h9,h10,h11,h3,lists,hlt,fN,←hle,spans,hw,hw2,hng]
  exact⟨ls.length - (i+1),by omega,i+1,rfl,by omega,by simp[hh],by simp[h0,lists],by simp[h9,lists],by simp[h10],by simp,by simp[ht1]⟩
 ·have hi':i=ls.length:=by omega
  subst hi'
  have fN:¬ (ls.length:Int)<ls.length:=by omega
  rw[List.take_length]at h3
  obtain⟨t,ht⟩:∃ t:Nat,t=ls.flatten.length:=⟨_,rfl⟩
  rw[←ht]at h3 hl
  have ho0:∀ n,aF iL n:=fun n=>⟨fun _ _=>rfl,fun id o h=>by cases h⟩
  have after:∀ (d:D) (g:Hp) (tm:Nat→D) (nx:Nat),tm 0= .one (.t (lists ls))→tm 6=d→aQT d g nx [] t→
    aX Tryz.prog 36 (aB [.tmp 2] (.one (.t (spans ls.flatten)))) (.seq (.seq (.region 10 false 3 c131r10) (.block 2 (.loop c131b16))) (.seq (.region 15 false 2 c131r15) .ret)) [] ⟨tm,g,nx⟩:=by
   intro d g tm nx u0 u6 uo
   simp[c131r10,u0,lists]
   refine W.dI (fun k st=>CC2 ls k st) ls.length ⟨0,by simp,by simp,by simp[lists],by simp,by simp,?_⟩ ?_
   ·rw[←ht]
    rcases uo with⟨a,b,c⟩ | ⟨a,id,ver,b,c,e⟩
    ·exact .inl ⟨a,by simp,by simp[u6,c]⟩
    ·exact .inr ⟨a,id,ver,by simp;omega,by simp[u6,c],by simpa using e⟩
   rintro k st2 ⟨i,hk,hi,h25,h26,h27,h6⟩
   have hpi:=rC ls i
   rcases Nat.lt_or_ge i ls.length with hlt | hge
   ·have fN:(i:Int)<ls.length:=by omega
    have aNW:=rC ls (i+1)
    have hstep:=yQ hlt
    obtain⟨l,hle⟩:∃ l,l=ls[i]:=⟨_,rfl⟩
    rw[←hle]at hstep
    obtain⟨acc,hacc⟩:∃ acc,acc=(ls.take i).flatten:=⟨_,rfl⟩
    rw[←hacc]at h6 hstep hpi
    rw[hstep,List.length_append]at aNW
    have hw:IntKind.i64.wrap ((i:Int)+1)=((i+1:Nat):Int):=aG _ (by omega) (by omega)
    rcases h6 with⟨a,b,c⟩ | ⟨a,id,ver,b,c,e⟩
    ·have hlz:l=[]:=List.eq_nil_of_length_eq_zero (by omega)
     rw[hlz]at hle hstep
     simp[c131b16,c131r11,c131r12,c131r13,c131r14,h25,h26,h27,c,lists,hlt,fN,←hle,spans,hw]
     exact⟨ls.length - (i+1),by omega,i+1,rfl,by omega,by simp[h25,lists],by simp[h26],by simp,.inl ⟨a,by rw[hstep];simp[b],by simp⟩⟩
    ·have hln:(st2.heap.rows id).length=acc.length:=by rw[e.rows];simp
     simp[c131b16,c131r11,c131r12,c131r13,c131r14,h25,h26,h27,c,lists,hlt,fN,←hle,spans,hw,e.alive,e.sz,hln]
     refine⟨by omega,ls.length - (i+1),by omega,i+1,rfl,by omega,by simp[h25,lists],by simp[h26],by simp,.inr ⟨a,id,ver+1,by simp;omega,by rw[hstep];simp,⟨by simp,?_,by simp,by simp[e.open_]⟩⟩⟩
     rw[dN,if_pos rfl,e.rows,hstep]
     simp[cell,spr]
   ·have hi':i=ls.length:=by omega
    subst hi'
    have fN:¬ (ls.length:Int)<ls.length:=by omega
    rw[List.take_length]at h6
    simp[c131b16,c131r11,h26,h27,c131r15,aB]
    rcases h6 with⟨a,b,c⟩ | ⟨a,id,ver,b,c,e⟩
    ·rw[c,b];simp[spans]
    ·have e1:(ls.flatten.map spr).length=ls.flatten.length:=List.length_map _
     rw[c,←e1]
     have q2':st2.heap.rows id=(ls.flatten.map spr).map (·.map .t):=by rw[e.rows,List.map_map];rfl
     refine⟨jI e.alive e.sz q2',?_⟩
     simp only[lW q2',spans]
  by_cases ht0:t=0
  ·subst ht0
   have h3':st.tmps 3= .one (.t (I 0)):=by rw[h3];rfl
   simp[c131b9,c131r3,h10,h11,c131r9,h3',hh]
   refine aD.imp (aNV iL _ (ho0 _)) ?_
   simp only[uG]
   exact after (.one (.tt 2 [])) _ _ _ h0 rfl (.inl ⟨rfl,rfl,rfl⟩)
  ·simp[c131b9,c131r3,h10,h11,c131r9,h3,hh]
   refine aD.imp (aQS t (by omega) (by omega) iL _ (ho0 _)) ?_
   simp only[uG]
   exact after (.one (.ref _ 1 0 0 2 false)) _ _ _ h0 rfl (.inr ⟨by omega,_,1,by omega,rfl,bC⟩)
theorem aNX (a b:List Sp) (hs:a.length+b.length≤100000) (hoa:∀ x∈a,bad x=false) (hob:∀ x∈b,bad x=false):PSp Tryz.prog 86 [.one (.t (I 0)),.one (.t (spans a)),.one (.t (spans b))] (.one (.t (spans (cH (a++b))))):=by
 refine k86.aH (by simp) rfl rfl ?_
 simp[c86,c86r0,c86r1,c86r2,c86r3,spans]
 have hc:=aLN [a,b] (by simp;omega) (by simp)
 simp[spans]at hc
 refine aD.pure hc (by simp) (by simp[lists,spans]) ?_
 have hn:=tU (a++b) (by simp;omega) (fun x hx=>by rcases List.mem_append.1 hx with h | h;exact hoa x h;exact hob x h)
 simp[spans]at hn
 simp
 refine aD.pure hn (by simp) (by simp) ?_
 simp[aB]
end Go.Proofs.YtdpbobkcbakpfaaGreatDoor

namespace Go.Proofs.YtdpbobkcbakpfaaGreatDoor
open Go Go.Ab
set_option maxRecDepth 100000
set_option maxHeartbeats 4000000
attribute [local simp] bH aM aS aJ aW aN bB tyC fdC vlC ndC aL D.cV D.pt
theorem aJ5 {bg:List Nat} {i:Nat} {x:Nd} (N:xW bg i x.args) {k:Nat} (h:k<x.args.length):x.args[k]? =some ((aT x k:Nat):Int):=by
 obtain⟨c,c1,_,_⟩:=N.arg _ (List.getElem_mem h)
 simp only[aT,List.getD_eq_getElem?_getD,List.getElem?_eq_getElem h,Option.getD_some,c1]
 simp
end Go.Proofs.YtdpbobkcbakpfaaGreatDoor

namespace Go.Proofs.YtdpbobkcbakpfaaGreatDoor
open Go Go.Ab
set_option maxRecDepth 100000
set_option maxHeartbeats 4000000
attribute [local simp] bH aM aS aJ aW aN bB tyC fdC vlC ndC aL D.cV D.pt
attribute [local simp] c80 in
theorem P80 (t:Ty) (hn:t.narrow=true):PSp Tryz.prog 80 [.agg (tyC t)] (.one (.t (I (fZ t).2))):=by
 refine k80.aH (by simp) (by simp[D.closed,A.closed]) rfl ?_
 have p:=P14 t hn
 generalize fZ t=R at*
 simp -implicitDefEqProofs [-aA,-gval]
 refine aD.tree p rfl ?_
 simp -implicitDefEqProofs [-aA,-gval,aB]
attribute [local simp] c29 in
theorem P29 (t:Ty) (hn:t.narrow=true):PSp Tryz.prog 29 [.agg (tyC t)] (.one (.t (I (pS t).2))):=by
 refine k29.aH (by simp) (by simp[D.closed,A.closed]) rfl ?_
 have p:=P16 t hn
 generalize pS t=R at*
 simp -implicitDefEqProofs [-aA,-gval]
 refine aD.tree p rfl ?_
 simp -implicitDefEqProofs [-aA,-gval,aB]
def aEW:List Sp:=[(-1152921504606846976,1152921504606846976)]
def yR (t:Ty):List Sp:=if t.limits.length==0 then(if t.kind==2 then aEW else[(0,40)])else spL t.limits t.limits.length (t.limits.length - 1)
end Go.Proofs.YtdpbobkcbakpfaaGreatDoor

namespace Go.Proofs.YtdpbobkcbakpfaaGreatDoor
open Go Go.Ab
set_option maxRecDepth 100000
set_option maxHeartbeats 4000000
attribute [local simp] bH aM aS aJ aW aN bB tyC fdC vlC ndC aL D.cV D.pt
def tV (t:Ty) (v:Vl):Int:=if(pS t).2 != 0 then(pS t).2 else if v.bP != 0 then v.bP else if nX t v then 0 else 17
attribute [local simp] c25 in
theorem P25 (t:Ty) (hn:t.narrow=true) (v:Vl) (hv:v.fine) (hvs:v.s.size≤1000000):PSp Tryz.prog 25 [.agg (tyC t),.agg (vlC v)] (.one (.t (I (tV t v)))):=by
 have p29:=P29 t hn
 have p75:=P75 v hv
 have p76:=P76 t v hvs
 have eR:tV t v=if(pS t).2 != 0 then(pS t).2 else if v.bP != 0 then v.bP else if nX t v then 0 else 17:=rfl
 rw[eR]
 generalize (pS t).2=e at*
 generalize v.bP=f at*
 generalize nX t v=b at*
 have w1:IntKind.i64.wrap 17=17:=by decide
 have w0:IntKind.i64.wrap 0=0:=by decide
 refine k25.aH (by simp) (by simp[D.closed,A.closed]) rfl ?_
 simp -implicitDefEqProofs [-aA,-gval]
 refine aD.tree p29 rfl ?_
 rcases eqCases e 0 with z | z
 ·simp -implicitDefEqProofs [-aA,-gval,z]
  refine aD.tree p75 rfl ?_
  rcases eqCases f 0 with y | y
  ·simp -implicitDefEqProofs [-aA,-gval,y]
   refine aD.tree p76 rfl ?_
   simp -implicitDefEqProofs [-aA,-gval]
   refine aD.tree (P19 _) rfl ?_
   cases b<;>simp -implicitDefEqProofs [-aA,-gval,w0,w1,aB]
  ·simp -implicitDefEqProofs [-aA,-gval,y,aB]
 ·simp -implicitDefEqProofs [-aA,-gval,z,aB]
end Go.Proofs.YtdpbobkcbakpfaaGreatDoor

namespace Go.Proofs.YtdpbobkcbakpfaaGreatDoor
open Go Go.Ab
set_option maxRecDepth 100000
set_option maxHeartbeats 4000000
attribute [local simp] bH aM aS aJ aW aN bB tyC fdC vlC ndC aL D.cV D.pt
theorem aJ6 (v:Vl):v.row.map A.t=vlC v:=by
 cases v;rw[Vl.row,cU];rfl
attribute [local simp] c118 in
theorem aU6 (v:Vl) (hv:v.fine):PSp Tryz.prog 118 [.agg (vlC v)] (.one (.t (I v.bP))):=by
 have k145:=uQ v hv
 rw[aJ6]at k145
 refine k118.aH (by simp) (by simp[D.closed,A.closed]) rfl ?_
 have e0:v.bP=if(v.sz 8 (120,false)).2 then 2 else v.eQ:=by rw[Vl.bP,Vl.rW]
 rw[e0]
 simp -implicitDefEqProofs [-aA,-gval]
 refine aD.imp (ISp.ok fun ho=>k145 _ _ _ 8 (120,false) ho (by simp[qQ,wJ])) ?_
 obtain⟨⟨s1,s2⟩,hs⟩:∃ s,v.sz 8 (120,false)=s:=⟨_,rfl⟩
 rw[hs]
 cases s2
 ·simp -implicitDefEqProofs [-aA,-gval,dJ,hs]
  refine aD.tree (aPA v hv) rfl ?_
  simp -implicitDefEqProofs [-aA,-gval,aB]
 ·simp -implicitDefEqProofs [-aA,-gval,dJ,hs,aB]
attribute [local simp] c123 in
theorem aU7 (l:List Sp) (c:Int) (hl:l.length≤1000000) (hc:0≤c∧c≤255) (h:Hp) (id:Nat) (e:h id=some (.arr 0 false 1 [[.t (spans l)]])) (n0:Nat):
  ISp Tryz.prog 123 h n0 [.one (.t (.int .u8 c)),.one (.ptr ⟨id,0,1,0,0⟩)] (.one (.t (.bool (!inS l c)))) h:=by
 refine ISp.ok fun ho=>?_
 have h1:=fC ho e
 have aG3:=aNC l c (by simp only[short];omega)
 refine k123.fR (by simp) ?_
 obtain⟨o1,o2,o3,o4⟩:=aI e
 have hcv:D.cF .i64 (.one (.t (.int .u8 c)))= .one (.t (I c)):=by
  have:IntKind.i64.wrap c=c:=wrap_i64 (by omega) (by omega)
  simp[D.cF,this]
 simp -implicitDefEqProofs [-aA,-gval,o1,o2,o3,hcv]
 refine aD.tree aG3 rfl ?_
 simp -implicitDefEqProofs [-aA,-gval]
 exact cY (.inr rfl) (by exact rfl) (fun j hj=>by simp) ho
def dZ (v:Vl):Int:=if v.kind==10||v.kind==11 then(v.items.length:Int)else(v.s.size:Int)
attribute [local simp] c121r0 c121r1 c121r2 c121r3 c121 in
theorem aU8 (v:Vl):PSp Tryz.prog 121 [.agg (vlC v)] (.one (.t (I (dZ v)))):=by
 rw[dZ]
 obtain⟨a,ea⟩:∃ a,(v.kind==10)=a:=⟨_,rfl⟩
 obtain⟨b,eb⟩:∃ a,(v.kind==11)=a:=⟨_,rfl⟩
 rw[ea,eb]
 refine k121.aH (by simp) (by simp[D.closed,A.closed]) rfl ?_
 cases a<;>cases b<;>simp -implicitDefEqProofs [-aA,-gval,ea,eb,aB]
def jP (l:List Nd):Int×Bool:=if l.length==0 then(-1,false)else((dG l:Nat),match l[l.length - 1]? with | some x=>x.k==7 | none=>false)
attribute [local simp] c74 in
theorem P74 {l:List Nd} {bg:List Nat} (T:eX l bg) (hok:∀ x∈l,x.ok=true) (hl:l.length≤20):PSp Tryz.prog 74 [.one (.t (aJ l))] (.tup [.one (.t (I (jP l).1)),.one (.t (.bool (jP l).2))]):=by
 refine k74.aH (by simp) rfl rfl ?_
 by_cases z:l.length=0
 ·have zl:l=[]:=List.length_eq_zero_iff.1 z
  subst zl
  simp -implicitDefEqProofs [-aA,-gval,aB,jP]
 ·have zI:((l.length:Int)==0)=false:=by simpa using z
  obtain⟨m,hm⟩:∃ m:Nat,l.length - 1=m:=⟨_,rfl⟩
  have hml:m<l.length:=by omega
  have hx:l[m]? =some (l[m]'hml):=List.getElem?_eq_getElem _
  generalize l[m]'hml=x at hx
  have N:=T.node m x hx
  have hmI:(m:Int)<(l.length:Int):=by omega
  have hw:IntKind.i64.wrap ((l.length:Int) - 1)=(m:Int):=by rw[wrap_i64 (by omega) (by omega)];omega
  obtain⟨r1,r2,r3,r4⟩:=fS (hok x (List.mem_of_getElem? hx))
  have er:jP l=(((if x.k==7 then aT x 0 else m:Nat):Int),x.k==7):=by
   have zN:(l.length==0)=false:=by simpa using z
   simp[jP,zN,dG,hm,hx]
  rw[er]
  rcases eqCases x.k 7 with k7 | k7
  ·have pos:=(r4 (by omega) (by omega)).1
   have a0:=iS N pos
   have l0:(0:Int)<(x.args.length:Int):=by omega
   simp -implicitDefEqProofs [-aA,-gval,zI,hw,hml,hmI,aE hx,Nd.row,k7,pos,aE a0,aB,-List.getElem_map]
  ·simp -implicitDefEqProofs [-aA,-gval,zI,hw,hml,hmI,aE hx,Nd.row,k7,aB,-List.getElem_map]
end Go.Proofs.YtdpbobkcbakpfaaGreatDoor

namespace Go.Proofs.YtdpbobkcbakpfaaGreatDoor
open Go Go.Ab
set_option maxRecDepth 100000
set_option maxHeartbeats 4000000
attribute [local simp] bH aM aS aJ aW aN bB tyC fdC vlC ndC aL D.cV D.pt
def oM:List Int:=[0,1,2,3,4,5,6,7,8,9,11,12,13,14,16]
def oV (t:Ty) (v:Vl):Bool:=(v.kind==9&&t.kind==10)||(oM.getD v.kind.toNat 0==t.kind&&(t.kind != 6|| !(chars v.s).any fun c=> !inS (alpha t.name) c))
attribute [local simp] c119 in
theorem aU9 (t:Ty) (v:Vl) (hvs:v.s.size≤1000000) (hk:0≤v.kind∧v.kind≤14):PSp Tryz.prog 119 [.agg (tyC t),.agg (vlC v)] (.one (.t (.bool (oV t v)))):=by
 obtain⟨R0,hR0⟩:∃ R,oV t v=R:=⟨_,rfl⟩
 rw[hR0]
 have aI9:=aQA t.name v.s (by omega)
 obtain⟨m,hm⟩:∃ m:Nat,v.kind=(m:Int):=⟨v.kind.toNat,by omega⟩
 have aJ7:m<15:=by omega
 have hmI:(m:Int)<15:=by omega
 obtain⟨y,hy⟩:∃ y,oM[m]? =some y:=⟨_,List.getElem?_eq_getElem (by simpa[oM]using aJ7)⟩
 have hyD:oM.getD v.kind.toNat 0=y:=by
  have:v.kind.toNat=m:=by omega
  rw[this,List.getD_eq_getElem?_getD,hy];rfl
 obtain⟨i,ei⟩:∃ i,(!(chars v.s).any fun c=> !inS (alpha t.name) c)=i:=⟨_,rfl⟩
 rw[ei]at aI9
 have e1:R0=((v.kind==9&&t.kind==10)||(y==t.kind&&(t.kind != 6||i))):=by rw[←hR0,oV,hyD,ei]
 have hrow:∀ hh,(oM.map fun a=>[I a])[m]'hh=[I y]:=fun hh=>aE hy hh
 obtain⟨a,ea⟩:∃ a,(v.kind==9)=a:=⟨_,rfl⟩
 obtain⟨b,eb⟩:∃ a,(t.kind==10)=a:=⟨_,rfl⟩
 obtain⟨c,ec⟩:∃ a,(y==t.kind)=a:=⟨_,rfl⟩
 obtain⟨d,ed⟩:∃ a,(t.kind != 6)=a:=⟨_,rfl⟩
 rw[ea,eb,ec,ed]at e1
 rw[hm]at ea
 clear hR0 ei hyD
 refine k119.aH (by simp) (by simp[D.closed,A.closed]) rfl ?_
 have hrow':∀ hh,([[I 0],[I 1],[I 2],[I 3],[I 4],[I 5],[I 6],[I 7],[I 8],[I 9],[I 11],[I 12],[I 13],[I 14],[I 16]]:List (List T))[m]'hh=[I y]:=hrow
 have ed':(t.kind != 6)=d:=ed
 have rest:(y==t.kind&&(t.kind != 6||i))=(c&&(d||i)):=by rw[ec,ed]
 have body:(a&&b)=false→R0=(c&&(d||i)):=fun h=>by rw[e1,h,Bool.false_or]
 cases a<;>cases b
 case true.true=>
  have:R0=true:=by rw[e1];rfl
  subst this
  simp -implicitDefEqProofs [-aA,-gval,hm,ea,eb,aB]
 all_goals
  have e2:=body rfl
  clear e1 body
  cases c<;>cases d
  ·subst e2;simp -implicitDefEqProofs [-aA,-gval,hm,ea,eb,aJ7,hmI,hrow',ec,ed,aB]
  ·subst e2;simp -implicitDefEqProofs [-aA,-gval,hm,ea,eb,aJ7,hmI,hrow',ec,ed,aB]
  ·have:R0=i:=by rw[e2];simp
   subst this
   simp -implicitDefEqProofs [-aA,-gval,hm,ea,eb,aJ7,hmI,hrow',ec,ed]
   refine aD.bK aI9 rfl ?_
   simp -implicitDefEqProofs [-aA,-gval,aB]
  ·subst e2;simp -implicitDefEqProofs [-aA,-gval,hm,ea,eb,aJ7,hmI,hrow',ec,ed,aB]
end Go.Proofs.YtdpbobkcbakpfaaGreatDoor

namespace Go.Proofs.YtdpbobkcbakpfaaGreatDoor
open Go Go.Ab
set_option maxRecDepth 100000
set_option maxHeartbeats 4000000
attribute [local simp] bH aM aS aJ aW aN bB tyC fdC vlC ndC aL D.cV D.pt
def cO (t:Ty) (v:Vl):Int:=if bQ [(fZ t).2,v.bP] != 0 then bQ [(fZ t).2,v.bP] else if oV t v then 0 else 17
attribute [local simp] c71 in
theorem P71 (t:Ty) (hn:t.narrow=true) (v:Vl) (hv:v.fine) (hvs:v.s.size≤1000000) (hk:v.bP=0→0≤v.kind∧v.kind≤14):PSp Tryz.prog 71 [.agg (tyC t),.agg (vlC v)] (.one (.t (I (cO t v)))):=by
 have p80:=P80 t hn
 have aUA:=aU6 v hv
 have aUB:=fun h=>aU9 t v hvs (hk h)
 have eR:cO t v=if bQ [(fZ t).2,v.bP] != 0 then bQ [(fZ t).2,v.bP] else if oV t v then 0 else 17:=rfl
 rw[eR]
 generalize (fZ t).2=e at*
 generalize v.bP=f at*
 generalize oV t v=b at*
 have p79:=P79 [e,f] (by simp[short])
 have hz:bQ [e,f]=0→f=0:=fun h=>by
  simp only[bL,dD]at h
  by_cases q:e=0
  ·by_cases q2:f=0
   ·exact q2
   ·simp[q,q2]at h
  ·simp[q]at h
 generalize bQ [e,f]=E at*
 refine k71.aH (by simp) (by simp[D.closed,A.closed]) rfl ?_
 simp -implicitDefEqProofs [-aA,-gval]
 refine aD.bK p80 rfl ?_
 simp -implicitDefEqProofs [-aA,-gval]
 refine aD.bK aUA rfl ?_
 simp -implicitDefEqProofs [-aA,-gval]
 refine aD.draw p79 (by simp) (by simp) (.inl rfl) ?_
 rcases eqCases E 0 with z | z
 ·simp -implicitDefEqProofs [-aA,-gval,z]
  refine aD.tree (aUB (hz z)) rfl ?_
  simp -implicitDefEqProofs [-aA,-gval]
  refine aD.tree (P81 b 17) rfl ?_
  simp -implicitDefEqProofs [-aA,-gval,aB]
 ·simp -implicitDefEqProofs [-aA,-gval,z,aB]
end Go.Proofs.YtdpbobkcbakpfaaGreatDoor

namespace Go.Proofs.YtdpbobkcbakpfaaGreatDoor
open Go Go.Ab
set_option maxRecDepth 100000
set_option maxHeartbeats 4000000
theorem aGI:∀ m:Fin 15,∀k:Fin 16,(((m.val:Int)==9&&(k.val:Int)==10)||oM.getD m.val 0==(k.val:Int))=((m.val:Int)==iE (k.val:Int)):=by decide+kernel
theorem yS (t:Ty) (v:Vl) (hv:0≤v.kind∧v.kind≤14) (ht:0≤t.kind∧t.kind≤15):oV t v=nX t v:=by
 obtain⟨m,hm⟩:∃ m:Nat,v.kind=(m:Int):=⟨v.kind.toNat,by omega⟩
 obtain⟨k,hk⟩:∃ k:Nat,t.kind=(k:Int):=⟨t.kind.toNat,by omega⟩
 have h:=aGI ⟨m,by omega⟩ ⟨k,by omega⟩
 have e:v.kind.toNat=m:=by omega
 simp only at h
 rw[oV,nX,e,hm,hk]
 generalize ((chars v.s).any fun c=> !inS (alpha t.name) c)=a
 by_cases q:(k:Int)=6
 ·rw[q]at h ⊢
  rw[←h]
  cases a<;>simp
 ·have q1:((k:Int) != 6)=true:=by simpa using q
  have q2:((k:Int)==6)=false:=by simpa using q
  rw[q1,q2,←h]
  simp
theorem sE {v:Vl} (h:v.bP=0):(0≤v.kind∧v.kind≤14)∧v.bS=false∧v.large=false:=by
 have h1:v.eQ=0:=by
  rw[Vl.bP,Vl.rW]at h
  split at h
  ·cases h
  ·exact h
 have h2:v.fI=0:=by
  rw[Vl.pP]at h1
  split at h1
  ·rename_i e;rw[h1]at e;simp at e
  ·rename_i e;simpa using e
 rw[Vl.fI]at h2
 split at h2
 ·rename_i e
  simp only[Bool.and_eq_true,decide_eq_true_eq]at e
  rw[Vl.aDG]at h2
  split at h2
  ·cases h2
  ·rename_i e2
   rw[Vl.aFS]at h2
   split at h2
   ·rw[Vl.aDF]at h2
    split at h2
    ·cases h2
    ·rename_i e3
     exact⟨e,by simpa using e2,by simpa using e3⟩
   ·cases h2
 ·cases h2
theorem aE6 {v:Vl} (h:v.bS=false) (hk:v.kind=2∨v.kind=4∨v.kind=5∨v.kind=6∨v.kind=10∨v.kind=11):dZ v=(v.s.size:Int)+v.items.length:=by
 simp only[Vl.bS,Bool.or_eq_false_iff]at h
 obtain⟨⟨⟨⟨_,_⟩,hs⟩,_⟩,hi⟩:=h
 have s0:bJ v.s (bs [])=true→v.s.size=0:=fun e=>by
  have e1:v.s.toList=(bs []).toList:=by simpa[bJ]using e
  have e2:(bs []).toList=[]:=by simp[bs]
  rw[e2,ByteArray.toList_eq]at e1
  rw[←dsize,e1];rfl
 have no1:jT v.kind=false→v.s.size=0:=fun e=>by
  rw[e]at hs
  exact s0 (by simpa using hs)
 have no2:gD v.kind=false→v.items.length=0:=fun e=>by
  rw[e]at hi
  simpa using hi
 rcases hk with q | q | q | q | q | q
 ·have a:=no1 (by rw[q];rfl)
  have b:=no2 (by rw[q];rfl)
  simp[dZ,q,a,b]
 ·have b:=no2 (by rw[q];rfl)
  simp[dZ,q,b]
 ·have b:=no2 (by rw[q];rfl)
  simp[dZ,q,b]
 ·have b:=no2 (by rw[q];rfl)
  simp[dZ,q,b]
 ·have a:=no1 (by rw[q];rfl)
  simp[dZ,q,a]
 ·have a:=no1 (by rw[q];rfl)
  simp[dZ,q,a]
theorem vT {t:Ty} (h:t.check=0):0≤t.kind∧t.kind≤15:=by
 have h1:t.cA=0:=by
  rw[Ty.check]at h
  split at h
  ·cases h
  ·exact h
 rw[Ty.mK]at h1
 have h2:t.bZ=0:=by
  split at h1
  ·rename_i e;rw[h1]at e;simp at e
  ·rename_i e;simpa using e
 cases t with
 | mk k nm tg fs o r of l=>
  rw[Ty.bZ]at h2
  split at h2
  ·cases h2
  ·rename_i e
   have e2:(decide (0≤k)&&decide (k≤15))=true:=by simpa using e
   simpa[Ty.kind]using e2
theorem aJ8 (t:Ty) (v:Vl):cO t v=tV t v:=by
 rw[cO,tV,←aIF]
 by_cases h:(fZ t).2=0
 ·by_cases f:v.bP=0
  ·have hf:=yS t v (sE f).1 (vT (kP h).1)
   rw[h,f,hf];rfl
  ·have e:bQ [(fZ t).2,v.bP]=v.bP:=by rw[bL,bL];simp[h,f]
   have e2:(v.bP != 0)=true:=by simpa using f
   rw[e,h,e2];rfl
 ·have e2:((fZ t).2 != 0)=true:=by simpa using h
  have e:bQ [(fZ t).2,v.bP]=(fZ t).2:=by rw[bL,e2];rfl
  rw[e,e2];rfl
end Go.Proofs.YtdpbobkcbakpfaaGreatDoor

namespace Go.Proofs.YtdpbobkcbakpfaaGreatDoor
open Go Go.Ab
set_option maxRecDepth 100000
set_option maxHeartbeats 4000000
attribute [local simp] bH aM aS aJ aW aN bB tyC fdC vlC ndC aL D.cV D.pt
theorem aUC (l:List Int) (hl:short l) (p:Int→Bool) (clo:FuncId) (caps:List Pt) (h:Hp) (n0:Nat) (hc:callable Tryz.prog clo=true)
  (hp:∀ x∈l,∀new K,n0≤new→K (.one (.t (.bool (p x)))) h→aD Tryz.prog false clo (.one (.t (I x))::caps.map fun q=> .one (.ptr q)) h new K):
  ISp Tryz.prog 124 h n0 [.one (.t (bB l)),.one (.fn clo caps)] (.one (.t (.bool (l.any p)))) h:=
 fW (sz:=1) (g:=false) k124 k157 l (fun a=>[I a]) (fun _x=>rfl) (fun _=>rfl) hl p clo caps h n0 hc hp
attribute [local simp] c125 in
theorem aUD (l:List Nd) (v:Vl) (a:Int) (r:Bool) (hc:PSp Tryz.prog 72 [.one (.t (aJ l)),.one (.t (I a)),.agg (vlC v)] (.one (.t (.bool r)))) (h:Hp) (i1 i2:Nat) (e1:h i1=some (.arr 0 false 1 [[.t (aJ l)]])) (e2:h i2=some (.arr 0 false 6 [vlC v])) (n0:Nat):
  ISp Tryz.prog 125 h n0 [.one (.t (I a)),.one (.ptr ⟨i1,0,1,0,0⟩),.one (.ptr ⟨i2,0,6,0,0⟩)] (.one (.t (.bool r))) h:=by
 refine ISp.ok fun ho=>?_
 have h1:=fC ho e1
 have h2:=fC ho e2
 refine k125.fR (by simp) ?_
 obtain⟨o1,o2,o3,o4⟩:=aI e1
 obtain⟨p1,p2,p3,p4⟩:=aI e2
 simp -implicitDefEqProofs [-aA,-gval,o1,o2,o3,p1,p2,p3]
 refine aD.tree hc rfl ?_
 simp -implicitDefEqProofs [-aA,-gval]
 exact cY (.inr rfl) (by exact rfl) (fun j hj=>by simp) ho
attribute [local simp] c72 in
theorem P72 {l:List Nd} {bg:List Nat} (T:eX l bg) (hok:∀ x∈l,x.ok=true) (v:Vl) (hvs:v.s.size≤1000000) (P Q:Nat→Prop)
  (hf:∀ p x,l[p]? =some x→Q p→∀c:Nat,(c:Int)∈x.args→if x.k=2∨x.k=3 then P c else Q c)
  (c90:∀ n i,i<n→i<l.length→P i→(spL l n i).length≤1000∧PSp Tryz.prog 90 [.one (.t (aJ l)),.one (.t (I ((i:Nat):Int)))] (.one (.t (spans (spL l n i))))):
  ∀n i,i<n→i<l.length→Q i→PSp Tryz.prog 72 [.one (.t (aJ l)),.one (.t (I ((i:Nat):Int))),.agg (vlC v)] (.one (.t (.bool (hoL l v.n v.s (dZ v) n i)))):=by
 intro n
 induction n with
 | zero=>intro i hi;omega
 | succ n ih=>
  intro i hin hil hQ
  have hx:l[i]? =some (l[i]'hil):=List.getElem?_eq_getElem _
  generalize l[i]'hil=x at hx
  have N:=T.node i x hx
  have hiI:(i:Int)<(l.length:Int):=by omega
  obtain⟨r1,r2,r3,r4⟩:=fS (hok x (List.mem_of_getElem? hx))
  have all:¬ (x.k=2∨x.k=3)→∀a∈x.args,PSp Tryz.prog 72 [.one (.t (aJ l)),.one (.t (I a)),.agg (vlC v)] (.one (.t (.bool (hoL l v.n v.s (dZ v) n a.toNat)))):=fun h23 a ha=>by
   obtain⟨c,c1,c2,c3⟩:=N.arg a ha
   have hq:=hf i x hx hQ c (by rw[←c1];exact ha)
   rw[if_neg h23]at hq
   have:=ih c (by omega) (by omega) hq
   rw[c1,Int.toNat_natCast]
   exact this
  have sub:¬ (x.k=2∨x.k=3)→∀k,k<x.args.length→PSp Tryz.prog 72 [.one (.t (aJ l)),.one (.t (I ((aT x k:Nat):Int))),.agg (vlC v)] (.one (.t (.bool (hoL l v.n v.s (dZ v) n (aT x k))))):=fun h23 k hk=>by
   obtain⟨m1,m2,m3⟩:=gO N hk
   have:=all h23 _ m1
   rw[Int.toNat_natCast]at this
   exact this
  obtain⟨R0,hR0⟩:∃ R,hoL l v.n v.s (dZ v) (n+1) i=R:=⟨_,rfl⟩
  rw[hR0]
  refine k72.aH (by simp) (by simp[D.closed,A.closed]) rfl ?_
  rcases eqCases x.k 0 with k0 | k0
  ·have e1:R0=(decide (x.lo≤v.n)&&decide (v.n≤x.hi)):=by rw[←hR0];simp[hoL,hx,k0]
   rw[e1]
   simp -implicitDefEqProofs [-aA,-gval,hil,hiI,aE hx,Nd.row,k0,-List.getElem_map]
   refine aD.tree (P85 v.n x.lo x.hi) rfl ?_
   simp -implicitDefEqProofs [-aA,-gval,aB]
  ·rcases eqCases x.k 1 with k1 | k1
   ·obtain⟨b,eb⟩:∃ b,(v.s.toList==x.s.toList)=b:=⟨_,rfl⟩
    have e1:R0=b:=by rw[←hR0,←eb];simp[hoL,hx,k1,bJ]
    subst e1
    simp -implicitDefEqProofs [-aA,-gval,hil,hiI,aE hx,Nd.row,k1,eb,aB,-List.getElem_map]
   ·obtain⟨pos,aD6⟩:=r4 k0.2.1 k1.2.1
    have a0:=iS N pos
    have l0:(0:Int)<(x.args.length:Int):=by omega
    obtain⟨m1,m2,m3⟩:=gO N pos
    rcases eqCases x.k 2 with k2 | k2
    ·have hP:=hf i x hx hQ _ m1
     rw[if_pos (.inl k2)]at hP
     obtain⟨hl,c⟩:=c90 n _ (by omega) (by omega) hP
     have e1:R0=inS (spL l n (aT x 0)) (dZ v):=by rw[←hR0];simp[hoL,hx,k2]
     have aUE:=aU8 v
     have aG3:=aNC (spL l n (aT x 0)) (dZ v) (by simp only[short];omega)
     rw[←e1]at aG3
     generalize spL l n (aT x 0)=S at*
     generalize dZ v=z at*
     simp -implicitDefEqProofs [-aA,-gval,hil,hiI,aE hx,Nd.row,k2,pos,aE a0,-List.getElem_map]
     refine aD.bK c rfl ?_
     simp -implicitDefEqProofs [-aA,-gval]
     refine aD.bK aUE rfl ?_
     simp -implicitDefEqProofs [-aA,-gval]
     refine aD.bK aG3 rfl ?_
     simp -implicitDefEqProofs [-aA,-gval,aB]
    ·rcases eqCases x.k 3 with k3 | k3
     ·have hP:=hf i x hx hQ _ m1
      rw[if_pos (.inr k3)]at hP
      obtain⟨hl,c⟩:=c90 n _ (by omega) (by omega) hP
      have e1:R0= !(chars v.s).any (fun c=> !inS (spL l n (aT x 0)) c):=by rw[←hR0];simp only[hoL,hx];simp[k3]
      generalize spL l n (aT x 0)=S at*
      subst e1
      simp -implicitDefEqProofs [-aA,-gval,hil,hiI,aE hx,Nd.row,k3,pos,aE a0,-List.getElem_map]
      refine aD.bK c rfl ?_
      simp -implicitDefEqProofs [-aA,-gval]
      refine aD.imp (aMR v.s (by omega) (fun c=> !inS S c) 123 [⟨25,0,1,0,0⟩] _ _ (by kernel_rfl) fun c hc new K hn hK=>aD.imp (aU7 S c (by omega) (by have:=gW hc;omega) _ 25 (by simp[Hp.set]) new) hK) ?_
      simp -implicitDefEqProofs [-aA,-gval,aB]
     ·have sub:=sub (by omega)
      have all:=all (by omega)
      have c0:=sub 0 pos
      obtain⟨A,hA⟩:∃ A,hoL l v.n v.s (dZ v) n (aT x 0)=A:=⟨_,rfl⟩
      rcases eqCases x.k 5 with k5 | k5
      ·rw[hA]at c0
       have one':1<x.args.length:=by have:=r3 (by omega);omega
       have a1:=iS N one'
       have l1:(1:Int)<(x.args.length:Int):=by omega
       have c1:=sub 1 one'
       have e1:R0=(A&&hoL l v.n v.s (dZ v) n (aT x 1)):=by rw[←hR0];simp[hoL,hx,k5,hA]
       generalize hoL l v.n v.s (dZ v) n (aT x 1)=B at*
       subst e1
       simp -implicitDefEqProofs [-aA,-gval,hil,hiI,aE hx,Nd.row,k5,pos,aE a0,-List.getElem_map]
       refine aD.bK c0 rfl ?_
       cases A
       ·simp -implicitDefEqProofs [-aA,-gval,aB]
       ·simp -implicitDefEqProofs [-aA,-gval,one',l1,aE a1,-List.getElem_map]
        refine aD.bK c1 rfl ?_
        simp -implicitDefEqProofs [-aA,-gval,aB]
      ·rcases eqCases x.k 6 with k6 | k6
       ·rw[hA]at c0
        have one':1<x.args.length:=by have:=r3 (by omega);omega
        have a1:=iS N one'
        have l1:(1:Int)<(x.args.length:Int):=by omega
        have c1:=sub 1 one'
        have e1:R0=(A&& !hoL l v.n v.s (dZ v) n (aT x 1)):=by rw[←hR0];simp[hoL,hx,k6,hA]
        generalize hoL l v.n v.s (dZ v) n (aT x 1)=B at*
        subst e1
        simp -implicitDefEqProofs [-aA,-gval,hil,hiI,aE hx,Nd.row,k6,pos,aE a0,-List.getElem_map]
        refine aD.bK c0 rfl ?_
        cases A
        ·simp -implicitDefEqProofs [-aA,-gval,aB]
        ·simp -implicitDefEqProofs [-aA,-gval,one',l1,aE a1,-List.getElem_map]
         refine aD.bK c1 rfl ?_
         simp -implicitDefEqProofs [-aA,-gval,aB]
       ·have e1:R0=x.args.any fun a=>hoL l v.n v.s (dZ v) n a.toNat:=by rw[←hR0];simp[hoL,hx,k0,k1,k2,k3,k5,k6]
        subst e1
        simp -implicitDefEqProofs [-aA,-gval,hil,hiI,aE hx,Nd.row,k0,k1,k2,k3,k5,k6,-List.getElem_map]
        refine aD.imp (aUC x.args (by simp only[short];omega) (fun a=>hoL l v.n v.s (dZ v) n a.toNat) 125 [⟨0,0,1,0,0⟩,⟨1,0,6,0,0⟩] _ _ (by kernel_rfl) fun a ha new K hn hK=>aD.imp (aUD l v a _ (all a ha) _ 0 1 (by simp[Hp.set]) (by simp[Hp.set]) new) hK) ?_
        simp -implicitDefEqProofs [-aA,-gval,aB]
end Go.Proofs.YtdpbobkcbakpfaaGreatDoor

namespace Go.Proofs.YtdpbobkcbakpfaaGreatDoor
open Go Go.Ab
set_option maxRecDepth 100000
set_option maxHeartbeats 4000000
attribute [local simp] bH aM aS aJ aW aN bB tyC fdC vlC ndC aL D.cV D.pt
def aAI (t:Ty) (v:Vl):Bool:=t.limits.length==0||hoL t.limits v.n v.s (dZ v) t.limits.length (t.limits.length - 1)
def aAJ (t:Ty) (v:Vl):Bool:=t.limits.length==0||hoL t.limits v.n v.s (dZ v) t.limits.length (dG t.limits)
attribute [local simp] c22 in
theorem P22 (t:Ty) (v:Vl) (c71:PSp Tryz.prog 71 [.agg (tyC t),.agg (vlC v)] (.one (.t (I (cO t v)))))
  (c72:cO t v=0→t.limits.length≠0→t.limits.length≤20∧PSp Tryz.prog 72 [.one (.t (aJ t.limits)),.one (.t (I ((t.limits.length - 1:Nat):Int))),.agg (vlC v)] (.one (.t (.bool (hoL t.limits v.n v.s (dZ v) t.limits.length (t.limits.length - 1)))))):
  PSp Tryz.prog 22 [.agg (tyC t),.agg (vlC v)] (.tup [.one (.t (.bool (cO t v==0&&aAI t v))),.one (.t (I (cO t v)))]):=by
 rw[aAI]
 generalize cO t v=e at*
 refine k22.aH (by simp) (by simp[D.closed,A.closed]) rfl ?_
 simp -implicitDefEqProofs [-aA,-gval]
 refine aD.tree c71 rfl ?_
 rcases eqCases e 0 with z | z
 ·by_cases q:t.limits.length=0
  ·have ql:t.limits=[]:=List.length_eq_zero_iff.1 q
   simp -implicitDefEqProofs [-aA,-gval,z,ql,aB]
  ·obtain⟨hl,c⟩:=c72 z q
   have qI:((t.limits.length:Int)==0)=false:=by simpa using q
   have qN:(t.limits.length==0)=false:=by simpa using q
   have hw:IntKind.i64.wrap ((t.limits.length:Int) - 1)=((t.limits.length - 1:Nat):Int):=by rw[wrap_i64 (by omega) (by omega)];omega
   rw[qN]
   generalize hoL t.limits v.n v.s (dZ v) t.limits.length (t.limits.length - 1)=R at*
   simp -implicitDefEqProofs [-aA,-gval,z,qI,hw]
   refine aD.tree c rfl ?_
   simp -implicitDefEqProofs [-aA,-gval,aB]
 ·simp -implicitDefEqProofs [-aA,-gval,z,aB]
attribute [local simp] c24 in
theorem P24 (t:Ty) (v:Vl) (c71:PSp Tryz.prog 71 [.agg (tyC t),.agg (vlC v)] (.one (.t (I (cO t v)))))
  (c72:cO t v=0→(∃bg,eX t.limits bg)∧(∀x∈t.limits,x.ok=true)∧t.limits.length≤20∧(t.limits.length≠0→PSp Tryz.prog 72 [.one (.t (aJ t.limits)),.one (.t (I ((dG t.limits:Nat):Int))),.agg (vlC v)] (.one (.t (.bool (hoL t.limits v.n v.s (dZ v) t.limits.length (dG t.limits))))))):
  PSp Tryz.prog 24 [.agg (tyC t),.agg (vlC v)] (.tup [.one (.t (.bool (cO t v==0&&aAJ t v))),.one (.t (I (cO t v)))]):=by
 rw[aAJ]
 generalize cO t v=e at*
 refine k24.aH (by simp) (by simp[D.closed,A.closed]) rfl ?_
 simp -implicitDefEqProofs [-aA,-gval]
 refine aD.tree c71 rfl ?_
 rcases eqCases e 0 with z | z
 ·obtain⟨⟨bg,T⟩,hok,hl,c⟩:=c72 z
  have c74:=P74 T hok hl
  by_cases q:t.limits.length=0
  ·have ql:t.limits=[]:=List.length_eq_zero_iff.1 q
   have e1:(jP t.limits).1= -1:=by simp[jP,ql]
   rw[e1]at c74
   simp -implicitDefEqProofs [-aA,-gval,z]
   refine aD.tree c74 rfl ?_
   simp -implicitDefEqProofs [-aA,-gval,ql,aB]
  ·have c:=c q
   have qN:(t.limits.length==0)=false:=by simpa using q
   have e1:(jP t.limits).1=((dG t.limits:Nat):Int):=by simp[jP,qN]
   have nn:¬ ((dG t.limits:Nat):Int)<0:=by omega
   have nn2:(0:Int)≤((dG t.limits:Nat):Int):=by omega
   rw[e1]at c74
   rw[qN]
   generalize hoL t.limits v.n v.s (dZ v) t.limits.length (dG t.limits)=R at*
   generalize dG t.limits=r at*
   simp -implicitDefEqProofs [-aA,-gval,z]
   refine aD.tree c74 rfl ?_
   simp -implicitDefEqProofs [-aA,-gval,nn]
   refine aD.tree c rfl ?_
   simp -implicitDefEqProofs [-aA,-gval,aB]
 ·simp -implicitDefEqProofs [-aA,-gval,z,aB]
end Go.Proofs.YtdpbobkcbakpfaaGreatDoor

namespace Go.Proofs.YtdpbobkcbakpfaaGreatDoor
open Go Go.Ab
set_option maxRecDepth 100000
set_option maxHeartbeats 4000000
theorem aGJ {t:Ty} {x:Nd} {r:Bool} {a:Int} (h:lR t x r a=0) (k1:x.k=1):bU t x.s a=true∧x.s.size≤200:=by
 obtain⟨s1,_⟩:=tH h
 simp only[lR,s1]at h
 cases hf:bU t x.s a
 ·simp[bL,dD,k1,hf]at h
 ·by_cases q:x.s.size≤200
  ·exact⟨rfl,q⟩
  ·simp[bL,dD,k1,hf,q]at h
theorem aE7 {x:Nd} {k a:Int} (h:nR x (jG k a)=true) (ha:a=3∨a=4):0≤x.lo∧x.lo≤x.hi∧x.hi≤200:=by
 simp only[nR,Bool.and_eq_true,decide_eq_true_eq]at h
 obtain⟨⟨h1,h2⟩,h3⟩:=h
 rcases ha with rfl | rfl
 ·have e:jG k 3=(0,jK k):=rfl
  rw[e]at h2 h3
  have m:jK k≤200:=by unfold jK;split<;>omega
  exact⟨h2,h1,by omega⟩
 ·have e:jG k 4=(0,127):=rfl
  rw[e]at h2 h3
  exact⟨h2,h1,by omega⟩
structure aJ9 (l:List Nd) (bg:List Nat) (P Q:Nat→Prop):Prop where
 tree:eX l bg
 few:l.length≤20
 ok:∀ x∈l,x.ok=true
 node:∀ p x,l[p]? =some x→P p→x.k≠2∧x.k≠3∧(x.k=0→0≤x.lo∧x.lo≤x.hi∧x.hi≤200)∧(x.k=1→x.s.size≤200∧∀c∈chars x.s,c≤127)
 edge:∀ p x,l[p]? =some x→P p→∀c:Nat,(c:Int)∈x.args→P c
 from_:∀ p x,l[p]? =some x→Q p→∀c:Nat,(c:Int)∈x.args→if x.k=2∨x.k=3 then P c else Q c
 last:Q (l.length - 1)
theorem yT {t:Ty} (h:(fZ t).2=0) (hl:t.limits.length≠0):t.kind=2∨t.kind=4∨t.kind=5∨t.kind=6∨t.kind=11∨t.kind=12:=by
 obtain⟨_,h2⟩:=kP h
 simp only[wM]at h2
 have e:(t.limits.length==0)=false:=by simpa using hl
 rw[e]at h2
 simp only[Bool.false_eq_true,if_false]at h2
 by_cases q:(dV t.kind==0&&t.kind != 2)=true
 ·rw[if_pos q]at h2;cases h2
 ·simp only[dV]at q
  by_cases a2:t.kind=2
  ·exact .inl a2
  ·by_cases a4:t.kind=4
   ·exact .inr (.inl a4)
   ·by_cases a5:t.kind=5
    ·exact .inr (.inr (.inl a5))
    ·by_cases a6:t.kind=6
     ·exact .inr (.inr (.inr (.inl a6)))
     ·by_cases a11:t.kind=11
      ·exact .inr (.inr (.inr (.inr (.inl a11))))
      ·by_cases a12:t.kind=12
       ·exact .inr (.inr (.inr (.inr (.inr a12))))
       ·simp[a2,a4,a5,a6,a11,a12]at q
theorem sF {t:Ty} (h:(fZ t).2=0) (hl:t.limits.length≠0):∃ bg,∃P Q:Nat→Prop,aJ9 t.limits bg P Q:=by
 obtain⟨ht,L,h1,h2,h3⟩:=aCD h hl
 obtain⟨hlen,bg,T⟩:=bW ht
 have hn:∀ p x,t.limits[p]? =some x→(L p=3∨L p=4)→x.k≠2∧x.k≠3∧(x.k=0→0≤x.lo∧x.lo≤x.hi∧x.hi≤200)∧(x.k=1→x.s.size≤200∧∀c∈chars x.s,c≤127):=fun p x hx ha=>by
  obtain⟨r,hr⟩:=h3 p x hx
  obtain⟨s1,s2⟩:=tH hr
  refine⟨fun e=>?_,fun e=>?_,fun e=>aE7 (s2 e) ha,fun e=>?_⟩
  ·rw[e]at s1
   rcases ha with q | q<;>rw[q]at s1<;>simp[dY]at s1
  ·rw[e]at s1
   rcases ha with q | q<;>rw[q]at s1<;>simp[dY]at s1
  ·obtain⟨t1,t2⟩:=aGJ hr e
   refine⟨t2,fun c hc=>?_⟩
   have a4:L p=4:=by
    rcases ha with q | q
    ·rw[e,q]at s1;simp[dY]at s1
    ·exact q
   rw[a4]at t1
   have t3:(!bJ x.s (bs [])&& !(chars x.s).any (fun c=>decide (127<c)))=true:=by simpa[bU]using t1
   rw[Bool.and_eq_true,Bool.not_eq_true',Bool.not_eq_true',List.any_eq_false]at t3
   have:=t3.2 c hc
   simpa using this
 refine⟨bg,fun p=>L p=3∨L p=4,fun p=>L p≠3∧L p≠4,T,hlen,jZ ht,hn,fun p x hx ha c hc=>?_,fun p x hx ha c hc=>?_,?_⟩
 ·have hp:=(List.getElem?_eq_some_iff.1 hx).1
  obtain⟨k2,k3,_⟩:=hn p x hx ha
  show L c=3∨L c=4
  rw[h2.edge p x (Nat.zero_le _) (by omega) hx c hc]
  simpa[gS,k2,k3]using ha
 ·have hp:=(List.getElem?_eq_some_iff.1 hx).1
  have e:=h2.edge p x (Nat.zero_le _) (by omega) hx c hc
  by_cases k2:x.k=2
  ·rw[if_pos (.inl k2)];left;rw[e];simp[gS,k2]
  ·by_cases k3:x.k=3
   ·rw[if_pos (.inr k3)];right;rw[e];simp[gS,k3]
   ·rw[if_neg (by simp[k2,k3])]
    show L c≠3∧L c≠4
    rw[e];simpa[gS,k2,k3]using ha
 ·show L (t.limits.length - 1)≠3∧L (t.limits.length - 1)≠4
  rw[h1]
  rcases yT h hl with q | q | q | q | q | q<;>rw[q]<;>decide
theorem yU {l:List Nd} {bg:List Nat} {P Q:Nat→Prop} (H:aJ9 l bg P Q):∀ n i m,i<l.length→P i→cD l n i m=true→0≤m∧m≤200:=by
 intro n
 induction n with
 | zero=>intro i m _ _ h;cases h
 | succ n ih=>
  intro i m hil hP h
  have hx:l[i]? =some (l[i]'hil):=List.getElem?_eq_getElem _
  generalize l[i]'hil=x at hx
  have N:=H.tree.node i x hx
  obtain⟨k2,k3,k0,k1⟩:=H.node i x hx hP
  obtain⟨r1,r2,r3,r4⟩:=fS (H.ok x (List.mem_of_getElem? hx))
  have sub:∀ k,k<x.args.length→cD l n (aT x k) m=true→0≤m∧m≤200:=fun k hk=>by
   obtain⟨m1,m2,m3⟩:=gO N hk
   exact ih _ m (by omega) (H.edge i x hx hP _ m1)
  by_cases q0:x.k=0
  ·have:=k0 q0
   simp[cD,hx,q0]at h
   omega
  ·by_cases q1:x.k=1
   ·have k1:=(k1 q1).2
    have e2:cD l (n+1) i m=(chars x.s).any (fun c=>c==m):=by simp[cD,hx,q1]
    rw[e2,List.any_eq_true]at h
    obtain⟨c,hc,e⟩:=h
    have e:c=m:=by simpa using e
    have a:=k1 c hc
    have b:=aBY hc
    omega
   ·have pos:=(r4 q0 q1).1
    by_cases q5:x.k=5
    ·have e2:cD l (n+1) i m=(cD l n (aT x 0) m&&cD l n (aT x 1) m):=by simp[cD,hx,q5]
     rw[e2,Bool.and_eq_true]at h
     exact sub 0 pos h.1
    ·by_cases q6:x.k=6
     ·have e2:cD l (n+1) i m=(cD l n (aT x 0) m&& !cD l n (aT x 1) m):=by simp[cD,hx,q6]
      rw[e2,Bool.and_eq_true]at h
      exact sub 0 pos h.1
     ·have e2:cD l (n+1) i m=(cD l n (aT x 0) m||(decide (1<x.args.length)&&cD l n (aT x 1) m)):=by simp[cD,hx,q0,q1,q5,q6]
      rw[e2,Bool.or_eq_true,Bool.and_eq_true,decide_eq_true_eq]at h
      rcases h with h | ⟨h1,h⟩
      ·exact sub 0 pos h
      ·exact sub 1 h1 h
theorem aCF {l:List Nd} {bg:List Nat} {P Q:Nat→Prop} (H:aJ9 l bg P Q):∀ n i,i<n→i<l.length→P i→Gap (spL l n i)∧(∀y∈spL l n i,bad y=false)∧(spL l n i).length≤101:=by
 intro n i hin hil hP
 obtain⟨g,e⟩:=aEU H.tree H.ok P (fun p x hx hp=>by
  obtain⟨a,b,c,_⟩:=H.node p x hx hp
  exact⟨a,b,fun q=>(c q).2.1⟩) H.edge n i hin hil hP
 have key:∀ y∈spL l n i,0≤y.1∧y.2≤200:=fun y hy=>by
  have hv:=g.valid y hy
  have in1:inS (spL l n i) y.1=true:=tT.2 ⟨y,hy,by omega,hv⟩
  have in2:inS (spL l n i) y.2=true:=tT.2 ⟨y,hy,hv,by omega⟩
  rw[e]at in1 in2
  exact⟨(yU H n i _ hil hP in1).1,(yU H n i _ hil hP in2).2⟩
 refine⟨g,fun y hy=>(aES y).2 ⟨g.valid y hy,by have:=key y hy;omega,by have:=key y hy;omega⟩,?_⟩
 have:=aET _ 0 200 g key (by omega)
 omega
theorem val_zero {t:Ty} {v:Vl} (h:cO t v=0):(fZ t).2=0∧v.bP=0∧oV t v=true:=by
 rw[cO]at h
 by_cases q:bQ [(fZ t).2,v.bP]=0
 ·simp only[q,bne_self_eq_false,Bool.false_eq_true,if_false]at h
  simp only[bL,dD]at q
  by_cases a:(fZ t).2=0
  ·by_cases b:v.bP=0
   ·refine⟨a,b,?_⟩
    cases hf:oV t v
    ·simp[hf]at h
    ·rfl
   ·simp[a,b]at q
  ·simp[a]at q
 ·have:(bQ [(fZ t).2,v.bP] != 0)=true:=by simpa using q
  rw[if_pos this]at h
  exact absurd h q
theorem aEX {l:List Nd} {bg:List Nat} {P Q:Nat→Prop} (H:aJ9 l bg P Q) (hl:l.length≠0):Q (dG l):=by
 have hx:l[l.length - 1]? =some (l[l.length - 1]'(by omega)):=List.getElem?_eq_getElem _
 generalize l[l.length - 1]'(by omega)=x at hx
 rw[dG,hx]
 by_cases q:x.k=7
 ·simp only[q,beq_self_eq_true,if_true]
  obtain⟨_,_,_,r4⟩:=fS (H.ok x (List.mem_of_getElem? hx))
  obtain⟨m1,_,_⟩:=gO (H.tree.node _ x hx) (k:=0) (r4 (by omega) (by omega)).1
  have:=H.from_ _ x hx H.last _ m1
  rwa [if_neg (by omega)]at this
 ·have:(x.k==7)=false:=by simpa using q
  simp only[this,Bool.false_eq_true,if_false]
  exact H.last
theorem aJA {t:Ty} {v:Vl} (h:cO t v=0):aAI t v=(t.limits.length==0||saR t.limits v.n v.s ((v.s.size:Int)+v.items.length) t.limits.length (t.limits.length - 1))∧aAJ t v=(t.limits.length==0||saR t.limits v.n v.s ((v.s.size:Int)+v.items.length) t.limits.length (dG t.limits)):=by
 by_cases hl:t.limits.length=0
 ·simp[aAI,aAJ,hl]
 ·obtain⟨h1,h2,h3⟩:=val_zero h
  obtain⟨f1,f2,_⟩:=sE h2
  have hk:=yT h1 hl
  have hvk:v.kind=2∨v.kind=4∨v.kind=5∨v.kind=6∨v.kind=10∨v.kind=11:=by
   rw[yS t v f1 (vT (kP h1).1),nX]at h3
   have e:v.kind=iE t.kind:=by
    simp only[Bool.and_eq_true,beq_iff_eq]at h3
    exact h3.1
   rw[e]
   rcases hk with q | q | q | q | q | q<;>rw[q]<;>decide
  have hz:=aE6 f2 hvk
  obtain⟨bg,P,Q,H⟩:=sF h1 hl
  have key:=aE4 H.tree H.ok P Q (fun p x hx hp=>by
   obtain⟨a,b,c,_⟩:=H.node p x hx hp
   exact⟨a,b,fun q=>(c q).2.1⟩) H.edge H.from_ v.n v.s (dZ v)
  have hr:=vR H.tree H.ok hl
  rw[aAI,aAJ,key _ _ (by omega) (by omega) H.last,key _ _ hr hr (aEX H hl),hz]
  exact⟨rfl,rfl⟩
end Go.Proofs.YtdpbobkcbakpfaaGreatDoor

namespace Go.Proofs.YtdpbobkcbakpfaaGreatDoor
open Go Go.Ab
set_option maxRecDepth 100000
set_option maxHeartbeats 4000000
attribute [local simp] bH aM aS aJ aW aN bB tyC fdC vlC ndC aL D.cV D.pt
structure aQU (l:List Nd) (bg:List Nat) (V:Nat→Prop):Prop where
 tree:eX l bg
 few:l.length≤20
 ok:∀ x∈l,x.ok=true
 set:∀ n i,i<n→i<l.length→V i→Gap (spL l n i)∧(∀y∈spL l n i,bad y=false)∧(spL l n i).length≤150
 txt:∀ p x,l[p]? =some x→V p→x.k=1→x.s.size≤200
 edge:∀ p x,l[p]? =some x→V p→∀c:Nat,(c:Int)∈x.args→V c
def aQV (d:D) (h:Hp) (nx:Nat) (acc:List Sp):Prop:=
 (acc=[]∧d= .one (.tt 2 []))∨(acc≠[]∧∃id ver,id<nx∧d= .one (.ref id ver 0 acc.length 2 false)∧alive h id ver∧h.rows id=acc.map cell∧h.sz id=2∧h.shut id=false)
attribute [local simp] c90b12 c90 in
theorem Q90 {l:List Nd} {bg:List Nat} {V:Nat→Prop} (H:aQU l bg V):∀ n i,i<n→i<l.length→V i→PSp Tryz.prog 90 [.one (.t (aJ l)),.one (.t (I i))] (.one (.t (spans (spL l n i)))):=by
 intro n
 induction n with
 | zero=>intro i hi;omega
 | succ n ih=>
  intro i hin hil hW
  have hx:l[i]? =some (l[i]'hil):=List.getElem?_eq_getElem _
  generalize l[i]'hil=x at hx
  have N:=H.tree.node i x hx
  have hiI:(i:Int)<(l.length:Int):=by omega
  have hr:=H.ok x (List.mem_of_getElem? hx)
  simp only[Nd.ok,Bool.and_eq_true]at hr
  have hr:=hr.1.1
  have sub:∀ k,k<x.args.length→aT x k<n∧aT x k<l.length∧V (aT x k):=fun k hk=>by
   obtain⟨m1,m2,m3⟩:=gO N hk
   exact⟨by omega,by omega,H.edge i x hx hW _ m1⟩
  obtain⟨R0,hR0⟩:∃ R,spL l (n+1) i=R:=⟨_,rfl⟩
  rw[hR0]
  refine k90.aH (by simp) rfl rfl ?_
  rcases eqCases x.k 0 with k0 | k0
  ·have e1:R0=[(x.lo,x.hi)]:=by rw[←hR0];simp[spL,hx,k0]
   subst e1
   simp -implicitDefEqProofs [-aA,-gval,hil,hiI,aE hx,Nd.row,k0,aB,spans,spr,-List.getElem_map]
  ·rcases eqCases x.k 1 with q1 | q1
   ·have e1:R0=cH ((chars x.s).map fun c=>(c,c)):=by rw[←hR0];simp[spL,hx,q1]
    have hs:=H.txt i x hx hW q1
    obtain⟨S,hS⟩:∃ S,chars x.s=S:=⟨_,rfl⟩
    have hSl:S.length≤200:=by rw[←hS,cI];exact hs
    have hSc:∀ c∈S,0≤c∧c≤255:=fun c hc=>by have:=gW (s:=x.s) (c:=c) (by rw[hS];exact hc);omega
    have hb:dM (D.one (A.t (T.str x.s))).str=S.map fun c=>[T.int .u8 c]:=by rw[←hS];simp[dM,chars,D.str]
    rw[hS]at e1
    have pN:=tU (S.map fun c=>((c,c):Sp)) (by simp;omega) fun y hy=>by
     obtain⟨c,hc,rfl⟩:=List.mem_map.1 hy
     have:=hSc c hc
     exact(aES _).2 ⟨Int.le_refl _,by simp only;omega,by simp only;omega⟩
    rw[←e1]at pN
    clear hR0 e1
    simp -implicitDefEqProofs [-aA,-gval,hil,hiI,aE hx,Nd.row,q1,hb,-List.getElem_map]
    refine W.dI (fun k st=>∃ i:Nat,k=S.length - i∧i≤S.length∧st.tmps 29= .one (.t (.rows 1 (S.map fun c=>[T.int .u8 c])))∧st.tmps 30= .one (.t (I S.length))∧st.tmps 31= .one (.t (I i))∧aQV (st.tmps 6) st.heap st.nx ((S.map fun c=>((c,c):Sp)).take i)) S.length ⟨0,by simp,by simp,by simp,by simp,by simp,by simp[aQV]⟩ ?_
    rintro k st ⟨j,hk,hj,h29,h30,h31,h6⟩
    rcases Nat.lt_or_ge j S.length with hlt | hge
    ·have fN:(j:Int)<(S.length:Int):=by omega
     obtain⟨c,hc⟩:∃ c,S[j]? =some c:=⟨_,List.getElem?_eq_getElem hlt⟩
     have cb:=hSc c (List.mem_of_getElem? hc)
     have hw:IntKind.i64.wrap ((j:Int)+1)=((j+1:Nat):Int):=aG _ (by omega) (by omega)
     have hwc:IntKind.i64.wrap c=c:=wrap_i64 (by omega) (by omega)
     have hg:∀ hh,(S.map fun c=>[T.int .u8 c])[j]'hh=[T.int .u8 c]:=fun hh=>aE hc hh
     have et:(S.map fun c=>((c,c):Sp)).take (j+1)=(S.map fun c=>((c,c):Sp)).take j++[(c,c)]:=by rw[List.take_add_one,List.getElem?_map,hc];rfl
     have en:((S.map fun c=>((c,c):Sp)).take j).length≤200:=by simp;omega
     generalize (S.map fun c=>((c,c):Sp)).take j=acc at*
     rcases h6 with⟨rfl,h6⟩ | ⟨hne',id,ver,hid,h6,r1,r2,r3,r4⟩
     ·simp -implicitDefEqProofs [-aA,-gval,h29,h30,h31,h6,hlt,fN,hg,hw,hwc,D.cF,D.isInt]
      refine⟨S.length - (j+1),by omega,j+1,rfl,by omega,by simp,?_⟩
      rw[et]
      refine .inr ⟨by simp,_,0,by omega,rfl,by simp,?_,by simp,by simp⟩
      rw[dN,if_pos rfl];simp[cell]
     ·have vQ:(st.heap.rows id).length=acc.length:=by rw[r2];simp
      simp -implicitDefEqProofs [-aA,-gval,h29,h30,h31,h6,hlt,fN,hg,hw,hwc,r1,r3,r4,vQ,D.cF,D.isInt]
      refine⟨by omega,S.length - (j+1),by omega,j+1,rfl,by omega,by simp,?_⟩
      rw[et]
      refine .inr ⟨by simp,id,ver+1,by omega,by simp,by simp,?_,by simp,by simp⟩
      rw[dN,if_pos rfl,r2];simp[cell]
    ·have hj':j=S.length:=by omega
     subst hj'
     have fN:¬ (S.length:Int)<(S.length:Int):=by omega
     rw[List.take_of_length_le (by simp)]at h6
     generalize S.map (fun c=>((c,c):Sp))=acc at*
     simp -implicitDefEqProofs [-aA,-gval,h30,h31]
     rcases h6 with⟨rfl,h6⟩ | ⟨_,id,ver,_,h6,r1,r2,r3,r4⟩
     ·rw[h6]
      refine aD.pure pN (by simp) (by simp[spans]) ?_
      simp -implicitDefEqProofs [-aA,-gval,aB,spans]
     ·have e1:(acc.map spr).length=acc.length:=by simp
      rw[h6,←e1]
      have r2':st.heap.rows id=(acc.map spr).map (·.map .t):=by rw[r2,List.map_map];rfl
      refine aD.pure pN (by simpa using jI r1 r3 r2') (by simp only[List.map_cons,List.map_nil,D.frz,lW r2',spans]) ?_
      simp -implicitDefEqProofs [-aA,-gval,aB,spans]
   ·have hk1:=q1.2.1
    have q1:=q1.1
    have pos:0<x.args.length:=by
     unfold Nd.right at hr
     simp only[k0,hk1,or_self,if_false]at hr
     split at hr
     ·have:=of_decide_eq_true hr;omega
     ·split at hr
      ·have:=of_decide_eq_true hr;omega
      ·split at hr
       ·have:=of_decide_eq_true hr;omega
       ·cases hr
    have a0:=aJ5 N pos
    obtain⟨s1,s2,s3⟩:=sub 0 pos
    have c0:=ih (aT x 0) s1 s2 s3
    have l0:(0:Int)<(x.args.length:Int):=by omega
    rcases eqCases x.k 2 with k2 | k2
    ·have e1:R0=spL l n (aT x 0):=by rw[←hR0];simp[spL,hx,k2]
     subst e1
     simp -implicitDefEqProofs [-aA,-gval,hil,hiI,aE hx,Nd.row,k2,pos,aE a0,-List.getElem_map]
     refine aD.tree c0 rfl ?_
     simp -implicitDefEqProofs [-aA,-gval,aB]
    ·by_cases one:x.args.length=1
     ·have e1:R0=spL l n (aT x 0):=by rw[←hR0];simp[spL,hx,k0,hk1,k2,one]
      subst e1
      have l2:(x.args.length:Int)<2:=by omega
      have l3:¬ (2:Int)≤(x.args.length:Int):=by omega
      simp -implicitDefEqProofs [-aA,-gval,hil,hiI,aE hx,Nd.row,k0,q1,k2,pos,aE a0,-List.getElem_map]
      refine aD.tree c0 rfl ?_
      simp -implicitDefEqProofs [-aA,-gval,l2,l3,aB]
     ·have one':1<x.args.length:=by omega
      have a1:=aJ5 N one'
      obtain⟨t1,t2,t3⟩:=sub 1 one'
      have c1:=ih (aT x 1) t1 t2 t3
      have l2:¬ (x.args.length:Int)<2:=by omega
      have l3:(2:Int)≤(x.args.length:Int):=by omega
      have l1:(1:Int)<(x.args.length:Int):=by omega
      obtain⟨gA,okA,nA⟩:=H.set n _ s1 s2 s3
      obtain⟨gB,okB,nB⟩:=H.set n _ t1 t2 t3
      have va:=gA.valid
      have vb:=gB.valid
      have eR:R0=if x.k==5 then cH (dF (spL l n (aT x 0)) (spL l n (aT x 1)))else if x.k==6 then cH (bM (spL l n (aT x 0)) (spL l n (aT x 1)))else cH (spL l n (aT x 0)++spL l n (aT x 1)):=by
       rw[←hR0]
       have q:¬ x.args.length<2:=by omega
       simp[spL,hx,k0,hk1,k2,q]
      clear hR0
      generalize spL l n (aT x 0)=A at*
      generalize spL l n (aT x 1)=B at*
      simp -implicitDefEqProofs [-aA,-gval,hil,hiI,aE hx,Nd.row,k0,q1,k2,pos,aE a0,-List.getElem_map]
      refine aD.tree c0 rfl ?_
      simp -implicitDefEqProofs [-aA,-gval,l2,l3,one',l1,aE a1,-List.getElem_map]
      refine aD.tree c1 rfl ?_
      rcases eqCases x.k 5 with k5 | k5
      ·have:R0=cH (dF A B):=by rw[eR];simp[k5]
       subst this
       simp -implicitDefEqProofs [-aA,-gval,k5]
       refine aD.tree (aQQ A B (by have:=yN A B gA gB;omega) (by omega) (by omega) okA okB) rfl ?_
       simp -implicitDefEqProofs [-aA,-gval,aB]
      ·rcases eqCases x.k 6 with k6 | k6
       ·have:R0=cH (bM A B):=by rw[eR];simp[k6]
        subst this
        simp -implicitDefEqProofs [-aA,-gval,k6]
        refine aD.tree (aJ4 A B (by have:=(iD (b:=B) (a:=A) gA.asc vb).2.1;omega) (by omega) (by omega) gA.asc okA okB) rfl ?_
        simp -implicitDefEqProofs [-aA,-gval,aB]
       ·have:R0=cH (A++B):=by rw[eR];simp[k5,k6]
        subst this
        simp -implicitDefEqProofs [-aA,-gval,k5,k6]
        refine aD.tree (aNX A B (by omega) okA okB) rfl ?_
        simp -implicitDefEqProofs [-aA,-gval,aB]
end Go.Proofs.YtdpbobkcbakpfaaGreatDoor

namespace Go.Proofs.YtdpbobkcbakpfaaGreatDoor
open Go Go.Ab
set_option maxRecDepth 100000
set_option maxHeartbeats 4000000
attribute [local simp] bH aM aS aJ aW aN bB tyC fdC vlC ndC aL D.cV D.pt
def mR (t:Ty) (l:List Sp):Sp×Bool×Int:=if l.length==0 then((0,0),false,23)else(((l.headD (0,0)).1,(l.getD (l.length - 1) (0,0)).2),(jP t.limits).2,0)
attribute [local simp] c89 in
theorem P89 (t:Ty) {bg:List Nat} (T:eX t.limits bg) (hok:∀ x∈t.limits,x.ok=true) (hl:t.limits.length≤20) (l:List Sp) (hs:l.length≤1000):
  PSp Tryz.prog 89 [.agg (tyC t),.one (.t (spans l))] (.tup [.agg (cell (mR t l).1),.one (.t (.bool (mR t l).2.1)),.one (.t (I (mR t l).2.2))]):=by
 have p74:=P74 T hok hl
 obtain⟨r1,hr1⟩:∃ x,(jP t.limits).1=x:=⟨_,rfl⟩
 obtain⟨r2,hr2⟩:∃ x,(jP t.limits).2=x:=⟨_,rfl⟩
 rw[hr1,hr2]at p74
 refine k89.aH (by simp) (by simp[D.closed,A.closed]) rfl ?_
 by_cases z:l.length=0
 ·have zl:l=[]:=List.length_eq_zero_iff.1 z
  subst zl
  simp -implicitDefEqProofs [-aA,-gval,mR,spans,cell,aB]
 ·obtain⟨m,hm⟩:∃ m:Nat,l.length=m+1:=⟨l.length - 1,by omega⟩
  obtain⟨x,hx⟩:∃ x,l[0]? =some x:=⟨_,List.getElem?_eq_getElem (by omega)⟩
  obtain⟨y,hy⟩:∃ y,l[m]? =some y:=⟨_,List.getElem?_eq_getElem (by omega)⟩
  have e:mR t l=((x.1,y.2),r2,0):=by
   have e1:l.headD (0,0)=x:=by
    cases l with
    | nil=>cases hx
    | cons a r=>simpa using hx
   have e2:l.getD (l.length - 1) (0,0)=y:=by
    rw[hm,Nat.add_sub_cancel,List.getD_eq_getElem?_getD,hy];rfl
   have e3:(l.length==0)=false:=by simpa using z
   rw[mR,e1,e2,hr2,e3];rfl
  rw[e]
  have zI:((l.length:Int)==0)=false:=by simpa using z
  have h0:0<l.length:=by omega
  have h0I:(0:Int)<(l.length:Int):=by omega
  have hw:IntKind.i64.wrap ((l.length:Int) - 1)=(m:Int):=by rw[wrap_i64 (by omega) (by omega)];omega
  have hmI:(m:Int)<(l.length:Int):=by omega
  have hmN:m<l.length:=by omega
  simp -implicitDefEqProofs [-aA,-gval,zI,spans]
  refine aD.tree p74 rfl ?_
  simp -implicitDefEqProofs [-aA,-gval,hw,h0,hmI,hmN,aE hx,aE hy,spr,cell,aB,-List.getElem_map]
def oN (t:Ty):Int:=bQ [(fZ t).2,if t.kind==2 then 0 else 4]
def sG (t:Ty):Sp×Bool×Int:=if oN t != 0 then((0,0),false,oN t)else mR t (if t.limits.length==0 then yR t else spL t.limits t.limits.length (dG t.limits))
attribute [local simp] c43 in
theorem P43 (t:Ty) (hn:t.narrow=true) (h82:(fZ t).2=0→t.kind=2→t.limits.length=0→PSp Tryz.prog 82 [.agg (tyC t)] (.one (.t (spans (yR t)))))
  (h90:(fZ t).2=0→t.kind=2→t.limits.length≠0→(spL t.limits t.limits.length (dG t.limits)).length≤1000∧PSp Tryz.prog 90 [.one (.t (aJ t.limits)),.one (.t (I ((dG t.limits:Nat):Int)))] (.one (.t (spans (spL t.limits t.limits.length (dG t.limits)))))):
  PSp Tryz.prog 43 [.agg (tyC t)] (.tup [.agg (cell (sG t).1),.one (.t (.bool (sG t).2.1)),.one (.t (I (sG t).2.2))]):=by
 have p80:=P80 t hn
 have right:(fZ t).2=0→∃bg,eX t.limits bg∧(∀x∈t.limits,x.ok=true)∧t.limits.length≤20:=fun h=>by
  have ht:=eO t (kP h).1
  obtain⟨hlen,bg,T⟩:=bW ht
  exact⟨bg,T,jZ ht,hlen⟩
 obtain⟨R,hR⟩:∃ R,sG t=R:=⟨_,rfl⟩
 obtain⟨k,hk⟩:∃ k,(t.kind==2)=k:=⟨_,rfl⟩
 have eE:oN t=bQ [(fZ t).2,if k then 0 else 4]:=by rw[oN,hk]
 rw[hR]
 rw[sG,eE]at hR
 generalize (fZ t).2=e at*
 have p79:=P79 [e,if k then 0 else 4] (by simp[short])
 have hz:bQ [e,if k then 0 else 4]=0→e=0∧k=true:=fun h=>by
  simp only[bL,dD]at h
  by_cases q:e=0
  ·cases k
   ·simp[q]at h
   ·exact⟨q,rfl⟩
  ·simp[q]at h
 generalize bQ [e,if k then 0 else 4]=E at*
 refine k43.aH (by simp) (by simp[D.closed,A.closed]) rfl ?_
 simp -implicitDefEqProofs [-aA,-gval]
 refine aD.bK p80 rfl ?_
 simp -implicitDefEqProofs [-aA,-gval,hk]
 refine aD.bK (P81 k 4) rfl ?_
 simp -implicitDefEqProofs [-aA,-gval]
 refine aD.draw p79 (by simp) (by simp) (.inl rfl) ?_
 rcases eqCases E 0 with z | z
 ·obtain⟨z1,z2⟩:=hz z
  obtain⟨bg,T,hok,hl⟩:=right z1
  subst z2
  have k2:t.kind=2:=by simpa using hk
  have p74:=P74 T hok hl
  by_cases q:t.limits.length=0
  ·have c:=h82 z1 k2 q
   have ql:t.limits=[]:=List.length_eq_zero_iff.1 q
   have e1:(jP t.limits).1= -1:=by simp[jP,ql]
   have hR:R=mR t (yR t):=by rw[←hR,z,ql];rfl
   have p89:=P89 t T hok hl (yR t) (by simp[yR,ql,k2,aEW])
   rw[←hR]at p89
   generalize yR t=S at*
   rw[e1]at p74
   simp -implicitDefEqProofs [-aA,-gval,z]
   refine aD.tree p74 rfl ?_
   simp -implicitDefEqProofs [-aA,-gval]
   refine aD.bK c rfl ?_
   simp -implicitDefEqProofs [-aA,-gval]
   refine aD.bK p89 rfl ?_
   simp -implicitDefEqProofs [-aA,-gval,cell,aB]
  ·obtain⟨c1,c2⟩:=h90 z1 k2 q
   have qN:(t.limits.length==0)=false:=by simpa using q
   have e1:(jP t.limits).1=((dG t.limits:Nat):Int):=by simp[jP,qN]
   have hR:R=mR t (spL t.limits t.limits.length (dG t.limits)):=by rw[←hR,z,qN];rfl
   have p89:=P89 t T hok hl _ c1
   rw[←hR]at p89
   generalize spL t.limits t.limits.length (dG t.limits)=S at*
   have nn:¬ ((dG t.limits:Nat):Int)<0:=by omega
   have nn2:(0:Int)≤((dG t.limits:Nat):Int):=by omega
   rw[e1]at p74
   generalize dG t.limits=r at*
   simp -implicitDefEqProofs [-aA,-gval,z]
   refine aD.tree p74 rfl ?_
   simp -implicitDefEqProofs [-aA,-gval,nn]
   refine aD.bK c2 rfl ?_
   simp -implicitDefEqProofs [-aA,-gval]
   refine aD.bK p89 rfl ?_
   simp -implicitDefEqProofs [-aA,-gval,cell,aB]
 ·have hR:R=((0,0),false,E):=by rw[←hR,if_pos z.2.2.2.2.1]
  subst hR
  simp -implicitDefEqProofs [-aA,-gval,z,cell,aB]
end Go.Proofs.YtdpbobkcbakpfaaGreatDoor

namespace Go.Proofs.YtdpbobkcbakpfaaGreatDoor
open Go Go.Ab
set_option maxRecDepth 100000
set_option maxHeartbeats 4000000
attribute [local simp] bH aM aS aJ aW aN bB tyC fdC vlC ndC aL D.cV D.pt
theorem aCG {l:List Nd} {bg:List Nat} {P Q:Nat→Prop} (H:aJ9 l bg P Q):∀ n i,i<n→i<l.length→P i→(spL l n i).length≤1000∧PSp Tryz.prog 90 [.one (.t (aJ l)),.one (.t (I ((i:Nat):Int)))] (.one (.t (spans (spL l n i)))):=fun n i h1 h2 h3=>
 ⟨by have:=(aCF H n i h1 h2 h3).2.2;omega,Q90 ⟨H.tree,H.few,H.ok,fun n i a b c=>by
  obtain⟨x,y,z⟩:=aCF H n i a b c
  exact⟨x,y,by omega⟩,fun p x hx hp k1=>((H.node p x hx hp).2.2.2 k1).1,H.edge⟩ n i h1 h2 h3⟩
theorem aCH (t:Ty) (hn:t.narrow=true) (v:Vl) (hv:v.fine) (hvs:v.s.size≤1000000):
  PSp Tryz.prog 22 [.agg (tyC t),.agg (vlC v)] (.tup [.one (.t (.bool (cO t v==0&&aAI t v))),.one (.t (I (cO t v)))])∧
  PSp Tryz.prog 24 [.agg (tyC t),.agg (vlC v)] (.tup [.one (.t (.bool (cO t v==0&&aAJ t v))),.one (.t (I (cO t v)))]):=by
 have c71:=P71 t hn v hv hvs fun h=>(sE h).1
 refine⟨P22 t v c71 fun h hl=>?_,P24 t v c71 fun h=>?_⟩
 ·obtain⟨h1,_,_⟩:=val_zero h
  obtain⟨bg,P,Q,H⟩:=sF h1 hl
  exact⟨H.few,P72 H.tree H.ok v hvs P Q H.from_ (aCG H) _ _ (by omega) (by omega) H.last⟩
 ·obtain⟨h1,_,_⟩:=val_zero h
  have ht:=eO t (kP h1).1
  obtain⟨hlen,bg,T⟩:=bW ht
  refine⟨⟨bg,T⟩,jZ ht,hlen,fun hl=>?_⟩
  obtain⟨bg,P,Q,H⟩:=sF h1 hl
  have hr:=vR H.tree H.ok hl
  exact P72 H.tree H.ok v hvs P Q H.from_ (aCG H) _ _ hr hr (aEX H hl)
end Go.Proofs.YtdpbobkcbakpfaaGreatDoor

namespace Go.Proofs.YtdpbobkcbakpfaaGreatDoor
open Go Go.Ab
set_option maxRecDepth 100000
set_option maxHeartbeats 4000000
attribute [local simp] bH aM aS aJ aW aN bB tyC fdC vlC ndC aL D.cV D.pt
def exT:Ty:= .mk 2 (bs []) [] [] false 0 [] [⟨0,1,5,bs [],[]⟩,⟨0,8,8,bs [],[]⟩,⟨7,0,0,bs [],[0,1]⟩]
def exV:Vl:= .mk 2 8 0 (bs []) [] []
attribute [local simp] c56r0 c56r1 c56 in
theorem P56:PSp Tryz.prog 56 [] (.agg (tyC exT)):=by
 refine k56.aH (by simp) (by simp[]) rfl ?_
 simp -implicitDefEqProofs [-aA,-gval,exT,tyC,aB]
 and_intros<;>rfl
attribute [local simp] c40 in
theorem P40 (n:Int):PSp Tryz.prog 40 [.one (.t (I n))] (.agg (vlC (.mk 2 n 0 (bs []) [] []))):=by
 refine k40.aH (by simp) (by simp[D.closed,A.closed]) rfl ?_
 simp -implicitDefEqProofs [-aA,-gval,vlC,aB]
 and_intros<;>rfl
theorem aJB:exT.narrow=true∧exV.fine∧cO exT exV=0∧aAI exT exV=true∧aAJ exT exV=false∧sG exT=((1,5),true,0):=by
 refine⟨by kernel_rfl,Vl.rT _ (by kernel_rfl),by kernel_rfl,by kernel_rfl,by kernel_rfl,by kernel_rfl⟩
theorem aLO:(spL exT.limits exT.limits.length (dG exT.limits)).length≤1000∧PSp Tryz.prog 90 [.one (.t (aJ exT.limits)),.one (.t (I ((dG exT.limits:Nat):Int)))] (.one (.t (spans (spL exT.limits exT.limits.length (dG exT.limits))))):=by
 have ht:bI exT.limits=true:=by kernel_rfl
 obtain⟨hlen,bg,T⟩:=bW ht
 have e0:dG exT.limits=0:=by kernel_rfl
 have e1:∀ n,0<n→spL exT.limits n 0=[(1,5)]:=fun n hn=>by
  obtain⟨m,rfl⟩:∃ m,n=m+1:=⟨n - 1,by omega⟩
  rfl
 have e2:∀ p x,exT.limits[p]? =some x→p=0→x=⟨0,1,5,bs [],[]⟩:=fun p x hx hp=>by
  subst hp
  exact(Option.some.inj hx).symm
 have H:aQU exT.limits bg (· =0):=⟨T,hlen,jZ ht,fun n i h1 _ h3=>by
  subst h3
  rw[e1 n h1]
  exact⟨⟨by decide,by simp,trivial⟩,by decide,by decide⟩,fun p x hx hp k1=>(by rw[e2 p x hx hp]at k1;cases k1),fun p x hx hp c hc=>(by rw[e2 p x hx hp]at hc;cases hc)⟩
 rw[e0]
 exact⟨by rw[e1 _ (by decide)];decide,Q90 H _ 0 (by decide) (by decide) rfl⟩
attribute [local simp] c12 in
theorem aNY:PSp Tryz.prog 12 [] (.one (.t (.bool true))):=by
 obtain⟨hn,hv,e1,e2,e3,e4⟩:=aJB
 obtain⟨p22,p24⟩:=aCH exT hn exV hv (by decide)
 have p43:=P43 exT hn (fun _ _ h=>absurd h (by decide)) fun _ _ _=>aLO
 rw[e1,e2]at p22
 rw[e1,e3]at p24
 rw[e4]at p43
 have p56:=P56
 have p40:PSp Tryz.prog 40 [.one (.t (I 8))] (.agg (vlC exV)):=P40 8
 generalize exT=t at*
 generalize exV=v at*
 refine k12.aH (by simp) (by simp[]) rfl ?_
 simp -implicitDefEqProofs [-aA,-gval]
 refine aD.tree p56 rfl ?_
 simp -implicitDefEqProofs [-aA,-gval]
 refine aD.tree p40 rfl ?_
 simp -implicitDefEqProofs [-aA,-gval]
 refine aD.tree p22 rfl ?_
 simp -implicitDefEqProofs [-aA,-gval]
 refine aD.tree p56 rfl ?_
 simp -implicitDefEqProofs [-aA,-gval]
 refine aD.tree p40 rfl ?_
 simp -implicitDefEqProofs [-aA,-gval]
 refine aD.tree p24 rfl ?_
 simp -implicitDefEqProofs [-aA,-gval]
 refine aD.tree p56 rfl ?_
 simp -implicitDefEqProofs [-aA,-gval]
 refine aD.tree p43 rfl ?_
 simp -implicitDefEqProofs [-aA,-gval,cell,aB]
end Go.Proofs.YtdpbobkcbakpfaaGreatDoor

namespace Go.Proofs.YtdpbobkcbakpfaaGreatDoor
open Go Go.Ab
set_option maxRecDepth 100000
set_option maxHeartbeats 4000000
attribute [local simp] bH aM aS aJ aW aN bB tyC fdC vlC ndC aL D.cV D.pt
attribute [local simp] c4t3 c4t6 c4t12 c4t14 c4t15 c4t16 c4t17 c4t18 c4t19 c4 in
theorem P4 (t:Ty) (v:Vl) (ht:t.fine) (hv:v.fine):PSp Tryz.prog 4 [.agg (tyC t),.agg (vlC v)] (.one (.t (.bool true))):=by
 have p13:=P13 t ht
 have p21:=P21 v hv
 have rest:t.tiny=true→v.few=true→t.narrow=true∧v.slim=true∧v.s.size≤1000000∧v.items.length≤1000000:=fun h1 h2=>by
  rw[Ty.tiny,Bool.and_eq_true]at h1
  have s:=Vl.qT h2
  obtain⟨s1,_,s3,_⟩:=(Vl.uZ v).1 s
  exact⟨h1.2,s,by omega,by omega⟩
 generalize t.tiny=b at*
 generalize v.few=d at*
 refine k4.aH (by simp) (by simp[D.closed,A.closed]) rfl ?_
 simp -implicitDefEqProofs [-aA,-gval]
 refine aD.tree aNY rfl ?_
 simp -implicitDefEqProofs [-aA,-gval]
 refine aD.tree p13 rfl ?_
 cases b
 ·simp -implicitDefEqProofs [-aA,-gval,aB]
 ·simp -implicitDefEqProofs [-aA,-gval]
  refine aD.tree p21 rfl ?_
  cases d
  ·simp -implicitDefEqProofs [-aA,-gval,aB]
  ·obtain⟨hn,hs,hvs,hvi⟩:=rest rfl rfl
   obtain⟨p22,p24⟩:=aCH t hn v hv hvs
   have p15:=P15 t hn
   have p23:=P23 v hs
   have p25:=P25 t hn v hv hvs
   rw[←aJ8]at p25
   have good:cO t v=0→PSp Tryz.prog 26 [.agg (tyC t),.agg (vlC v)] (.one (.t (.bool (aAI t v))))∧PSp Tryz.prog 27 [.agg (tyC t),.agg (vlC v)] (.one (.t (.bool (aAJ t v)))):=fun h=>by
    obtain⟨e1,e2⟩:=aJA h
    have h0:=eO t (kP (val_zero h).1).1
    have hts:∀ x∈t.limits,x.s.size≤500:=fun x hx=>(((Ty.aU t).1 hn).2.2.2.2.2.1 x hx).1
    rw[e1,e2]
    exact⟨P26 t v h0 hts hvs hvi,P27 t v h0 hts hvs hvi⟩
   generalize cO t v=e at*
   generalize aAI t v=a at*
   generalize aAJ t v=c at*
   simp -implicitDefEqProofs [-aA,-gval]
   refine aD.bK p15 rfl ?_
   simp -implicitDefEqProofs [-aA,-gval]
   refine aD.bK p23 rfl ?_
   simp -implicitDefEqProofs [-aA,-gval]
   refine aD.bK p22 rfl ?_
   simp -implicitDefEqProofs [-aA,-gval]
   refine aD.bK p15 rfl ?_
   simp -implicitDefEqProofs [-aA,-gval]
   refine aD.bK p23 rfl ?_
   simp -implicitDefEqProofs [-aA,-gval]
   refine aD.bK p24 rfl ?_
   simp -implicitDefEqProofs [-aA,-gval]
   refine aD.tree p25 rfl ?_
   rcases eqCases e 0 with z | z
   ·obtain⟨p26,p27⟩:=good z
    simp -implicitDefEqProofs [-aA,-gval,z]
    refine aD.tree p26 rfl ?_
    simp -implicitDefEqProofs [-aA,-gval]
    refine aD.tree p27 rfl ?_
    simp -implicitDefEqProofs [-aA,-gval,aB]
   ·simp -implicitDefEqProofs [-aA,-gval,z,aB]
end Go.Proofs.YtdpbobkcbakpfaaGreatDoor

