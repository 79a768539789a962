/- Texts of this proof. -/
import Derived.Deep.LoopGhost
import Derived.CallsIn
import Derived.RangeFuncLeaves
import Derived.RangeFuncRecord
import Derived.KernelRfl
import Derived.Test.YtdpbobkcbakpfaaGreatDoorMraA
namespace Go.Ab
set_option maxHeartbeats 4000000
section
open Go
variable {P:Program} {w w':World} {F F':Fix} {ν ν':Nu} {h:Hp} {nx:Nat} {tm:Nat→D} {a:Act}
def qL(w:World)(F:Fix)(ν:Nu)(xs:List D)(vs:Array Value):Prop:=
 xs.length=vs.size∧∀(k:Nat) x u,xs[k]? =some x→vs[k]? =some u→VD w F ν x u
theorem Sim.more(hs:Sim w F ν h nx){nx':Nat}(hn:nx≤nx'):Sim w F ν h nx':=
 ⟨hs.fixed,hs.obj,fun id bv h=>by obtain⟨h1,h2⟩:=hs.dom id bv h;exact⟨Nat.lt_of_lt_of_le h1 hn,h2⟩,hs.inj,hs.glob⟩
def Spec(P:Program)(f:FuncId)(h:Hp)(n:Nat)(xs:List D)(Q:D→Hp→Prop):Prop:=
 ∀w F ν vs,Sim w F ν h n→qL w F ν xs vs→Calls P f vs w fun e w'=>
  ∃r v h' F' ν',e= .returned v∧Q r h'∧Sim w' F' ν' h' (n+1)∧VD w' F' ν' r v∧Frame w F ν w' F' ν'
def PSp(P:Program)(f:FuncId)(xs:List D)(r:D):Prop:=
 ∀h n,Spec P f h n xs fun d h'=>d=r∧h'=h
def ISp(P:Program)(f:FuncId)(h:Hp)(n:Nat)(xs:List D)(r:D)(h':Hp):Prop:=
 Spec P f h n xs fun d h''=>d=r∧h''=h'
def jM:Hp:=fun _=>none
def qZ:Nu:=fun _=>none
def A.closed:A→Bool
 | .t _=>true
 | .tt _ _=>true
 | .into _=>true
 | .fn _ caps=>caps.isEmpty
 | .undef=>true
 | _=>false
def D.closed:D→Bool
 | .one x=>x.closed
 | .agg cs=>cs.all A.closed
 | .tup xs=>xs.all fun | .one x=>x.closed | .agg cs=>cs.all A.closed
theorem VA.uK{x:A}{v:Value}(hv:VA w F ν x v)(hc:x.closed=true):VA w F ν' x v:=by
 cases x with
 | t x=>exact hv
 | tt sz rs=>exact hv
 | into cs=>exact hv
 | undef=>exact hv
 | fn f caps=>
  obtain⟨us,h1,h2,h3⟩:=hv;have:caps=[]:=by simpa[A.closed]using hc
  subst this;exact⟨us,h1,h2,fun k p u hp=>by simp at hp⟩
 | ref=>simp[A.closed]at hc
 | ptr=>simp[A.closed]at hc
theorem VD.uK{x:D}{v:Value}(hv:VD w F ν x v)(hc:x.closed=true):VD w F ν' x v:=by
 cases x with
 | one x=>exact VA.uK hv hc
 | agg cs=>
  obtain⟨us,h1,h2,h3⟩:=hv;exact⟨us,h1,h2,fun k y u hy hu=>(h3 k y u hy hu).uK (List.all_eq_true.1 hc y (gM9 hy))⟩
 | tup xs=>
  obtain⟨us,h1,h2,h3⟩:=hv;refine⟨us,h1,h2,fun k y u hy hu=>?_⟩;have h4:=h3 k y u hy hu;have h5:=List.all_eq_true.1 hc y (gM9 hy);cases y with
  | one y=>exact VA.uK h4 h5
  | agg cs=>
   obtain⟨us',g1,g2,g3⟩:=h4;exact⟨us',g1,g2,fun k z u hz hu=>(g3 k z u hz hu).uK (List.all_eq_true.1 h5 z (gM9 hz))⟩
theorem Sim.bare(hF:∀ b o,F b o→b<w.heap.size)(hg:Glob w F)(n:Nat):Sim w F qZ jM n:=
 {fixed:=hF
  obj:=fun id o (h:(none:Option O)=some o)=>by cases h
  dom:=fun id bv (h:(none:Option (Nat×Nat))=some bv)=>by cases h
  inj:=fun i j b v v' (h:(none:Option (Nat×Nat))=some (b,v))=>by cases h
  glob:=hg }
theorem VA.wider{x:A}{v:Value}(hv:VA w F ν x v)(hF:∀ b o,F b o→F' b o):VA w F' ν x v:=by
 cases x with
 | t x=>exact VT.mono hv (fun _ _ _=>rfl) hF
 | tt sz rs=>exact⟨VT.mono hv.1 (fun _ _ _=>rfl) hF,hv.2⟩
 | into cs=>
  obtain⟨b,off,h1,h2⟩:=hv;exact⟨b,off,h1,fun j x hx=>by obtain⟨u,h3,h4,h5⟩:=h2 j x hx;exact⟨u,h3,hF _ _ h4,h5.mono (fun _ _ _=>rfl) hF⟩⟩
 | ref=>exact hv
 | ptr=>exact hv
 | fn=>exact hv
 | undef=>exact hv
theorem Spec.beside{f:FuncId}{xs:List D}{r:D}(hsp:Spec P f jM 0 xs fun d _=>d=r)(hx:∀ x∈xs,x.closed=true)(hr:r.closed=true):PSp P f xs r:=by
 intro h n w F ν vs hs hv;have h0:Sim w F qZ jM 0:=Sim.bare hs.fixed hs.glob 0;refine(hsp w F qZ vs h0 ⟨hv.1,fun k x u hk hu=>(hv.2 k x u hk hu).uK (hx x (gM9 hk))⟩).mono ?_;rintro e w' ⟨d,v,h',F',ν',rfl,rfl,hs',hv',hf⟩
 have hF1:∀ b o,F' b o→F b o∨(w.heap.size≤b∧b<w'.heap.size):=fun b o hb=>by
  rcases hf.new b o hb with h1 | h1 | ⟨id,ver,h1⟩
  ·exact .inl h1
  ·exact .inr ⟨h1,hs'.fixed b o hb⟩
  ·cases h1
 obtain⟨g1,g2⟩:=hs.ext ⟨hf.os,hf.tape,hf.output⟩ hf.size (fun b hb=>hf.keep b hb fun id ver hh=>by cases hh) hf.sub hF1;exact⟨d,v,h,F',ν,rfl,⟨rfl,rfl⟩,g1.more (Nat.le_add_right _ _),hv'.uK hr,g2⟩
def A.frz(h:Hp):Nat→A→T
 | 0,x=>x.tree
 | k+1,.ref id _ off len sz _=> .rows sz ((((h.rows id).drop off).take len).map (·.map (A.frz h k)))
 | _+1,x=>x.tree
def A.cE(h:Hp):Nat→A→Prop
 | _,.t _=>True
 | _,.tt _ _=>True
 | k+1,.ref id ver off len sz _=>alive h id ver∧h.sz id=sz∧off+len≤(h.rows id).length∧∀r∈((h.rows id).drop off).take len,∀x∈r,A.cE h k x
 | _,_=>False
def aT:Nat:=3
def A.ids(h:Hp):Nat→A→List Nat
 | k+1,.ref id _ off len _ _=>id::(((h.rows id).drop off).take len).flatMap fun r=>r.flatMap (A.ids h k)
 | _,_=>[]
theorem gW(hs:Sim w F ν h nx)(hF:∀ b o,F b o→F' b o):∀ (k:Nat) (x:A) (v:Value),VA w F ν x v→x.cE h k→
  (∀id∈x.ids h k,∀b ver,ν id=some (b,ver)→∀o,o<(h.rows id).length*h.sz id→F' b o)→VT w F' (x.frz h k) v:=by
 intro k
 induction k with
 | zero=>
  intro x v hv hok _;cases x with
  | t x=>exact VT.mono hv (fun _ _ _=>rfl) hF
  | tt sz rs=>exact VT.mono hv.1 (fun _ _ _=>rfl) hF
  | _=>exact hok.elim
 | succ k ih=>
  intro x v hv hok hid;cases x with
  | t x=>exact VT.mono hv (fun _ _ _=>rfl) hF
  | tt sz rs=>exact VT.mono hv.1 (fun _ _ _=>rfl) hF
  | ref id ver off len sz tight=>
   obtain⟨ha,hsz,hlen,hcells⟩:=hok;obtain⟨b,ver',h1,h2⟩:=hv;obtain⟨b',e',m,h3,h4,h5,h6,h7,h8,h9⟩:=hs.obj _ _ (gU ha);rw[h1]at h3;simp only[sI9,Prod.mk.injEq]at h3;obtain⟨rfl,rfl⟩:=h3;rcases h2 with⟨h2,_⟩ | ⟨_,cap,e1,n,rfl,_,hcap,_⟩
   ·omega
   simp only[A.ids,List.mem_cons,List.mem_flatMap]at hid;have hl:len=((((h.rows id).drop off).take len).map (·.map (A.frz h k))).length:=by simp;omega
   simp only[A.frz]
   suffices hg:VT w F' (.rows sz ((((h.rows id).drop off).take len).map (·.map (A.frz h k)))) (.slice (some ⟨b,off*sz,none⟩) ((((h.rows id).drop off).take len).map (·.map (A.frz h k))).length cap)by rw[←hl]at hg;exact hg
   refine lH (by rw[←hl];exact hcap) (fun r hr=>?_) fun i j r x hi hj=>?_
   ·obtain⟨r0,hr0,rfl⟩:=List.mem_map.1 hr;rw[List.length_map,h6 r0 (List.mem_of_mem_drop (List.mem_of_mem_take hr0)),hsz]
   ·rw[List.getElem?_map]at hi;simp only[oM9]at hi;obtain⟨r0,hi,rfl⟩:=hi;rw[List.getElem?_map]at hj;simp only[oM9]at hj;obtain⟨x0,hj,rfl⟩:=hj;have hr0:=gM9 hi;have hx0:=gM9 hj;rw[List.getElem?_take]at hi;split at hi
    ·rw[List.getElem?_drop]at hi;obtain⟨_,u,g1,g2⟩:=h8 _ j r0 x0 hi hj;rw[hsz,Nat.add_mul]at g1;have hjs:j<sz:=by rw[←hsz,←h6 r0 (gM9 hi)];exact(gS9.1 hj).1
     have hil:=(gS9.1 hi).1;refine⟨u,g1,hid id (.inl rfl) b _ h1 _ ?_,ih x0 u g2 (hcells r0 hr0 x0 hx0) fun id' hid'=>hid id' (.inr ⟨r0,hr0,x0,hx0,hid'⟩)⟩;have:(off+i+1)*sz≤(h.rows id).length*sz:=Nat.mul_le_mul_right _ hil;rw[Nat.add_mul,Nat.add_mul]at this;rw[hsz];omega
    ·cases hi
  | _=>exact hok.elim
def D.frz(h:Hp):D→D
 | .one (.fn f caps)=> .one (.fn f caps)
 | .one (.into cs)=> .one (.into cs)
 | .one x=> .one (.t (x.frz h aT))
 | .agg cs=> .agg (cs.map fun x=> .t (x.frz h aT))
 | .tup xs=> .tup (xs.map fun | .one x=> .one (.t (x.frz h aT)) | .agg cs=> .agg (cs.map fun x=> .t (x.frz h aT)))
def D.cE(h:Hp):D→Prop
 | .one (.fn _ caps)=>caps=[]
 | .one (.into _)=>True
 | .one x=>x.cE h aT
 | .agg cs=>∀ x∈cs,x.cE h aT
 | .tup xs=>∀ x∈xs,match x with | .one x=>x.cE h aT | .agg cs=>∀ x∈cs,x.cE h aT
def D.ids(h:Hp):D→List Nat
 | .one x=>x.ids h aT
 | .agg cs=>cs.flatMap (A.ids h aT)
 | .tup xs=>xs.flatMap fun | .one x=>x.ids h aT | .agg cs=>cs.flatMap (A.ids h aT)
theorem wI(hs:Sim w F ν h nx)(hF:∀ b o,F b o→F' b o){cs:List A}{us:List Value}(hv:VL (VA w F ν) cs us)(hok:∀ x∈cs,x.cE h aT)
  (hid:∀ id∈cs.flatMap (A.ids h aT),∀b ver,ν id=some (b,ver)→∀o,o<(h.rows id).length*h.sz id→F' b o):VL (VA w F' ν') (cs.map fun x=> .t (x.frz h aT)) us:=
 ⟨by rw[List.length_map];exact hv.1,fun k x u hx hu=>by
  rw[List.getElem?_map]at hx;simp only[oM9]at hx;obtain⟨y,hy,rfl⟩:=hx;have hm:=gM9 hy
  exact gW hs hF aT y u (hv.2 k y u hy hu) (hok y hm) fun id hi=>hid id (List.mem_flatMap.2 ⟨y,hm,hi⟩)⟩
theorem D.gW(hs:Sim w F ν h nx)(hF:∀ b o,F b o→F' b o){d:D}{v:Value}(hv:VD w F ν d v)(hok:d.cE h)
  (hid:∀ id∈d.ids h,∀b ver,ν id=some (b,ver)→∀o,o<(h.rows id).length*h.sz id→F' b o):VD w F' ν' (d.frz h) v:=by
 cases d with
 | one x=>
  cases x with
  | fn f caps=>
   simp only[D.cE]at hok;subst hok;obtain⟨us,h1,h2,h3⟩:=hv;exact⟨us,h1,h2,fun k p u hp=>by simp at hp⟩
  | into cs=>exact(VA.wider (show VA w F ν (.into cs) v from hv) hF).uK (ν':=ν') rfl
  | t x=>exact Ab.gW hs hF aT (.t x) v hv hok hid
  | tt sz rs=>exact Ab.gW hs hF aT (.tt sz rs) v hv hok hid
  | ref id ver off len sz tight=>exact Ab.gW hs hF aT (.ref id ver off len sz tight) v hv hok hid
  | ptr p=>exact hok.elim
  | undef=>exact hok.elim
 | agg cs=>
  obtain⟨us,h1,h2⟩:=hv;exact⟨us,h1,wI hs hF h2 hok hid⟩
 | tup xs=>
  obtain⟨us,h1,h2,h3⟩:=hv;refine⟨us,h1,by simpa using h2,fun k x u hx hu=>?_⟩;rw[List.getElem?_map]at hx;simp only[oM9]at hx;obtain⟨y,hy,rfl⟩:=hx;have hm:=gM9 hy;have h4:=h3 k y u hy hu;have h5:=hok y hm;cases y with
  | one y=>exact Ab.gW hs hF aT y u h4 h5 fun id hi=>hid id (List.mem_flatMap.2 ⟨_,hm,hi⟩)
  | agg cs=>
   obtain⟨us',g1,g2⟩:=h4;exact⟨us',g1,wI hs hF g2 h5 fun id hi=>hid id (List.mem_flatMap.2 ⟨_,hm,hi⟩)⟩
end
section
open Go
variable {P:Program} {w w':World} {F F':Fix} {ν ν':Nu} {h:Hp} {nx:Nat} {tm:Nat→D} {a:Act}
def T.scalar:T→Bool
 | .rows _ _=>false
 | _=>true
def A.scalar:A→Bool
 | .t x=>x.scalar
 | _=>false
def D.scalar:D→Bool
 | .one x=>x.scalar
 | .agg cs=>cs.all A.scalar
 | .tup xs=>xs.all fun | .one x=>x.scalar | .agg cs=>cs.all A.scalar
def O.close:O→O
 | .arr ver _ sz rs=> .arr ver true sz rs
def Hp.close(h:Hp)(ids:List Nat):Hp:=fun j=>if j∈ids then(h j).map O.close else h j
def aOZ(P:Program)(f:FuncId)(xs:List D)(h:Hp)(new:Nat)(d:D)(h':Hp):Prop:=
 ((∀x∈xs,x.cE h)∧PSp P f (xs.map (D.frz h)) d∧h'=if d.scalar then h else h.close (xs.flatMap (D.ids h)))∨ISp P f h new xs d h'
theorem VA.scalar{x:A}{v:Value}(hv:VA w F ν x v)(hx:x.scalar=true):VA w F' ν' x v:=by
 cases x with
 | t x=>cases x with
  | rows=>simp[A.scalar,T.scalar]at hx
  | int=>simpa[VA]using hv
  | bool=>simpa[VA]using hv
  | str=>simpa[VA]using hv
  | nilp=>simpa[VA]using hv
  | nilf=>cases hv;exact .nilf
 | _=>simp[A.scalar]at hx
theorem VD.scalar{x:D}{v:Value}(hv:VD w F ν x v)(hx:x.scalar=true):VD w F' ν' x v:=by
 cases x with
 | one x=>exact VA.scalar hv hx
 | agg cs=>
  obtain⟨us,h1,h2,h3⟩:=hv;exact⟨us,h1,h2,fun k y u hy hu=>(h3 k y u hy hu).scalar (List.all_eq_true.1 hx y (gM9 hy))⟩
 | tup xs=>
  obtain⟨us,h1,h2,h3⟩:=hv;refine⟨us,h1,h2,fun k y u hy hu=>?_⟩;have h4:=h3 k y u hy hu;have h5:=List.all_eq_true.1 hx y (gM9 hy);cases y with
  | one y=>exact VA.scalar h4 h5
  | agg cs=>
   obtain⟨us',g1,g2,g3⟩:=h4;exact⟨us',g1,g2,fun k z u hz hu=>(g3 k z u hz hu).scalar (List.all_eq_true.1 h5 z (gM9 hz))⟩
theorem Sim.closeAll(hs:Sim w F ν h nx)(ids:List Nat):
  Sim w (fun b o=>F b o∨∃id ver,id∈ids∧ν id=some (b,ver)∧o<(h.rows id).length*h.sz id) ν (h.close ids) nx∧
   Frame w F ν w (fun b o=>F b o∨∃id ver,id∈ids∧ν id=some (b,ver)∧o<(h.rows id).length*h.sz id) ν:=by
 have fr:Frame w F ν w (fun b o=>F b o∨∃id ver,id∈ids∧ν id=some (b,ver)∧o<(h.rows id).length*h.sz id) ν:=
  {Frame.refl w F ν with
   sub:=fun b o h=> .inl h
   new:=fun b o h=>h.imp id fun⟨id,ver,_,h2,_⟩=> .inr ⟨id,ver,h2⟩ }
 refine⟨⟨fun b o hb=>?_,fun id o ho=>?_,fun id bv hn=>?_,hs.inj,fr.glob hs.glob⟩,fr⟩
 ·rcases hb with hb | ⟨id,ver,_,h2,_⟩
  ·exact hs.fixed b o hb
  ·exact hs.fY h2
 ·have key:∀ ver shut sz rs,h id=some (.arr ver shut sz rs)→OR w (fun b o=>F b o∨∃id ver,id∈ids∧ν id=some (b,ver)∧o<(h.rows id).length*h.sz id) ν id (.arr ver (shut||decide (id∈ids)) sz rs):=by
   intro ver shut sz rs hh;obtain⟨b,e,n,g1,g2,g3,g4,g5,g6,g7⟩:=hs.obj id _ hh;refine⟨b,e,n,g1,g2,g3,g4,g5,fun i j r x hi hj=>?_,fun o hFo=>?_⟩
   ·obtain⟨k1,u,k2,k3⟩:=g6 i j r x hi hj;exact⟨k1,u,k2,k3.mono fr⟩
   ·rcases hFo with hFo | ⟨id',ver',m1,m2,m3⟩
    ·obtain⟨q1,q2⟩:=g7 o hFo;exact⟨by rw[q1];rfl,q2⟩
    ·have e1:id'=id:=hs.inj _ _ _ _ _ m2 g1;subst e1;refine⟨by simp[m1],?_⟩;simpa[Hp.rows,Hp.sz,hh]using m3
  by_cases hm:id∈ids
  ·simp only[Hp.close,hm,if_true,oM9]at ho;obtain⟨o0,ho,rfl⟩:=ho;cases o0 with
   | arr ver shut sz rs=>
    have:=key ver shut sz rs ho;simpa[hm,O.close]using this
  ·simp only[Hp.close,hm,if_false]at ho;cases o with
   | arr ver shut sz rs=>
    have:=key ver shut sz rs ho;simpa[hm]using this
 ·obtain⟨g1,g2,o,g3⟩:=hs.dom id bv hn;refine⟨g1,g2,?_⟩
  by_cases hm:id∈ids
  ·exact⟨o.close,by simp[Hp.close,hm,g3]⟩
  ·exact⟨o,by simp[Hp.close,hm,g3]⟩
theorem VA.tJ{x:A}{v:Value}(hv:VA w F qZ x v):VA w F ν x v:=by
 cases x with
 | t x=>exact hv
 | tt sz rs=>exact hv
 | into cs=>exact hv
 | undef=>exact hv
 | ref id ver off len sz tight=>obtain⟨b,v',h1,_⟩:=hv;cases h1
 | ptr p=>obtain⟨b,v',h1,_⟩:=hv;cases h1
 | fn f caps=>
  obtain⟨us,h1,h2,h3⟩:=hv;exact⟨us,h1,h2,fun k p u hp hu=>by obtain⟨b,v',h4,_⟩:=h3 k p u hp hu;cases h4⟩
theorem VD.tJ{x:D}{v:Value}(hv:VD w F qZ x v):VD w F ν x v:=by
 cases x with
 | one x=>exact VA.tJ hv
 | agg cs=>
  obtain⟨us,h1,h2,h3⟩:=hv;exact⟨us,h1,h2,fun k y u hy hu=>(h3 k y u hy hu).tJ⟩
 | tup xs=>
  obtain⟨us,h1,h2,h3⟩:=hv;refine⟨us,h1,h2,fun k y u hy hu=>?_⟩;have h4:=h3 k y u hy hu;cases y with
  | one y=>exact VA.tJ h4
  | agg cs=>
   obtain⟨us',g1,g2,g3⟩:=h4;exact⟨us',g1,g2,fun k z u hz hu=>(g3 k z u hz hu).tJ⟩
theorem uL(hs:Sim w F ν h nx){f:FuncId}{xs:List D}{vs:Array Value}(hv:qL w F ν xs vs){d:D}{h':Hp}(h1:∀ x∈xs,x.cE h)(h2:PSp P f (xs.map (D.frz h)) d)(h3:h'=if d.scalar then h else h.close (xs.flatMap (D.ids h))):
  Calls P f vs w fun e w'=>∃ v F' ν',e= .returned v∧VD w' F' ν' d v∧Sim w' F' ν' h' nx∧Frame w F ν w' F' ν':=by
 obtain⟨s1,fr1⟩:=hs.closeAll (xs.flatMap (D.ids h));generalize hFc:(fun b o=>F b o∨∃id ver,id∈xs.flatMap (D.ids h)∧ν id=some (b,ver)∧o<(h.rows id).length*h.sz id:Fix)=Fc at s1 fr1;have hsub:∀ b o,F b o→Fc b o:=fun b o hb=>by rw[←hFc];exact .inl hb
 refine(h2 jM 0 w Fc qZ vs (Sim.bare s1.fixed s1.glob 0) ⟨by rw[List.length_map];exact hv.1,fun k y u hk hu=>?_⟩).mono ?_
 ·rw[List.getElem?_map]at hk;simp only[oM9]at hk;obtain⟨x,hx,rfl⟩:=hk;have hm:=gM9 hx;exact D.gW hs hsub (hv.2 k x u hx hu) (h1 x hm) fun id hid b ver hn o ho=>by rw[←hFc];exact .inr ⟨id,ver,List.mem_flatMap.2 ⟨x,hm,hid⟩,hn,ho⟩
 ·rintro e w' ⟨r,v,h'',F',ν',rfl,⟨rfl,rfl⟩,hs',hv',hf⟩;have hnu:∀ id bv,ν' id≠some bv:=fun id bv hn=>by obtain⟨_,_,o,ho⟩:=hs'.dom id bv hn;cases ho
  have hkeep:∀ b,b<w.heap.size→w'.heap[b]? =w.heap[b]? :=fun b hb=>hf.keep b hb fun id ver hh=>by cases hh
  cases hsc:r.scalar with
  | true=>
   rw[hsc,if_pos rfl]at h3;subst h3;obtain⟨g1,g2⟩:=hs.ext ⟨hf.os,hf.tape,hf.output⟩ hf.size hkeep (F':=F) (fun _ _ h=>h) (fun _ _ h=> .inl h);exact⟨v,F,ν,rfl,hv'.scalar hsc,g1,g2⟩
  | false=>
   rw[hsc]at h3;simp only[Bool.false_eq_true,if_false]at h3;subst h3
   have hF1:∀ b o,F' b o→Fc b o∨(w.heap.size≤b∧b<w'.heap.size):=fun b o hb=>by
    rcases hf.new b o hb with h1 | h1 | ⟨id,ver,h1⟩
    ·exact .inl h1
    ·exact .inr ⟨h1,hs'.fixed b o hb⟩
    ·cases h1
   obtain⟨g1,g2⟩:=s1.ext ⟨hf.os,hf.tape,hf.output⟩ hf.size hkeep hf.sub hF1
   have hν:ν'=qZ:=funext fun id=>by
    cases hn:ν' id with
    | none=>rfl
    | some bv=>exact absurd hn (hnu id bv)
   refine⟨v,F',ν,rfl,?_,g1,fr1.trans g2⟩;subst hν;exact VD.tJ hv'
theorem aFD(hs:Sim w F ν h nx){new:Nat}(hnx:nx≤new){f:FuncId}{xs:List D}{vs:Array Value}(hv:qL w F ν xs vs){d:D}{h':Hp}(hc:aOZ P f xs h new d h'):
  Calls P f vs w fun e w'=>∃ v F' ν',e= .returned v∧VD w' F' ν' d v∧Sim w' F' ν' h' (new+1)∧Frame w F ν w' F' ν':=by
 rcases hc with⟨h1,h2,h3⟩ | h1
 ·refine(uL hs hv h1 h2 h3).mono ?_;rintro e w' ⟨v,F',ν',k1,k2,k3,k4⟩;exact⟨v,F',ν',k1,k2,k3.more (by omega),k4⟩
 ·refine(h1 w F ν vs (hs.more hnx) hv).mono ?_;rintro e w' ⟨r,v,h'',F',ν',rfl,⟨rfl,rfl⟩,hs',hv',hf⟩;exact⟨v,F',ν',rfl,hv',hs',hf⟩
def aCW(P:Program)(f:FuncId)(xs:List D)(h:Hp)(d:D):Prop:=
 (∀x∈xs,x.cE h)∧PSp P f (xs.map (D.frz h)) d∧(d.scalar=true∨xs.flatMap (D.ids h)=[])
def D.top:D→List Nat
 | .one (.ptr p)=>[p.id]
 | .one (.ref id _ _ _ _ _)=>[id]
 | _=>[]
inductive Reach (h:Hp) (xs:List D):Nat→Prop
 | top {x:D} {id:Nat}:x∈xs→id∈x.top→Reach h xs id
 | cell {id id':Nat} {r:List A} {x:A}:Reach h xs id→r∈h.rows id→x∈r→id'∈(D.one x).top→Reach h xs id'
def zH(P:Program)(f:FuncId)(xs:List D)(h:Hp)(d:D):Prop:=
 (∀id,Reach h xs id→h id≠none)∧∀h' n',(∀id,Reach h xs id→h' id=h id)→ISp P f h' n' xs d h'
def aH5(P:Program)(draw:Bool)(f:FuncId)(xs:List D)(h:Hp)(new:Nat)(d:D)(h':Hp):Prop:=
 match draw with
 | false=>aOZ P f xs h new d h'
 | true=>(aCW P f xs h d∨zH P f xs h d)∧h'=h
theorem aCW.close{f:FuncId}{xs:List D}{d:D}(hc:aCW P f xs h d):h=if d.scalar then h else h.close (xs.flatMap (D.ids h)):=by
 rcases hc.2.2 with e | e
 ·rw[e];rfl
 ·rw[e];have:h.close []=h:=funext fun j=>by simp[Hp.close]
  rw[this];split<;>rfl
end
section
open Go
variable {P:Program} {w w':World} {F F':Fix} {ν ν':Nu} {h:Hp} {nx:Nat} {tm:Nat→D} {a:Act}
inductive dL where
 | op (o:AOp)
 | call (f:FuncId) (args:List X)
 | callv (fv:X) (args:List X)
structure aW where
 dst:Option Nat
 op:dL
 guard:Option (Nat×Bool)
def gval(tm:Nat→D):Option (Nat×Bool)→Bool
 | none=>true
 | some (s,b)=>match tm s with
  | .one (.t (.bool c))=>c==b
  | _=>false
def aA(tm:Nat→D):Option (Nat×Bool)→Prop
 | none=>True
 | some (s,_)=>match tm s with
  | .one (.t (.bool _))=>True
  | .one .undef=>True
  | _=>False
def callable(P:Program)(f:FuncId):Bool:=
 match P.funcs[f]? with
 | some fn=>fn.body.isSome&&fn.name != "runtime.NumGoroutine"
 | none=>false
def aCX(P:Program)(draw:Bool)(tm:Nat→D)(h:Hp)(new:Nat)(o:dL)(d:D)(h':Hp):Prop:=
 match o with
 | .call f args=>aH5 P draw f (args.map fun x=>x.ev tm) h new d h'
 | .callv fv args=>∃ f caps,fv.ev tm= .one (.fn f caps)∧callable P f=true∧aH5 P draw f ((args.map fun x=>x.ev tm)++caps.map fun p=> .one (.ptr p)) h new d h'
 | .op o=>o.ok tm h∧d=o.val tm h new∧h'=o.eff tm h new
def iY(tm:Nat→D)(dst:Option Nat)(d:D):Nat→D:=
 match dst with
 | some k=>upd tm k d
 | none=>tm
def jI(P:Program)(draw:Bool)(base:Nat):List aW→Nat→(Nat→D)→Hp→((Nat→D)→Hp→Prop)→Prop
 | [],_,tm,h,K=>K tm h
 | o::rest,i,tm,h,K=>aA tm o.guard∧
   (gval tm o.guard=true→∃d h',aCX P draw tm h (base+1*i) o.op d h'∧jI P draw base rest (i+1) (iY tm o.dst d) h' K)∧
   (gval tm o.guard=false→jI P draw base rest (i+1) (iY tm o.dst (.one .undef)) h K)
def aH6(P:Program)(o:Oper):Option dL:=
 match o.op with
 | .call c=>match c.callee with
  | .value (.func f)=>if callable P f then(jZ P c.argTypes.toList c.args.toList).map (.call f)else none
  | .value (.tmp k)=>(jZ P c.argTypes.toList c.args.toList).map (.callv (.tmp k))
  | _=>none
 | _=>none
def aBL(ops:Array Oper)(o:Oper):Option (Option (Nat×Bool)):=
 match o.guard with
 | none=>some none
 | some (j,b)=>((ops[j]?).bind (·.dst)).map fun s=>some (s,b)
def zJ(P:Program)(grow:Bool)(o:Oper):Option dL:=
 match aH6 P o with
 | some s=>some s
 | none=>(mT P grow o).map .op
def zR(n:Nat):Option Nat→Bool
 | some d=>decide (d<n)
 | none=>true
def gN(P:Program)(n:Nat)(grow:Nat→Bool)(ops:Array Oper)(i:Nat)(o:Oper):Option aW:=do
 let op ←zJ P (grow i) o
 ensure (zR n o.dst)
 some { dst:=o.dst,op:=op,guard:= ←aBL ops o }
def cT(P:Program)(n:Nat)(grow:Nat→Bool)(ops:Array Oper):Nat→List Oper→Option (List aW)
 | _,[]=>some []
 | i,o::rest=>do some ((←gN P n grow ops i o)::(←cT P n grow ops (i+1) rest))
inductive Seg where
 | one (o:aW)
 | grp (s:Nat) (b:Bool) (ops:List aW)
 | br (s:Nat) (b:Bool) (ops:List aW)
def Seg.ops:Seg→List aW
 | .one o=>[o]
 | .grp _ _ ops=>ops
 | .br _ _ ops=>ops
def unseg(l:List Seg):List aW:=l.flatMap Seg.ops
def AOp.still:AOp→Bool
 | .alloc _ | .box _ _ | .store _ _ _ | .mks _ _ _ _ _ | .app _ _ _ _ _ | .trunc _ _ _ | .appn _ _ _ _ _ | .bsref _ _ _ _=>false
 | _=>true
def AOp.easy:AOp→Bool
 | .mv _ | .pick _ _ _ | .load _ _ _ | .un _ _ | .fa _ _ | .fld _ _ _ _ | .ext _ _ | .len _ _=>true
 | .bin op _ _ _=>match op with | .eql | .neq | .lss | .leq | .gtr | .geq | .add | .sub=>true | _=>false
 | _=>false
def mergeable(s:Nat)(ops:List aW):Bool:=
 ops.all fun o=>match o.op with | .op op=>op.still&&op.easy&&o.dst != some s&&o.dst.isSome | _=>false
def pU(o:aW)(l:List Seg):List Seg:=
 match o.guard with
 | none=> .one o::l
 | some (s,b)=>match l with
  | .br s' b' ops::r=>if s=s'&&b==b'&&o.dst != some s then .br s b (o::ops)::r else .br s b [o]::l
  | _=> .br s b [o]::l
def vN:Seg→Seg
 | .br s b ops=>if mergeable s ops then .grp s b ops else .br s b ops
 | x=>x
def aBM(ops:List aW):List Seg:=(ops.foldr pU []).map vN
inductive aB where
 | skip
 | region (id:Nat) (draw:Bool) (cnt:Nat) (segs:List Seg)
 | seq (x y:aB)
 | cond (c:X) (x y:aB)
 | block (id:Nat) (x:aB)
 | loop (x:aB)
 | exit (id:Nat)
 | ret
 | rng (g:X) (ps:List Nat) (x y:aB)
def AOp.operands:AOp→List X
 | .mv x | .box _ x | .load _ _ x | .nilc x | .un _ x | .dO _ x | .aBH x | .lW x | .zD x | .fa _ x | .fld _ _ _ x | .ext _ x | .len _ x=>[x]
 | .pick c a b=>[c,a,b]
 | .alloc _=>[]
 | .build _ parts | .bslice _ _ _ parts | .bsref _ _ _ parts=>parts.map fun(_,_,x)=>x
 | .store _ a v=>[a,v]
 | .bin _ _ x y=>[x,y]
 | .mkfn _ caps=>caps
 | .mks _ _ _ l c=>[l,c]
 | .sl _ _ x lo hi mx=>x::(lo.toList++hi.toList++mx.toList)
 | .ia _ x i=>[x,i]
 | .ixs x i=>[x,i]
 | .mm _ xs=>xs
 | .app _ _ _ a b=>[a,b]
 | .appn _ _ _ x n=>[x,n]
 | .beq _ _ _ x y=>[x,y]
 | .nilq _ x | .pnil _ x | .cap x=>[x]
 | .dead=>[]
 | .trunc _ x hi=>[x,hi]
def AOp.kind:AOp→Nat
 | .alloc _ | .box _ _ | .mks _ _ _ _ _ | .appn _ _ _ _ _ | .bsref _ _ _ _=>1
 | .load _ _ _ | .nilc _ | .zD _ | .mkfn _ _ | .sl _ _ _ _ _ _ | .fa _ _ | .ia _ _ _=>2
 | .app false _ _ _ _=>2
 | .store _ _ _ | .app true _ _ _ _ | .trunc _ _ _=>3
 | _=>0
def dL.operands:dL→List X
 | .op o=>o.operands
 | .call _ args=>args
 | .callv f args=>f::args
def dL.kind:dL→Nat
 | .op o=>o.kind
 | _=>2
def aW.looks(o:aW):List Nat:=
 (o.op.operands.filterMap fun | .tmp t=>some t | .con _=>none)++(match o.guard with | some (s,_)=>[s] | none=>[])
def A.plain:A→Bool
 | .t (.int _ _) | .t (.bool _) | .t (.str _) | .t .nilp | .t .nilf=>true
 | .tt _ []=>true
 | .fn _ []=>true
 | _=>false
def D.plain:D→Bool
 | .one x=>x.plain
 | .agg cs=>cs.all A.plain
 | .tup _=>false
def X.plain:X→Bool
 | .tmp _=>true
 | .con d=>d.plain
def clash(x y:aW):Bool:=
 (match x.dst with | some d=>y.looks.contains d | none=>false)||
 (match y.dst with | some d=>x.looks.contains d | none=>false)||
 (x.op.kind==3&&2≤y.op.kind)||(y.op.kind==3&&2≤x.op.kind)
def befs:List Oper→List Nat→List Nat
 | [],acc=>acc
 | o::r,acc=>befs r (acc++[o.after.toList.foldl (fun m e=>if Region.binds .any e then(m|||2 ^ e.on)|||acc.getD e.on 0 else m) 0])
def aFE(ops:Array Oper)(aops:List aW):Bool:=
 (aops.all fun o=>o.op.operands.all X.plain)&&
 ((List.range aops.length).all fun j=>match ops[j]? with | some o=>o.after.toList.all fun e=> !Region.binds .any e||decide (e.on<j) | none=>true)&&
 (List.range aops.length).all fun j=>(List.range j).all fun i=>match aops[i]?,aops[j]? with
  | some x,some y=>(x.dst==none||x.dst != y.dst)&&(!clash x y||((befs ops.toList []).getD j 0).testBit i)
  | _,_=>true
def nP(o:aW):Bool:=
 match o.guard,o.dst with
 | some (s,_),some d=>d != s
 | _,_=>true
def aB.flat:aB→Bool
 | .seq x y=>x.flat&&y.flat
 | .cond _ x y=>x.flat&&y.flat
 | .block _ x=>x.flat
 | .loop x=>x.flat
 | .rng _ _ _ _=>false
 | _=>true
def aR(P:Program)(n:Nat)(grow:Nat→Nat→Bool):Code→Option aB
 | .skip=>some .skip
 | .label _=>some .skip
 | .region id ops draw=>do
  let aops ←cT P n (grow id) ops 0 ops.toList
  ensure ((!draw||(P.follows .mixedOrders&&aFE ops aops))&&aops.all nP)
  some (.region id draw aops.length (aBM aops))
 | .seq x y=>do some (.seq (←aR P n grow x) (←aR P n grow y))
 | .cond c x y=>do some (.cond (←dA P 0 c) (←aR P n grow x) (←aR P n grow y))
 | .block id x=>do some (.block id (←aR P n grow x))
 | .loop x=>do some (.loop (←aR P n grow x))
 | .exit id=>some (.exit id)
 | .ret=>some .ret
 | .rangeFunc g ps x y=>do
  let g' ←dA P 0 g
  let x' ←aR P n grow x
  let y' ←aR P n grow y
  ensure (x'.flat&&y'.flat&&ps.toList.all fun p=>decide (p<n))
  some (.rng g' ps.toList x' y')
 | _=>none
theorem Sim.free(hs:Sim w F ν h nx){id:Nat}(hn:nx≤id):h id=none:=by
 cases hh:h id with
 | none=>rfl
 | some o=>
  have:=hs.obj id o hh;cases o with
  | arr ver shut sz rs=>
   obtain⟨b,e,m,h1,_⟩:=this;have:=(hs.dom _ _ h1).1;omega
theorem Rel.put{n:Nat}{st:St}{d:D}{v:Value}{dst:Option Nat}{h':Hp}{nx':Nat}(hr:Rel n st a w F ν)(hf:Frame w F ν w' F' ν')(hv:VD w' F' ν' d v)(hs:Sim w' F' ν' h' nx')(hd:∀ k,dst=some k→k<n):
  Rel n ⟨iY st.tmps dst d,h',nx'⟩ (a.put dst v) w' F' ν':=by
 refine⟨?_,?_,fun t=>?_,hs⟩
 ·cases dst<;>exact hr.defers.mono hf
 ·cases dst<;>simp[Act.put,hr.size]
 ·cases dst with
  | none=>exact(hr.tmps t).mono hf
  | some k=>
   simp only[iY,upd,Act.put];have hk:=hd k rfl
   by_cases e:t=k
   ·subst e;have:t<a.tmps.size:=by rw[hr.size];exact hk
    simp[this];exact hv
   ·rw[if_neg e]
    have:(a.tmps.setIfInBounds k v).getD t undef=a.tmps.getD t undef:=by
     simp[Array.getD_eq_getD_getElem?,Array.getElem?_setIfInBounds_ne (Ne.symm e)]
    rw[this];exact(hr.tmps t).mono hf
theorem lZ{n:Nat}{st:St}{ops:Array Oper}{o:Oper}{g:Option (Nat×Bool)}(hr:Rel n st a w F ν)
  (hg:aBL ops o=some g) (hok:aA st.tmps g):
  Region.wanted o (yielded ops a.tmps)=gval st.tmps g:=by
 unfold Region.wanted;unfold aBL at hg;cases ho:o.guard with
 | none=>rw[ho]at hg;simp only[sI9]at hg;subst hg;rfl
 | some jb=>
  obtain⟨j,b⟩:=jb;rw[ho]at hg;simp only at hg;cases hd:(ops[j]?).bind (·.dst)with
  | none=>rw[hd]at hg;cases hg
  | some s=>
   rw[hd]at hg;simp only[Option.map_some,sI9]at hg;subst hg;have hv:=hr.tmps s;simp only[aA]at hok;simp only[gval,yielded,hd,Option.bind_some];split at hok
   ·rename_i c e;rw[e]at hv ⊢;simp only[VD,VA,pR]at hv
    have hlt:s<a.tmps.size:=by
     rcases Nat.lt_or_ge s a.tmps.size with h | h
     ·exact h
     ·simp[Array.getD_eq_getD_getElem?,Array.getElem?_eq_none h,undef]at hv
    have:a.tmps[s]? =some (.bool c):=by
     rw[Array.getElem?_eq_getElem hlt];simpa[Array.getD_eq_getD_getElem?,hlt]using hv
    rw[this];cases c<;>cases b<;>rfl
   ·rename_i e;rw[e]at hv ⊢;simp only[VD,VA]at hv;cases hs:a.tmps[s]? with
    | none=>rfl
    | some u=>
     simp[Array.getD_eq_getD_getElem?,hs]at hv;subst hv;rfl
   ·exact hok.elim
theorem wJ{n:Nat}{st:St}{ts:List TypeId}{l:Array Operand}{cs:List X}(hr:Rel n st a w F ν)(hc:jZ P ts l.toList=some cs):qL w F ν (cs.map fun x=>x.ev st.tmps) (l.map a.eval):=by
 obtain⟨h1,h2⟩:=lY hr.tmps hc;refine⟨by simp[←h1],fun k x u hx hu=>?_⟩;rw[List.getElem?_map]at hx;rw[Array.getElem?_map]at hu;simp only[oM9]at hx hu;obtain⟨y,hy,rfl⟩:=hx;obtain⟨z,hz,rfl⟩:=hu;exact h2 k z y (by simpa using hz) hy
theorem nQ{f:FuncId}(hc:callable P f=true)(args:Array Value)(w:World):(callFunc f args).run P w= .ok (.enter f args) w:=by
 unfold callable at hc;split at hc
 ·rename_i fn hf;simp only[Bool.and_eq_true,bne_iff_ne,ne_eq]at hc;have h2:fn.body≠none:=by intro e;rw[e]at hc;simp at hc
  simp[callFunc,hf,hc.2,h2]
 ·cases hc
theorem uM{grow:Bool}{o:Oper}{s:dL}(h:zJ P grow o=some s):∀ c,o.op≠ .defer c:=by
 intro c e;unfold zJ aH6 mT at h;rw[e]at h;simp at h
theorem aN1{rd:Option Nat}{m:Nat}{f:FuncId}{vs:Array Value}{w:World}{R:Ending→World→Prop}(h:Calls P f vs w R):CallsIn (FR rd) m P f vs w R:=by
 have h':CallsIn Fence.wide m P f vs w R:=callsIn_wide.2 h;exact h'
theorem aFF(hs:Sim w F ν h nx){f:FuncId}{xs:List D}{vs:Array Value}(hv:qL w F ν xs vs){d:D}(hl:zH P f xs h d):
  Calls P f vs w fun e w'=>∃ v F' ν',e= .returned v∧VD w' F' ν' d v∧Sim w' F' ν' h nx∧Frame w F ν w' F' ν':=by
 refine(hl.2 h nx (fun _ _=>rfl) w F ν vs hs hv).mono ?_;rintro e w' ⟨r,v,h',F',ν',rfl,⟨rfl,rfl⟩,hs',hv',hf⟩;refine⟨v,F',ν',rfl,hv',⟨hs'.fixed,hs'.obj,fun id bv hn=>?_,hs'.inj,hs'.glob⟩,hf⟩;obtain⟨_,k2,o,k3⟩:=hs'.dom id bv hn;refine⟨?_,k2,o,k3⟩;rcases Nat.lt_or_ge id nx with g | g
 ·exact g
 ·have:=hs.free g;rw[k3]at this;cases this
theorem rA{rd:Option Nat}{m:Nat}{draw:Bool}{nx1:Nat}{n:Nat}{st:St}{grow:Nat→Bool}{ops:Array Oper}{i new:Nat}{o:Oper}{ao:aW}{d:D}{h':Hp}{next:Act→World→Prop}{Q:Exit→Act→World→Prop}
  (hr:Rel n st a w F ν) (hc:gN P n grow ops i o=some ao) (hcase:(draw=false∧st.nx≤new∧nx1=new+1)∨(draw=true∧st.heap new=none∧new<st.nx∧nx1=st.nx)) (hst:aCX P draw st.tmps st.heap new ao.op d h')
  (hn:∀ a' w' F' ν',a'.defers=a.defers→Rel n ⟨iY st.tmps ao.dst d,h',nx1⟩ a' w' F' ν'→Frame w F ν w' F' ν'→next a' w'):o.wpIn (FR rd) m P a w next Q:=by
 simp only[gN,Option.bind_eq_bind,oB9,sI9]at hc;obtain⟨op,h1,_,h3,g,h4,rfl⟩:=hc
 replace h3:=cF h3
 have hd:∀ k,o.dst=some k→k<n:=fun k hk=>by rw[hk]at h3;simpa[zR]using h3
 have hnd:=uM h1
 have aCY:∀ f (vs:Array Value) xs,(execOp a.eval o).run P w= .ok (.enter f vs) w→qL w F ν xs vs→aH5 P draw f xs st.heap new d h'→o.wpIn (FR rd) m P a w next Q:=by
  intro f vs xs hrun hv hcr;refine⟨fun _ _=>trivial,?_⟩;rw[Oper.semAt_eq _ _ _ hnd,hrun,Oper.uponIn_enter];refine⟨fun h=>by simp[FR,Fence.wide]at h,?_⟩
  have hcs:Calls P f vs w fun e w'=>∃ v F' ν',e= .returned v∧VD w' F' ν' d v∧Sim w' F' ν' h' nx1∧Frame w F ν w' F' ν':=by
   rcases hcase with⟨rfl,c1,rfl⟩ | ⟨rfl,c1,c2,rfl⟩
   ·exact aFD hr.sim c1 hv hcr
   ·obtain⟨hcd | hcd,rfl⟩:=hcr
    ·exact uL hr.sim hv hcd.1 hcd.2.1 hcd.close
    ·exact aFF hr.sim hv hcd
  refine(aN1 hcs).mono ?_;rintro e w' ⟨v,F',ν',rfl,hv',hs',hf'⟩;exact hn _ w' F' ν' (by cases o.dst<;>rfl) (Rel.put hr hf' hv' hs' hd) hf'
 unfold zJ at h1;split at h1
 ·rename_i s hcall;simp only[sI9]at h1;subst h1;obtain⟨dst,rop,ty,pos,after,guard⟩:=o;unfold aH6 at hcall;simp only at hcall;split at hcall
  ·rename_i c;split at hcall
   ·rename_i f heq;split at hcall
    ·rename_i hcb;simp only[oM9]at hcall;obtain⟨args,hargs,rfl⟩:=hcall;refine aCY f (c.args.map a.eval) _ ?_ (wJ hr hargs) hst;simp[execOp,resolve,heq,Deferred.ofValue,Act.eval,invoke,nQ hcb]
    ·exact absurd hcall (by simp)
   ·rename_i k heq;simp only[oM9]at hcall;obtain⟨args,hargs,rfl⟩:=hcall;obtain⟨f,caps,e1,hcb,hst⟩:=hst;have hv:=hr.tmps k;simp only[X.ev]at e1;rw[e1]at hv;obtain⟨us,e2,e3,e4⟩:=hv;obtain⟨q1,q2⟩:=wJ hr hargs;refine aCY f (c.args.map a.eval++us) _ ?_ ⟨?_,fun j x u hx hu=>?_⟩ hst
    ·have:a.eval (.tmp k)= .func (.func f) #[] us:=e2;simp[execOp,resolve,heq,Deferred.ofValue,this,invoke,nQ hcb]
    ·simp at q1 ⊢;omega
    ·rw[List.getElem?_append]at hx;rw[Array.getElem?_append]at hu;split at hx
     ·rename_i hlt;rw[if_pos (by rw[←q1];exact hlt)]at hu;exact q2 j x u hx hu
     ·rename_i hge;rw[if_neg (by rw[←q1];exact hge)]at hu;rw[List.getElem?_map]at hx;simp only[oM9]at hx;obtain⟨p,hp,rfl⟩:=hx;rw[←q1]at hu;exact e4 _ p u hp hu
   ·exact absurd hcall (by simp)
  ·exact absurd hcall (by simp)
 ·simp only[oM9]at h1;obtain⟨op',h1,rfl⟩:=h1;obtain⟨k1,rfl,rfl⟩:=hst
  have hc3:st.nx≤nx1∧st.heap new=none∧new<nx1:=by
   rcases hcase with⟨_,c1,rfl⟩ | ⟨_,c1,c2,rfl⟩
   ·exact⟨by omega,hr.sim.free c1,by omega⟩
   ·exact⟨Nat.le_refl _,c1,c2⟩
  obtain⟨v,w',F',ν',hran,hv,hs,hf⟩:=aJY (hr.sim.more (nx':=nx1) hc3.1) hr.tmps hc3.2.1 hc3.2.2 h1 k1;refine⟨fun _ _=>trivial,?_⟩;rw[Oper.semAt_eq _ _ _ hnd];have:=hn _ w' F' ν' (by cases o.dst<;>rfl) (Rel.put hr hf hv hs hd) hf;rcases hran with hran | ⟨hran,rfl⟩
  ·rw[hran];exact this
  ·rw[hran];exact this
end
section
open Go
variable {P:Program} {w w':World} {F F':Fix} {ν ν':Nu} {h:Hp} {nx:Nat} {tm:Nat→D} {a:Act} {n:Nat} {A:Exit→St→Prop} {st:St} {draw:Bool}
theorem Rel.more{st:St}(hr:Rel n st a w F ν){nx':Nat}(hn:st.nx≤nx'):Rel n ⟨st.tmps,st.heap,nx'⟩ a w F ν:=
 ⟨hr.defers,hr.size,hr.tmps,hr.sim.more hn⟩
theorem Rel.skip{st:St}(hr:Rel n st a w F ν)(dst:Option Nat)(hd:zR n dst=true):Rel n ⟨iY st.tmps dst (.one .undef),st.heap,st.nx⟩ (a.put dst undef) w F ν:=
 Rel.put hr (Frame.refl _ _ _) rfl hr.sim (fun k hk=>by subst hk;simpa[zR]using hd)
theorem gI{grow:Nat→Bool}{R:Array Oper}{i:Nat}{o:Oper}{ao:aW}(hc:gN P n grow R i o=some ao):aBL R o=some ao.guard∧zR n o.dst=true∧ao.dst=o.dst:=by
 simp only[gN,Option.bind_eq_bind,oB9,sI9]at hc;obtain⟨op,h1,u,h3,g,h4,rfl⟩:=hc;exact⟨h4,cF h3,rfl⟩
theorem tK{rd:Option Nat}{m:Nat}{grow:Nat→Bool}{R:Array Oper}{base:Nat}{K:(Nat→D)→Hp→Prop}{Q:Exit→Act→World→Prop}:∀ (ops:List Oper) (aops:List aW) (i:Nat) (tm:Nat→D) (h:Hp) (a:Act) (w:World) (F:Fix) (ν:Nu),
  cT P n grow R i ops=some aops→Rel n ⟨tm,h,base+1*i⟩ a w F ν→jI P false base aops i tm h K→
  (∀tm' h' a' w' F' ν',a'.defers=a.defers→Rel n ⟨tm',h',base+1*(i+ops.length)⟩ a' w' F' ν'→Frame w F ν w' F' ν'→K tm' h'→Q .normal a' w')→wpListIn (FR rd) m P R Q ops a w
 | [],aops,i,tm,h,a,w,F,ν,hc,hr,hk,hq=>by
  simp only[cT,sI9]at hc;subst hc;exact hq tm h a w F ν rfl hr (Frame.refl _ _ _) hk
 | o::ops,aops,i,tm,h,a,w,F,ν,hc,hr,hk,hq=>by
  simp only[cT,Option.bind_eq_bind,oB9,sI9]at hc;obtain⟨ao,h1,aops',h2,rfl⟩:=hc;obtain⟨g1,g2,g3⟩:=gI h1;simp only[jI]at hk;obtain⟨k1,k2,k3⟩:=hk;have hw:=lZ hr g1 k1
  have hq':∀ (a1:Act) (w1:World) (F1:Fix) (ν1:Nu),a1.defers=a.defers→Frame w F ν w1 F1 ν1→∀tm' h' a' w' F' ν',a'.defers=a1.defers→Rel n ⟨tm',h',base+1*((i+1)+ops.length)⟩ a' w' F' ν'→Frame w1 F1 ν1 w' F' ν'→K tm' h'→Q .normal a' w':=
   fun a1 w1 F1 ν1 hd hf tm' h' a' w' F' ν' hd' hr' hf' hk'=>hq tm' h' a' w' F' ν' (hd'.trans hd) (by rw[List.length_cons,show i+(ops.length+1)=(i+1)+ops.length by omega];exact hr') (hf.trans hf') hk'
  unfold wpListIn;rw[hw];cases hg:gval tm ao.guard with
  | true=>
   obtain⟨d,h',k4,k5⟩:=k2 hg;rw[if_pos rfl];refine rA (st:=⟨tm,h,base+1*i⟩) hr h1 (.inl ⟨rfl,Nat.le_refl _,rfl⟩) k4 fun a' w' F' ν' hd' hr' hf'=>?_
   replace hr':Rel n ⟨_,_,base+1*(i+1)⟩ a' w' F' ν':=hr'
   exact tK ops aops' (i+1) _ h' a' w' F' ν' h2 hr' k5 (hq' a' w' F' ν' hd' hf')
  | false=>
   rw[if_neg (by simp)];refine⟨fun _ _=>trivial,?_⟩;have:=k3 hg;rw[g3]at this;exact tK ops aops' (i+1) _ h _ w F ν h2 ((hr.skip o.dst g2).more (show base+1*i≤base+1*(i+1)by omega)) this (hq' _ w F ν (by cases o.dst<;>rfl) (Frame.refl _ _ _))
structure Came (n:Nat) (rd:Option Nat) (a:Act) (w:World) (F:Fix) (ν:Nu) (st':St) (a':Act) (w':World) (F':Fix) (ν':Nu):Prop where
 rel:Rel n st' a' w' F' ν'
 frame:Frame w F ν w' F' ν'
 marks:lG w a a'
 same:rd≠none→a'.defers=a.defers
theorem Came.refl{n:Nat}{rd:Option Nat}{st:St}{a:Act}{w:World}{F:Fix}{ν:Nu}(hr:Rel n st a w F ν):Came n rd a w F ν st a w F ν:=⟨hr,Frame.refl _ _ _,.same rfl,fun _=>rfl⟩
theorem Came.trans{n:Nat}{rd:Option Nat}{st st':St}{a a' a'':Act}{w w' w'':World}{F F' F'':Fix}{ν ν' ν'':Nu}(h:Came n rd a w F ν st a' w' F' ν')(k:Came n rd a' w' F' ν' st' a'' w'' F'' ν''):Came n rd a w F ν st' a'' w'' F'' ν'':=
 ⟨k.rel,h.frame.trans k.frame,h.marks.trans h.frame.size k.marks,fun h0=>(k.same h0).trans (h.same h0)⟩
def W(P:Program)(n:Nat)(ac:aB)(A:Exit→St→Prop)(st:St):Prop:=
 ∀(rd:Option Nat) (m:Nat) grow c,(rd=none∧9≤m∨ac.flat=true)→aR P n grow c=some ac→∀a w F ν,Rel n st a w F ν→
  c.wpIn (FR rd) m P (fun e a' w'=>∃ st' F' ν',A e st'∧Came n rd a w F ν st' a' w' F' ν') a w
theorem W.mono{ac:aB}{A':Exit→St→Prop}(hw:W P n ac A st)(ha:∀ e st,A e st→A' e st):W P n ac A' st:=
 fun rd m grow c hm hc a w F ν hr=>wpIn_mono (hw rd m grow c hm hc a w F ν hr) (fun _e _a' _w' ⟨st',F',ν',h1,h2⟩=>⟨st',F',ν',ha _ _ h1,h2⟩)
theorem W.skip(hA:A .normal st):W P n .skip A st:=by
 intro rd m grow c hm hc a w F ν hr;cases c with
 | skip=>exact wpIn_skip ⟨st,F,ν,hA,.refl hr⟩
 | label l=>exact wpIn_label ⟨st,F,ν,hA,.refl hr⟩
 | _=>simp[aR,oB9]at hc
theorem W.exit{id:Nat}(hA:A (.exit id) st):W P n (.exit id) A st:=by
 intro rd m grow c hm hc a w F ν hr;cases c with
 | exit i=>
  simp only[aR,sI9,aB.exit.injEq]at hc;subst hc;exact wpIn_exit ⟨st,F,ν,hA,.refl hr⟩
 | _=>simp[aR,oB9]at hc
theorem W.ret(hA:A .ret st):W P n .ret A st:=by
 intro rd m grow c hm hc a w F ν hr;cases c with
 | ret=>exact wpIn_ret ⟨st,F,ν,hA,.refl hr⟩
 | _=>simp[aR,oB9]at hc
def rX(next:St→Prop)(A:Exit→St→Prop):Exit→St→Prop
 | .normal,st=>next st
 | e,st=>A e st
theorem W.seq{x y:aB}(hx:W P n x (rX (W P n y A) A) st):W P n (.seq x y) A st:=by
 intro rd m grow c hm hc a w F ν hr;cases c with
 | seq c1 c2=>
  simp only[aR,Option.bind_eq_bind,oB9,sI9,aB.seq.injEq]at hc;obtain⟨x',h1,y',h2,rfl,rfl⟩:=hc;simp only[aB.flat,Bool.and_eq_true]at hm;refine wpIn_seq (wpIn_mono (hx rd m grow c1 (hm.imp id (·.1)) h1 a w F ν hr) (fun e a' w' hq=>?_));obtain⟨st',F',ν',g1,g2⟩:=hq;cases e with
  | normal=>exact wpIn_mono (g1 rd m grow c2 (hm.imp id (·.2)) h2 a' w' F' ν' g2.rel) (fun e a'' w'' ⟨st'',F'',ν'',k1,k2⟩=>⟨st'',F'',ν'',k1,g2.trans k2⟩)
  | exit i=>exact⟨st',F',ν',g1,g2⟩
  | goto l=>exact⟨st',F',ν',g1,g2⟩
  | ret=>exact⟨st',F',ν',g1,g2⟩
  | panic ch=>exact⟨st',F',ν',g1,g2⟩
  | outgrown=>exact⟨st',F',ν',g1,g2⟩
 | _=>simp[aR,oB9]at hc
theorem W.cond{x:X}{p q:aB}{b:Bool}(hx:x.ev st.tmps= .one (.t (.bool b)))(h1:b=true→W P n p A st)(h2:b=false→W P n q A st):W P n (.cond x p q) A st:=by
 intro rd m grow c hm hc a w F ν hr;cases c with
 | cond o c1 c2=>
  simp only[aR,Option.bind_eq_bind,oB9,sI9,aB.cond.injEq]at hc;obtain⟨x',g1,p',g2,q',g3,rfl,rfl,rfl⟩:=hc;simp only[aB.flat,Bool.and_eq_true]at hm;have hv:=aN hr.tmps g1;rw[hx]at hv;simp only[VD,VA,pR]at hv;exact wpIn_cond_split hv (fun e=>h1 e rd m grow c1 (hm.imp id (·.1)) g2 a w F ν hr) (fun e=>h2 e rd m grow c2 (hm.imp id (·.2)) g3 a w F ν hr)
 | _=>simp[aR,oB9]at hc
def rY(id:Nat)(A:Exit→St→Prop):Exit→St→Prop
 | .exit id',st=>if id'=id then A .normal st else A (.exit id') st
 | e,st=>A e st
theorem W.block{id:Nat}{x:aB}(hx:W P n x (rY id A) st):W P n (.block id x) A st:=by
 intro rd m grow c hm hc a w F ν hr;cases c with
 | block i c=>
  simp only[aR,Option.bind_eq_bind,oB9,sI9,aB.block.injEq]at hc;obtain⟨x',h1,rfl,rfl⟩:=hc;refine wpIn_block (wpIn_mono (hx rd m grow c hm h1 a w F ν hr) (fun e a' w' hq=>?_));obtain⟨st',F',ν',g1,g2⟩:=hq;cases e with
  | exit j=>
   simp only[Exit.inBlock];simp only[rY]at g1;split
   ·rename_i e;rw[if_pos e]at g1;exact⟨st',F',ν',g1,g2⟩
   ·rename_i e;rw[if_neg e]at g1;exact⟨st',F',ν',g1,g2⟩
  | normal=>exact⟨st',F',ν',g1,g2⟩
  | goto l=>exact⟨st',F',ν',g1,g2⟩
  | ret=>exact⟨st',F',ν',g1,g2⟩
  | panic ch=>exact⟨st',F',ν',g1,g2⟩
  | outgrown=>exact⟨st',F',ν',g1,g2⟩
 | _=>simp[aR,oB9]at hc
theorem aBN{F:Fence}{rm:Nat}{P:Program}{Q:Exit→Act→World→Prop}{a:Act}{w:World}{c:Code}(I:Nat→Act→World→Prop)(n₀:Nat)(h₀:I n₀ a w)
  (round:∀ n a w,I n a w→c.wpIn F rm P (Exit.then (fun a' w'=>∃ n',n'<n∧I n' a' w') Q) a w):(Code.loop c).wpIn F rm P Q a w:=by
 refine wpIn_loop (fun a w=>∃ n,I n a w) (fun a w=>leastOf (fun n=>I n a w)) ⟨n₀,h₀⟩ ?_;intro a w hI;refine wpIn_mono (round _ a w (leastOf_spec hI).1) ?_;intro e a' w' hq;cases e with
 | normal=>
  obtain⟨n',hlt,hI'⟩:=hq;exact⟨⟨n',hI'⟩,Nat.lt_of_le_of_lt ((leastOf_spec ⟨n',hI'⟩).2 n' hI') hlt⟩
 | _=>exact hq
theorem W.loop{x:aB}(I:Nat→St→Prop)(k:Nat)(h0:I k st)(round:∀ k st,I k st→W P n x (rX (fun st'=>∃ k',k'<k∧I k' st') A) st):W P n (.loop x) A st:=by
 intro rd m grow c hm hc a w F ν hr;cases c with
 | loop c=>
  simp only[aR,Option.bind_eq_bind,oB9,sI9,aB.loop.injEq]at hc;obtain⟨x',h1,rfl⟩:=hc;refine aBN (fun k a' w'=>∃ st' F' ν',I k st'∧Came n rd a w F ν st' a' w' F' ν') k ⟨st,F,ν,h0,.refl hr⟩ ?_;rintro k a1 w1 ⟨st1,F1,ν1,hI,hc1⟩;refine wpIn_mono (round k st1 hI rd m grow c hm h1 a1 w1 F1 ν1 hc1.rel) (fun e a' w' hq=>?_);obtain⟨st',F',ν',g1,g2⟩:=hq;cases e with
  | normal=>obtain⟨k',hk,hI'⟩:=g1;exact⟨k',hk,st',F',ν',hI',hc1.trans g2⟩
  | exit i=>exact⟨st',F',ν',g1,hc1.trans g2⟩
  | goto l=>exact⟨st',F',ν',g1,hc1.trans g2⟩
  | ret=>exact⟨st',F',ν',g1,hc1.trans g2⟩
  | panic ch=>exact⟨st',F',ν',g1,hc1.trans g2⟩
  | outgrown=>exact⟨st',F',ν',g1,hc1.trans g2⟩
 | _=>simp[aR,oB9]at hc
theorem fH{grow:Nat→Bool}{R:Array Oper}:∀ (ops:List Oper) (i:Nat) (aops:List aW),cT P n grow R i ops=some aops→aops.length=ops.length
 | [],i,aops,hc=>by simp only[cT,sI9]at hc;subst hc;rfl
 | o::ops,i,aops,hc=>by
  simp only[cT,Option.bind_eq_bind,oB9,sI9]at hc;obtain⟨ao,h1,aops',h2,rfl⟩:=hc;simp[fH ops (i+1) aops' h2]
def okG(h:Hp):List aW→(Nat→D)→Prop
 | [],_=>True
 | ⟨dst,.op o,_⟩::rest,tm=>o.ok tm h∧okG h rest (iY tm dst (o.val tm h 0))
 | _::_,_=>False
def tmG(h:Hp):List aW→(Nat→D)→(Nat→D)
 | [],tm=>tm
 | ⟨dst,.op o,_⟩::rest,tm=>tmG h rest (iY tm dst (o.val tm h 0))
 | ⟨_,.call _ _,_⟩::rest,tm=>tmG h rest tm
 | ⟨_,.callv _ _,_⟩::rest,tm=>tmG h rest tm
def sel(c:Bool)(x y:D):D:=if c then x else y
def mN(g:Bool)(tm1:Nat→D):List aW→(Nat→D)→(Nat→D)
 | [],tm=>tm
 | ⟨some k,_,_⟩::rest,tm=>mN g tm1 rest (upd tm k (sel g (tm1 k) (.one .undef)))
 | ⟨none,_,_⟩::rest,tm=>mN g tm1 rest tm
def oT:List aW→(Nat→D)→(Nat→D)
 | [],tm=>tm
 | ⟨dst,_,_⟩::rest,tm=>oT rest (iY tm dst (.one .undef))
def aD(P:Program)(draw:Bool)(f:FuncId)(xs:List D)(h:Hp)(new:Nat)(K:D→Hp→Prop):Prop:=∃ d h',aH5 P draw f xs h new d h'∧K d h'
def wK(i:Nat)(dst:Option Nat)(tm:Nat→D)(next:Nat→(Nat→D)→Hp→Prop)(d:D)(h:Hp):Prop:=next (i+1) (iY tm dst d) h
def wL(P:Program)(draw:Bool)(base:Nat):List aW→(Nat→(Nat→D)→Hp→Prop)→Nat→(Nat→D)→Hp→Prop
 | [],K,i,tm,h=>K i tm h
 | ⟨dst,.op o,_⟩::rest,K,i,tm,h=>o.ok tm h∧wL P draw base rest K (i+1) (iY tm dst (o.val tm h (base+1*i))) (o.eff tm h (base+1*i))
 | ⟨dst,.call f args,_⟩::rest,K,i,tm,h=>aD P draw f (args.map fun x=>x.ev tm) h (base+1*i) (wK i dst tm (wL P draw base rest K))
 | ⟨dst,.callv fv args,_⟩::rest,K,i,tm,h=>∃ f caps,fv.ev tm= .one (.fn f caps)∧callable P f=true∧aD P draw f ((args.map fun x=>x.ev tm)++caps.map fun p=> .one (.ptr p)) h (base+1*i) (wK i dst tm (wL P draw base rest K))
def iH(P:Program)(draw:Bool)(base:Nat):List Seg→(Nat→(Nat→D)→Hp→Prop)→Nat→(Nat→D)→Hp→Prop
 | [],K,i,tm,h=>K i tm h
 | .one o::rest,K,i,tm,h=>wL P draw base [o] (iH P draw base rest K) i tm h
 | .grp s b ops::rest,K,i,tm,h=>aA tm (some (s,b))∧(gval tm (some (s,b))=true→okG h ops tm)∧iH P draw base rest K (i+ops.length) (mN (gval tm (some (s,b))) (tmG h ops tm) ops tm) h
 | .br s b ops::rest,K,i,tm,h=>aA tm (some (s,b))∧(gval tm (some (s,b))=true→wL P draw base ops (iH P draw base rest K) i tm h)∧
   (gval tm (some (s,b))=false→iH P draw base rest K (i+ops.length) (oT ops tm) h)
def Seg.wf:Seg→Prop
 | .one o=>o.guard=none
 | .grp s b ops=>ops≠[]∧(∀o∈ops,o.guard=some (s,b)∧o.dst≠some s)∧mergeable s ops=true
 | .br s b ops=>ops≠[]∧∀o∈ops,o.guard=some (s,b)∧o.dst≠some s
theorem rB{base:Nat}{K:(Nat→D)→Hp→Prop}:∀ (xs ys:List aW) (i:Nat) (tm:Nat→D) (h:Hp),jI P draw base xs i tm h (fun tm h=>jI P draw base ys (i+xs.length) tm h K)→jI P draw base (xs++ys) i tm h K
 | [],ys,i,tm,h,hk=>hk
 | x::xs,ys,i,tm,h,hk=>by
  simp only[List.cons_append,jI]at hk ⊢;have e:i+(x::xs).length=(i+1)+xs.length:=by simp;omega
  rw[e]at hk;refine⟨hk.1,fun hg=>?_,fun hg=>?_⟩
  ·obtain⟨d,h',h1,h2⟩:=hk.2.1 hg;exact⟨d,h',h1,rB xs ys _ _ _ h2⟩
  ·exact rB xs ys _ _ _ (hk.2.2 hg)
theorem aJZ{s k:Nat}{b:Bool}{d:D}(hk:k≠s):gval (upd tm k d) (some (s,b))=gval tm (some (s,b)):=by simp[gval,upd,Ne.symm hk]
theorem aCZ{s k:Nat}{b:Bool}{d:D}(hk:k≠s):aA (upd tm k d) (some (s,b))↔aA tm (some (s,b)):=by simp[aA,upd,Ne.symm hk]
theorem zT{s:Nat}{b:Bool}{d:D}{dst:Option Nat}(hk:dst≠some s):gval (iY tm dst d) (some (s,b))=gval tm (some (s,b)):=by
 cases dst with
 | none=>rfl
 | some k=>exact aJZ (by simpa using hk)
theorem rZ{s:Nat}{b:Bool}{d:D}{dst:Option Nat}(hk:dst≠some s):aA (iY tm dst d) (some (s,b))↔aA tm (some (s,b)):=by
 cases dst with
 | none=>exact Iff.rfl
 | some k=>exact aCZ (by simpa using hk)
def Holds(tm:Nat→D)(ops:List aW):Prop:=
 (∀o∈ops,o.guard=none)∨∃s b,(∀o∈ops,o.guard=some (s,b)∧o.dst≠some s)∧aA tm (some (s,b))∧gval tm (some (s,b))=true
theorem Holds.head{o:aW}{ops:List aW}(hh:Holds tm (o::ops)):aA tm o.guard∧gval tm o.guard=true∧∀d,Holds (iY tm o.dst d) ops:=by
 rcases hh with hh | ⟨s,b,h1,h2,h3⟩
 ·have:=hh o List.mem_cons_self;rw[this];exact⟨trivial,rfl,fun d=> .inl fun x hx=>hh x (List.mem_cons_of_mem _ hx)⟩
 ·obtain⟨g1,g2⟩:=h1 o List.mem_cons_self;rw[g1];exact⟨h2,h3,fun d=> .inr ⟨s,b,fun x hx=>h1 x (List.mem_cons_of_mem _ hx),(rZ g2).2 h2,by rw[zT g2];exact h3⟩⟩
theorem lI{base:Nat}{K:Nat→(Nat→D)→Hp→Prop}:∀ (ops:List aW) (i:Nat) (tm:Nat→D) (h:Hp),Holds tm ops→wL P draw base ops K i tm h→jI P draw base ops i tm h (fun tm h=>K (i+ops.length) tm h)
 | [],i,tm,h,_,hk=>hk
 | ⟨dst,o,g⟩::rest,i,tm,h,hh,hk=>by
  obtain⟨h1,h2,h3⟩:=hh.head;have e:i+((⟨dst,o,g⟩:aW)::rest).length=(i+1)+rest.length:=by simp;omega
  simp only[jI,e];refine⟨h1,fun _=>?_,fun hf=>by rw[h2]at hf;cases hf⟩;cases o with
  | op o=>exact⟨_,_,⟨hk.1,rfl,rfl⟩,lI rest (i+1) _ _ (h3 _) hk.2⟩
  | call f args=>
   obtain⟨d,h',k1,k2⟩:=hk;exact⟨d,h',k1,lI rest (i+1) _ _ (h3 _) k2⟩
  | callv fv args=>
   obtain⟨f,caps,k0,k1,d,h',k2,k3⟩:=hk;exact⟨d,h',⟨f,caps,k0,k1,k2⟩,lI rest (i+1) _ _ (h3 _) k3⟩
theorem tL{base:Nat}{K:(Nat→D)→Hp→Prop}{s:Nat}{b:Bool}:∀ (ops:List aW) (i:Nat) (tm:Nat→D) (h:Hp),(∀o∈ops,o.guard=some (s,b)∧o.dst≠some s)→aA tm (some (s,b))→gval tm (some (s,b))=false→K (oT ops tm) h→jI P draw base ops i tm h K
 | [],_,_,_,_,_,_,hk=>hk
 | ⟨dst,o,g⟩::rest,i,tm,h,hall,hok,hg,hk=>by
  obtain⟨g1,g2⟩:=hall _ List.mem_cons_self;simp only at g1 g2;subst g1;refine⟨hok,fun ht=>?_,fun _=>?_⟩
  ·exact absurd (hg.symm.trans ht) (by simp)
  exact tL rest (i+1) _ h (fun x hx=>hall x (List.mem_cons_of_mem _ hx)) ((rZ g2).2 hok) (by rw[zT g2];exact hg) hk
theorem aHV{o:AOp}(ho:o.still=true)(new:Nat):o.eff tm h new=h:=by cases o<;>first | rfl | simp[AOp.still]at ho
theorem aHW{o:AOp}(ho:o.still=true)(new:Nat):o.val tm h new=o.val tm h 0:=by
 cases o<;>first | rfl | (simp[AOp.still]at ho;done) | (rename_i str _ _ _ _ _;cases str<;>rfl)
theorem wM{base:Nat}{K:(Nat→D)→Hp→Prop}{s:Nat}:∀ (ops:List aW) (i:Nat) (tm:Nat→D) (h:Hp),Holds tm ops→mergeable s ops=true→okG h ops tm→K (tmG h ops tm) h→jI P draw base ops i tm h K
 | [],_,_,_,_,_,_,hk=>hk
 | ⟨dst,o,g⟩::rest,i,tm,h,hh,hm,hok,hk=>by
  obtain⟨h1,h2,h3⟩:=hh.head;simp only[mergeable,List.all_cons,Bool.and_eq_true]at hm;obtain⟨hm1,hm2⟩:=hm;cases o with
  | op o=>
   simp only[Bool.and_eq_true]at hm1;refine⟨h1,fun _=>⟨_,_,⟨hok.1,rfl,rfl⟩,?_⟩,fun hf=>by rw[h2]at hf;cases hf⟩;rw[aHV hm1.1.1.1,aHW hm1.1.1.1];exact wM rest (i+1) _ h (h3 _) hm2 hok.2 hk
  | call f args=>cases hm1
  | callv fv args=>cases hm1
def dsts(ops:List aW):List Nat:=ops.filterMap (·.dst)
theorem zY:∀ (ops:List aW) (tm:Nat→D) (t:Nat),oT ops tm t=if t∈dsts ops then .one .undef else tm t
 | [],tm,t=>by simp[oT,dsts]
 | ⟨dst,o,g⟩::rest,tm,t=>by
  rw[oT,zY rest];cases dst with
  | none=>simp[dsts,iY]
  | some k=>
   simp only[dsts,List.filterMap_cons,List.mem_cons,iY,upd]
   by_cases e:t∈rest.filterMap (·.dst)
   ·simp[e]
   ·by_cases e2:t=k<;>simp[e,e2]
theorem pV(g:Bool)(tm1:Nat→D):∀ (ops:List aW) (tm:Nat→D) (t:Nat),mN g tm1 ops tm t=if t∈dsts ops then sel g (tm1 t) (.one .undef)else tm t
 | [],tm,t=>by simp[mN,dsts]
 | ⟨none,o,_⟩::rest,tm,t=>by rw[mN,pV g tm1 rest];simp[dsts]
 | ⟨some k,o,_⟩::rest,tm,t=>by
  rw[mN,pV g tm1 rest];simp only[dsts,List.filterMap_cons,List.mem_cons,upd]
  by_cases e:t∈rest.filterMap (·.dst)
  ·simp[e]
  ·by_cases e2:t=k<;>simp[e,e2]
theorem pW:∀ (ops:List aW) (tm:Nat→D) (t:Nat),t∉dsts ops→tmG h ops tm t=tm t
 | [],_,_,_=>rfl
 | ⟨dst,.op o,g⟩::rest,tm,t,ht=>by
  rw[tmG,pW rest _ t (by cases dst<;>simp_all [dsts])];cases dst with
  | none=>rfl
  | some k=>simp only[iY,upd];rw[if_neg (by intro e;subst e;simp[dsts]at ht)]
 | ⟨dst,.call f args,g⟩::rest,tm,t,ht=>by rw[tmG,pW rest _ t (by cases dst<;>simp_all [dsts])]
 | ⟨dst,.callv f args,g⟩::rest,tm,t,ht=>by rw[tmG,pW rest _ t (by cases dst<;>simp_all [dsts])]
theorem rC{base:Nat}{K:Nat→(Nat→D)→Hp→Prop}:∀ (segs:List Seg) (i:Nat) (tm:Nat→D) (h:Hp),(∀x∈segs,x.wf)→iH P draw base segs K i tm h→jI P draw base (unseg segs) i tm h (fun tm h=>K (i+(unseg segs).length) tm h)
 | [],i,tm,h,_,hk=>hk
 | x::rest,i,tm,h,hwf,hk=>by
  have hx:=hwf x List.mem_cons_self;have hr:∀ y∈rest,y.wf:=fun y hy=>hwf y (List.mem_cons_of_mem _ hy)
  have e0:unseg (x::rest)=x.ops++unseg rest:=rfl;rw[e0];refine rB _ _ _ _ _ ?_;have e1:i+(x.ops++unseg rest).length=(i+x.ops.length)+(unseg rest).length:=by simp;omega
  rw[e1];have next:∀ tm h,iH P draw base rest K (i+x.ops.length) tm h→jI P draw base (unseg rest) (i+x.ops.length) tm h (fun tm h=>K ((i+x.ops.length)+(unseg rest).length) tm h):=fun tm h h1=>rC rest _ tm h hr h1
  have mono:∀ (ops:List aW) j tm h (K1 K2:(Nat→D)→Hp→Prop),(∀tm h,K1 tm h→K2 tm h)→jI P draw base ops j tm h K1→jI P draw base ops j tm h K2:=by
   intro ops
   induction ops with
   | nil=>intro j tm h K1 K2 hK h1;exact hK _ _ h1
   | cons o ops ih=>
    intro j tm h K1 K2 hK h1;exact⟨h1.1,fun hg=>by obtain⟨d,h',q1,q2⟩:=h1.2.1 hg;exact⟨d,h',q1,ih _ _ _ _ _ hK q2⟩,fun hg=>ih _ _ _ _ _ hK (h1.2.2 hg)⟩
  cases x with
  | one o=>
   refine mono _ _ _ _ _ _ (fun tm h h1=>next tm h h1) (lI [o] i tm h (.inl fun y hy=>?_) hk);simp only[List.mem_singleton]at hy;subst hy;exact hx
  | grp s b ops=>
   obtain⟨k1,k2,k3⟩:=hk;obtain⟨w1,w2,w3⟩:=hx;cases hg:gval tm (some (s,b))with
   | true=>
    have em:mN true (tmG h ops tm) ops tm=tmG h ops tm:=funext fun t=>by
     rw[pV];split
     ·rfl
     ·rename_i ht;exact(pW ops tm t ht).symm
    rw[hg,em]at k3;exact wM ops i tm h (.inr ⟨s,b,w2,k1,hg⟩) w3 (k2 hg) (next _ _ k3)
   | false=>
    have em:mN false (tmG h ops tm) ops tm=oT ops tm:=funext fun t=>by rw[pV,zY];rfl
    rw[hg,em]at k3;exact tL ops i tm h w2 k1 hg (next _ _ k3)
  | br s b ops=>
   obtain⟨k1,k2,k3⟩:=hk;cases hg:gval tm (some (s,b))with
   | true=>exact mono _ _ _ _ _ _ (fun tm h h1=>next tm h h1) (lI ops i tm h (.inr ⟨s,b,hx.2,k1,hg⟩) (k2 hg))
   | false=>exact tL ops i tm h hx.2 k1 hg (next _ _ (k3 hg))
theorem aFG{o:aW}{l:List Seg}(hl:∀ x∈l,x.wf)(hd:∀ s b,o.guard=some (s,b)→o.dst≠some s):(∀x∈pU o l,x.wf)∧unseg (pU o l)=o::unseg l:=by
 unfold pU;split
 ·rename_i hg;exact⟨fun x hx=>by rcases List.mem_cons.1 hx with rfl | hx;exact hg;exact hl x hx,rfl⟩
 ·rename_i s b hg
  have lone:(∀x∈Seg.br s b [o]::l,x.wf)∧unseg (Seg.br s b [o]::l)=o::unseg l:=by
   refine⟨fun x hx=>?_,rfl⟩;rcases List.mem_cons.1 hx with rfl | hx
   ·exact⟨by simp,fun y hy=>by simp only[List.mem_singleton]at hy;subst hy;exact⟨hg,hd s b hg⟩⟩
   ·exact hl x hx
  split
  ·rename_i s' b' ops r;split
   ·rename_i e;simp only[Bool.and_eq_true,decide_eq_true_eq,beq_iff_eq]at e;obtain⟨⟨rfl,rfl⟩,_⟩:=e;refine⟨fun x hx=>?_,rfl⟩;rcases List.mem_cons.1 hx with rfl | hx
    ·refine⟨by simp,fun y hy=>?_⟩;rcases List.mem_cons.1 hy with rfl | hy
     ·exact⟨hg,hd s b hg⟩
     ·exact(hl _ List.mem_cons_self).2 y hy
    ·exact hl x (List.mem_cons_of_mem _ hx)
   ·exact lone
  ·exact lone
theorem tM{ops:List aW}(hd:∀ o∈ops,∀s b,o.guard=some (s,b)→o.dst≠some s):(∀x∈aBM ops,x.wf)∧unseg (aBM ops)=ops:=by
 have h1:(∀x∈ops.foldr pU [],x.wf)∧unseg (ops.foldr pU [])=ops:=by
  induction ops with
  | nil=>exact⟨fun x hx=>by simp at hx,rfl⟩
  | cons o ops ih=>
   obtain⟨h1,h2⟩:=ih fun x hx=>hd x (List.mem_cons_of_mem _ hx)
   have:=aFG h1 (hd o List.mem_cons_self);rw[h2]at this;exact this
 have h2:∀ x:Seg,(vN x).ops=x.ops:=fun x=>by unfold vN;split<;>(try split)<;>rfl
 refine⟨fun x hx=>?_,?_⟩
 ·obtain⟨y,hy,rfl⟩:=List.mem_map.1 hx;have hy:=h1.1 y hy;unfold vN;split
  ·split
   ·rename_i hm;exact⟨hy.1,hy.2,hm⟩
   ·exact hy
  ·exact hy
 ·unfold aBM unseg;rw[List.flatMap_map];simp only[h2];exact h1.2
def nR(A:Exit→St→Prop)(nx:Nat)(_i:Nat)(tm:Nat→D)(h:Hp):Prop:=A .normal ⟨tm,h,nx⟩
theorem W.region{id cnt:Nat}{segs:List Seg}(hk:iH P false st.nx segs (nR A (st.nx+1*cnt)) 0 st.tmps st.heap):W P n (.region id false cnt segs) A st:=by
 intro rd m grow c hm hc a w F ν hr;cases c with
 | region i R draw=>
  simp only[aR,Option.bind_eq_bind,oB9,sI9,aB.region.injEq]at hc;obtain⟨aops,h1,_,h2,rfl,rfl,rfl,rfl⟩:=hc;have h2:=cF h2;simp only[Bool.and_eq_true]at h2
  have hg:∀ o∈aops,∀s b,o.guard=some (s,b)→o.dst≠some s:=fun o ho s b hgd hd=>by
   have:=List.all_eq_true.1 h2.2 o ho;unfold nP at this;rw[hgd,hd]at this;simp at this
  obtain⟨g1,g2⟩:=tM hg;have hk':=rC _ _ _ _ g1 hk;rw[g2]at hk';refine wpIn_region_list (tK R.toList aops 0 st.tmps st.heap a w F ν h1 hr hk' fun tm' h' a' w' F' ν' hd' hr' hf' hk'=>⟨_,F',ν',hk',?_,hf',.same hd',fun _=>hd'⟩);rw[fH _ _ _ h1];simpa using hr'
 | _=>simp[aR,oB9]at hc
end
section
open Go
variable {P:Program} {w w':World} {F F':Fix} {ν ν':Nu} {h h':Hp} {nx:Nat} {tm tm':Nat→D} {a:Act} {n:Nat}
def aFH(pre:List Oper)(acc:List Nat):Prop:=
 acc.length=pre.length∧∀i j,(acc.getD i 0).testBit j=true→∃o e,pre[i]? =some o∧e∈o.after.toList∧Region.binds .any e=true∧(e.on=j∨(e.on<i∧(acc.getD e.on 0).testBit j=true))
theorem zZ(acc:List Nat)(j:Nat):∀ (es:List Edge) (m:Nat),(es.foldl (fun m e=>if Region.binds .any e then(m|||2 ^ e.on)|||acc.getD e.on 0 else m) m).testBit j=true→
  m.testBit j=true∨∃e∈es,Region.binds .any e=true∧(e.on=j∨(acc.getD e.on 0).testBit j=true)
 | [],m,hm=> .inl hm
 | e::es,m,hm=>by
  rw[List.foldl_cons]at hm;rcases zZ acc j es _ hm with h1 | ⟨e',h1,h2⟩
  ·split at h1
   ·rename_i hb;rw[Nat.testBit_or,Nat.testBit_or,Bool.or_eq_true,Bool.or_eq_true]at h1;rcases h1 with(h1 | h1) | h1
    ·exact .inl h1
    ·refine .inr ⟨e,List.mem_cons_self,hb,.inl ?_⟩;simpa[Nat.testBit_two_pow]using h1
    ·exact .inr ⟨e,List.mem_cons_self,hb,.inr h1⟩
   ·exact .inl h1
  ·exact .inr ⟨e',List.mem_cons_of_mem _ h1,h2⟩
theorem aD0:∀ (l pre:List Oper) (acc:List Nat),aFH pre acc→aFH (pre++l) (befs l acc)
 | [],pre,acc,hi=>by simpa[befs]using hi
 | o::r,pre,acc,hi=>by
  rw[befs,show pre++o::r=(pre++[o])++r by simp];refine aD0 r (pre++[o]) _ ⟨by simp[hi.1],fun i j hb=>?_⟩;rcases Nat.lt_trichotomy i acc.length with hlt | heq | hgt
  ·have e1:(acc++[o.after.toList.foldl (fun m e=>if Region.binds .any e then(m|||2 ^ e.on)|||acc.getD e.on 0 else m) 0]).getD i 0=acc.getD i 0:=by
    simp[List.getD_eq_getElem?_getD,List.getElem?_append_left hlt]
   rw[e1]at hb;obtain⟨o',e,h1,h2,h3,h4⟩:=hi.2 i j hb;refine⟨o',e,?_,h2,h3,?_⟩
   ·rw[List.getElem?_append_left (by rw[←hi.1];exact hlt)];exact h1
   ·rcases h4 with h4 | ⟨h4,h5⟩
    ·exact .inl h4
    ·refine .inr ⟨h4,?_⟩;rw[List.getD_eq_getElem?_getD,List.getElem?_append_left (by omega),←List.getD_eq_getElem?_getD];exact h5
  ·subst heq
   have e1:(acc++[o.after.toList.foldl (fun m e=>if Region.binds .any e then(m|||2 ^ e.on)|||acc.getD e.on 0 else m) 0]).getD acc.length 0=o.after.toList.foldl (fun m e=>if Region.binds .any e then(m|||2 ^ e.on)|||acc.getD e.on 0 else m) 0:=by
    simp[List.getD_eq_getElem?_getD]
   rw[e1]at hb;rcases zZ acc j _ _ hb with h1 | ⟨e,h1,h2,h3⟩
   ·simp at h1
   ·refine⟨o,e,by rw[hi.1];simp,h1,h2,?_⟩;rcases h3 with h3 | h3
    ·exact .inl h3
    ·have hlt:e.on<acc.length:=by
      rcases Nat.lt_or_ge e.on acc.length with h | h
      ·exact h
      ·rw[List.getD_eq_getElem?_getD,List.getElem?_eq_none h]at h3;simp at h3
     refine .inr ⟨hlt,?_⟩;rw[List.getD_eq_getElem?_getD,List.getElem?_append_left hlt,←List.getD_eq_getElem?_getD];exact h3
  ·rw[List.getD_eq_getElem?_getD,List.getElem?_eq_none (by simp;omega)]at hb;simp at hb
def Down(R:Array Oper)(listed:Array Bool):Prop:=
 ∀i o,listed.getD i false=true→R[i]? =some o→∀e∈o.after.toList,Region.binds .any e=true→listed.getD e.on false=true
theorem wN{R:Array Oper}{listed:Array Bool}{i:Nat}(hi:i∈Region.ready .any R listed):
  i<R.size∧listed.getD i true=false∧∀o,R[i]? =some o→∀e∈o.after.toList,Region.binds .any e=true→listed.getD e.on false=true:=by
 simp only[Region.ready,List.mem_filter,List.mem_range,Bool.and_eq_true,Bool.not_eq_true']at hi;obtain⟨h1,h2,h3⟩:=hi;refine⟨h1,h2,fun o ho e he hb=>?_⟩;rw[ho]at h3;simp only[Option.map_some,Option.getD_some]at h3;rw[Array.all_eq_true_iff_forall_mem]at h3;have:=h3 e (by simpa using he);simpa[hb]using this
theorem aBO{R:Array Oper}{listed:Array Bool}(hd:Down R listed){i:Nat}(hi:listed.getD i false=true∨i∈Region.ready .any R listed){j:Nat}(hb:((befs R.toList []).getD i 0).testBit j=true):listed.getD j false=true:=by
 have inv:aFH ([]++R.toList) (befs R.toList []):=aD0 _ _ _ ⟨rfl,fun i j hb=>by simp at hb⟩
 induction i using Nat.strongRecOn with
 | _ i ih=>
  obtain⟨o,e,h1,h2,h3,h4⟩:=inv.2 i j hb;have h1':R[i]? =some o:=by simpa using h1
  have hon:listed.getD e.on false=true:=by
   rcases hi with hi | hi
   ·exact hd i o hi h1' e h2 h3
   ·exact(wN hi).2.2 o h1' e h2 h3
  rcases h4 with rfl | ⟨h4,h5⟩
  ·exact hon
  ·exact ih e.on h4 (.inl hon) h5
theorem aK0(o:AOp)(h:Hp)(new:Nat)(he:∀ x∈o.operands,x.ev tm=x.ev tm'):
  (o.ok tm h↔o.ok tm' h)∧o.val tm h new=o.val tm' h new∧o.eff tm h new=o.eff tm' h new:=by
 cases o with
 | build zs parts=>
  have e1:(parts.map fun(o,s,x)=>(o,s,x.ev tm))=parts.map fun(o,s,x)=>(o,s,x.ev tm'):=List.map_congr_left fun p hp=>by
   obtain⟨o,s,x⟩:=p;simp[he x (List.mem_map.2 ⟨(o,s,x),hp,rfl⟩)]
  have e2:(parts.map fun(o,_,x)=>(o,(x.ev tm).cells))=parts.map fun(o,_,x)=>(o,(x.ev tm').cells):=List.map_congr_left fun p hp=>by
   obtain⟨o,s,x⟩:=p;simp[he x (List.mem_map.2 ⟨(o,s,x),hp,rfl⟩)]
  simp[AOp.ok,AOp.val,AOp.eff,e1,e2]
 | bslice sz ln zs parts=>
  have e1:(parts.map fun(o,s,x)=>(o,s,x.ev tm))=parts.map fun(o,s,x)=>(o,s,x.ev tm'):=List.map_congr_left fun p hp=>by
   obtain⟨o,s,x⟩:=p;simp[he x (List.mem_map.2 ⟨(o,s,x),hp,rfl⟩)]
  have e2:(parts.map fun(o,_,x)=>(o,(x.ev tm).cells))=parts.map fun(o,_,x)=>(o,(x.ev tm').cells):=List.map_congr_left fun p hp=>by
   obtain⟨o,s,x⟩:=p;simp[he x (List.mem_map.2 ⟨(o,s,x),hp,rfl⟩)]
  simp[AOp.ok,AOp.val,AOp.eff,e1,e2]
 | bsref sz ln zs parts=>
  have e1:(parts.map fun(o,s,x)=>(o,s,x.ev tm))=parts.map fun(o,s,x)=>(o,s,x.ev tm'):=List.map_congr_left fun p hp=>by
   obtain⟨o,s,x⟩:=p;simp[he x (List.mem_map.2 ⟨(o,s,x),hp,rfl⟩)]
  have e2:(parts.map fun(o,_,x)=>(o,(x.ev tm).cells))=parts.map fun(o,_,x)=>(o,(x.ev tm').cells):=List.map_congr_left fun p hp=>by
   obtain⟨o,s,x⟩:=p;simp[he x (List.mem_map.2 ⟨(o,s,x),hp,rfl⟩)]
  simp[AOp.ok,AOp.val,AOp.eff,e1,e2]
 | mkfn f caps=>
  have e1:(caps.map fun x=>(x.ev tm).pt)=caps.map fun x=>(x.ev tm').pt:=List.map_congr_left fun x hx=>by simp[he x hx]
  refine⟨?_,by simp[AOp.val,e1],rfl⟩;simp only[AOp.ok];exact forall₂_congr fun x hx=>by rw[he x hx]
 | mm mx xs=>
  refine⟨?_,?_,rfl⟩
  ·simp only[AOp.ok];exact and_congr Iff.rfl (forall₂_congr fun x hx=>by rw[he x hx])
  ·cases xs with
   | nil=>rfl
   | cons x r=>
    simp only[AOp.val];rw[he x List.mem_cons_self]
    have:∀ (r:List X) (d:D),(∀y∈r,y.ev tm=y.ev tm')→r.foldl (fun d y=>d.mm2 mx (y.ev tm)) d=r.foldl (fun d y=>d.mm2 mx (y.ev tm')) d:=by
     intro r
     induction r with
     | nil=>intro d _;rfl
     | cons y r ih=>intro d hr;rw[List.foldl_cons,List.foldl_cons,hr y List.mem_cons_self];exact ih _ fun z hz=>hr z (List.mem_cons_of_mem _ hz)
    exact this r _ fun y hy=>he y (List.mem_cons_of_mem _ hy)
 | sl str sz x lo hi mx=>
  have e0:=he x List.mem_cons_self
  have el:∀ y,y∈lo.toList∨y∈hi.toList∨y∈mx.toList→y.ev tm=y.ev tm':=fun y hy=>he y (by
   simp only[AOp.operands,List.mem_cons,List.mem_append];rcases hy with hy | hy | hy<;>simp[hy])
  have oi:∀ z:Option X,(∀y∈z.toList,y.ev tm=y.ev tm')→oint tm z=oint tm' z∧(iN tm z↔iN tm' z):=by
   intro z hz;cases z with
   | none=>exact⟨rfl,Iff.rfl⟩
   | some y=>have:=hz y (by simp);simp[oint,iN,this]
  obtain⟨l1,l2⟩:=oi lo fun y hy=>el y (.inl hy)
  obtain⟨h1,h2⟩:=oi hi fun y hy=>el y (.inr (.inl hy))
  obtain⟨m1,m2⟩:=oi mx fun y hy=>el y (.inr (.inr hy))
  cases str<;>simp[AOp.ok,AOp.val,AOp.eff,e0,l1,l2,h1,h2,m1,m2]
 | _=>simp_all [AOp.operands,AOp.ok,AOp.val,AOp.eff]
theorem aN2(o:AOp):o.kind≤3:=by
 cases o with
 | app grow sz bytes x y=>cases grow<;>simp[AOp.kind]
 | _=>simp[AOp.kind]
theorem fI{id ver:Nat}(ha:alive h id ver):h id≠none:=by
 intro e;rw[alive,e]at ha;exact ha
theorem gO{id ver:Nat}(ha:alive h id ver)(e:h id=h' id):alive h' id ver:=by rw[alive,←e];exact ha
theorem gJ{id:Nat}(e:h id=h' id):h.rows id=h'.rows id:=by rw[Hp.rows,Hp.rows,e]
theorem aA0{id:Nat}(e:h id=h' id):h.sz id=h'.sz id:=by rw[Hp.sz,Hp.sz,e]
theorem aBP{id:Nat}(e:h id=h' id):h.shut id=h'.shut id:=by rw[Hp.shut,Hp.shut,e]
theorem aA1{d:D}{sz:Nat}(hag:∀ id∈d.top,h id≠none→h id=h' id)(hok:d.lF h sz):d.lF h' sz∧d.rowsOf h=d.rowsOf h':=by
 cases d with
 | one x=>
  cases x with
  | t x=>cases x<;>exact⟨hok,rfl⟩
  | ref id ver off len sz' tight=>
   obtain⟨h1,h2,h3,h4⟩:=hok;have e:=hag id (by simp[D.top]) (fI h2);exact⟨⟨h1,gO h2 e,by rw[←aA0 e];exact h3,by rw[←gJ e];exact h4⟩,by simp only[D.rowsOf,gJ e]⟩
  | tt=>exact⟨hok,rfl⟩
  | ptr=>exact hok.elim
  | into=>exact hok.elim
  | fn=>exact hok.elim
  | undef=>exact hok.elim
 | agg cs=>exact hok.elim
 | tup xs=>exact hok.elim
theorem aH7(o:AOp)(new:Nat)(hag:2≤o.kind→∀x∈o.operands,∀id∈(x.ev tm).top,h id≠none→h id=h' id)(hok:o.ok tm h):
  o.ok tm h'∧o.val tm h new=o.val tm h' new∧
   ((o.eff tm h new=h∧o.eff tm h' new=h')∨(1≤o.kind∧o.kind≠2∧∃id obj,o.eff tm h new=h.set id obj∧o.eff tm h' new=h'.set id obj∧
    (id=new∨(o.kind=3∧h id≠none∧∃x∈o.operands,id∈(x.ev tm).top)))):=by
 cases o with
 | load k agg x=>
  have hx:=hag (by simp[AOp.kind]) x (by simp[AOp.operands]);simp only[AOp.ok,AOp.val,AOp.eff]at hok ⊢;generalize x.ev tm=d at*;obtain⟨h1,h2⟩:=hok;cases d with
  | one y=>
   cases y<;>first | exact h1.elim | exact⟨⟨h1,h2⟩,rfl,.inl ⟨by trivial,by trivial⟩⟩ | skip
   rename_i p;obtain⟨k1,k2,k3,k4⟩:=h1;have e:=hx p.id (by simp[D.top]) (fI k1);exact⟨⟨⟨gO k1 e,by rw[←aA0 e];exact k2,by rw[←gJ e];exact k3,k4⟩,h2⟩,by simp only[D.loadAt,gJ e],.inl ⟨by trivial,by trivial⟩⟩
  | agg cs=>exact h1.elim
  | tup xs=>exact h1.elim
 | nilc x=>
  have hx:=hag (by simp[AOp.kind]) x (by simp[AOp.operands]);simp only[AOp.ok,AOp.val,AOp.eff]at hok ⊢;generalize x.ev tm=d at*;refine⟨?_,trivial,.inl ⟨trivial,trivial⟩⟩;cases d with
  | one y=>cases y<;>first | exact hok.elim | exact hok | exact gO hok (hx _ (by simp[D.top]) (fI hok))
  | agg cs=>exact hok.elim
  | tup xs=>exact hok.elim
 | fa off x=>
  have hx:=hag (by simp[AOp.kind]) x (by simp[AOp.operands]);simp only[AOp.ok,AOp.val,AOp.eff]at hok ⊢;generalize x.ev tm=d at*;refine⟨?_,trivial,.inl ⟨trivial,trivial⟩⟩;cases d with
  | one y=>cases y<;>first | exact hok.elim | exact hok | exact gO hok (hx _ (by simp[D.top]) (fI hok))
  | agg cs=>exact hok.elim
  | tup xs=>exact hok.elim
 | ia sz x i=>
  have hx:=hag (by simp[AOp.kind]) x (by simp[AOp.operands]);simp only[AOp.ok,AOp.val,AOp.eff]at hok ⊢;generalize x.ev tm=d at*;refine⟨?_,trivial,.inl ⟨trivial,trivial⟩⟩;cases d with
  | one y=>cases y with
   | ref id ver off len sz' tight=>exact⟨hok.1,gO hok.2.1 (hx _ (by simp[D.top]) (fI hok.2.1)),hok.2.2⟩
   | t y=>cases y<;>first | exact hok.elim | exact hok
   | tt=>exact hok
   | _=>exact hok.elim
  | agg cs=>exact hok.elim
  | tup xs=>exact hok.elim
 | sl str sz x lo hi mx=>
  have hx:=hag (by simp[AOp.kind]) x (by simp[AOp.operands]);cases str with
  | true=>exact⟨hok,rfl,.inl ⟨rfl,rfl⟩⟩
  | false=>
   refine⟨?_,rfl,.inl ⟨rfl,rfl⟩⟩;obtain⟨k1,k2,k3,k4⟩:=hok;refine⟨k1,k2,k3,?_⟩;generalize x.ev tm=d at*;cases d with
   | one y=>cases y with
    | ref id ver off len sz' tight=>exact⟨k4.1,gO k4.2.1 (hx _ (by simp[D.top]) (fI k4.2.1)),k4.2.2⟩
    | t y=>cases y<;>first | exact k4.elim | exact k4
    | tt=>exact k4
    | _=>exact k4.elim
   | agg cs=>exact k4.elim
   | tup xs=>exact k4.elim
 | mkfn f caps=>
  refine⟨fun x hx=>?_,rfl,.inl ⟨rfl,rfl⟩⟩;have h1:=hok x hx;have h2:=hag (by simp[AOp.kind]) x hx;generalize x.ev tm=d at*;cases d with
  | one y=>cases y<;>first | exact h1.elim | exact gO h1 (h2 _ (by simp[D.top]) (fI h1))
  | agg cs=>exact h1.elim
  | tup xs=>exact h1.elim
 | zD x=>
  obtain⟨k1,k2,k3⟩:=hok;obtain⟨g1,g2⟩:=aA1 (hag (by simp[AOp.kind]) x (by simp[AOp.operands])) k2;exact⟨⟨k1,g1,by rw[←g2];exact k3⟩,by simp only[AOp.val,g2],.inl ⟨rfl,rfl⟩⟩
 | store k x v=>
  have hx:=hag (by simp[AOp.kind]) x (by simp[AOp.operands]);simp only[AOp.ok,AOp.val,AOp.eff]at hok ⊢;have hm:∀ id,id∈(x.ev tm).top→∃y∈(AOp.store k x v).operands,id∈(y.ev tm).top:=fun id hi=>⟨x,by simp[AOp.operands],hi⟩
  generalize x.ev tm=d at*;cases d with
  | one y=>
   cases y<;>first | exact hok.elim | skip
   rename_i p;obtain⟨k1,k2,k3,k4,k5,k6⟩:=hok;have e:=hx p.id (by simp[D.top]) (fI k1);refine⟨⟨gO k1 e,by rw[←aA0 e];exact k2,by rw[←gJ e];exact k3,k4,by rw[←aBP e];exact k5,k6⟩,trivial,.inr ⟨by simp[AOp.kind],by simp[AOp.kind],p.id,_,rfl,by simp only[D.storeAt,gJ e],.inr ⟨rfl,fI k1,hm _ (by simp[D.top])⟩⟩⟩
  | agg cs=>exact hok.elim
  | tup xs=>exact hok.elim
 | app grow sz bytes x y=>
  have hk2:2≤(AOp.app grow sz bytes x y).kind:=by cases grow<;>simp[AOp.kind]
  have hx:=hag hk2 x (by simp[AOp.operands]);obtain⟨k1,k2,k3,k4,k5⟩:=hok;obtain⟨g1,g2⟩:=aA1 (hag hk2 y (by simp[AOp.operands])) k1;have hm:∀ id,id∈(x.ev tm).top→∃z∈(AOp.app grow sz bytes x y).operands,id∈(z.ev tm).top:=fun id hi=>⟨x,by simp[AOp.operands],hi⟩
  simp only[AOp.ok,AOp.val,AOp.eff];generalize x.ev tm=d at*;cases d with
  | one z=>cases z with
   | tt sz' rs=>
    refine⟨⟨g1,k2,k3,k4,?_⟩,?_,?_⟩
    ·simp only[D.vV]at k5 ⊢;rw[←g2];exact k5
    ·simp only[D.tF,g2]
    ·simp only[D.qS,g2];split
     ·rename_i hg;subst hg;split
      ·exact .inl ⟨rfl,rfl⟩
      ·exact .inr ⟨by simp[AOp.kind],by simp[AOp.kind],_,_,rfl,rfl,.inl rfl⟩
     ·exact .inl ⟨rfl,rfl⟩
   | ref id ver off len sz' tight=>
    obtain⟨q1,q2,q3,q4,q5,q6⟩:=k4;have hg:grow=true:=k5;subst hg;have e:=hx id (by simp[D.top]) (fI q2);refine⟨⟨g1,k2,k3,⟨q1,gO q2 e,by rw[←aA0 e];exact q3,q4,by rw[←gJ e];exact q5,q6⟩,rfl⟩,rfl,.inr ⟨by simp[AOp.kind],by simp[AOp.kind],id,_,rfl,?_,.inr ⟨rfl,fI q2,hm _ (by simp[D.top])⟩⟩⟩;simp only[D.qS,gJ e,aBP e,g2]
   | _=>exact k4.elim
  | agg cs=>exact k4.elim
  | tup xs=>exact k4.elim
 | trunc sz x hi=>
  have hx:=hag (by simp[AOp.kind]) x (by simp[AOp.operands]);obtain⟨k1,k2⟩:=hok;have hm:∀ id,id∈(x.ev tm).top→∃z∈(AOp.trunc sz x hi).operands,id∈(z.ev tm).top:=fun id hi=>⟨x,by simp[AOp.operands],hi⟩
  simp only[AOp.ok,AOp.val,AOp.eff];generalize x.ev tm=d at*;cases d with
  | one z=>cases z with
   | ref id ver off len sz' tight=>
    obtain⟨q1,q2,q3,q4,q5,q6,q7⟩:=k2;have e:=hx id (by simp[D.top]) (fI q2);exact⟨⟨k1,q1,gO q2 e,by rw[←aA0 e];exact q3,q4,by rw[←aBP e];exact q5,by rw[←gJ e];exact q6,q7⟩,trivial,.inr ⟨by simp[AOp.kind],by simp[AOp.kind],id,_,rfl,by simp only[D.rR,gJ e],.inr ⟨rfl,fI q2,hm _ (by simp[D.top])⟩⟩⟩
   | _=>exact k2.elim
  | agg cs=>exact k2.elim
  | tup xs=>exact k2.elim
 | dead=>exact hok.elim
 | alloc zs=>exact⟨hok,rfl,.inr ⟨by simp[AOp.kind],by simp[AOp.kind],new,_,rfl,rfl,.inl rfl⟩⟩
 | box k x=>exact⟨hok,rfl,.inr ⟨by simp[AOp.kind],by simp[AOp.kind],new,_,rfl,rfl,.inl rfl⟩⟩
 | appn sz bytes zs x n=>exact⟨hok,rfl,.inr ⟨by simp[AOp.kind],by simp[AOp.kind],new,_,rfl,rfl,.inl rfl⟩⟩
 | bsref sz ln zs parts=>exact⟨hok,rfl,.inr ⟨by simp[AOp.kind],by simp[AOp.kind],new,_,rfl,rfl,.inl rfl⟩⟩
 | mks sz bytes zs l c=>exact⟨hok,rfl,.inr ⟨by simp[AOp.kind],by simp[AOp.kind],new,_,rfl,rfl,.inl rfl⟩⟩
 | _=>exact⟨hok,rfl,.inl ⟨rfl,rfl⟩⟩
end
section
open Go Classical
variable {P:Program} {w w':World} {F F':Fix} {ν ν':Nu} {h h':Hp} {nx:Nat} {tm tm':Nat→D} {a:Act} {n:Nat}
theorem lJ{α β:Type}{f g:α→List β}:∀ {l:List α},(∀x∈l,f x=g x)→l.flatMap f=l.flatMap g
 | [],_=>rfl
 | x::l,h=>by rw[List.flatMap_cons,List.flatMap_cons,h x List.mem_cons_self,lJ fun y hy=>h y (List.mem_cons_of_mem _ hy)]
theorem vO(hs:Sim w F ν h nx){d:D}{v:Value}(hv:VD w F ν d v):∀ id∈d.top,h id≠none:=by
 intro id hid;cases d with
 | one x=>
  cases x with
  | ptr p=>
   simp only[D.top,List.mem_singleton]at hid;subst hid;obtain⟨b,ver,h1,_⟩:=hv;obtain⟨_,_,o,ho⟩:=hs.dom _ _ h1;rw[ho];simp
  | ref i ver off len sz tight=>
   simp only[D.top,List.mem_singleton]at hid;subst hid;obtain⟨b,ver,h1,_⟩:=hv;obtain⟨_,_,o,ho⟩:=hs.dom _ _ h1;rw[ho];simp
  | _=>simp[D.top]at hid
 | agg cs=>simp[D.top]at hid
 | tup xs=>simp[D.top]at hid
theorem aA2(hs:Sim w F ν h nx){id:Nat}{r:List A}{x:A}(hr:r∈h.rows id)(hx:x∈r):∃ u,VA w F ν x u:=by
 cases hh:h id with
 | none=>simp[Hp.rows,hh]at hr
 | some o=>
  cases o with
  | arr ver shut sz rs=>
   have e:h.rows id=rs:=by simp[Hp.rows,hh]
   rw[e]at hr;obtain⟨b,e',m,g1,g2,g3,g4,g5,g6,g7⟩:=hs.obj _ _ hh;obtain⟨i,hi,rfl⟩:=List.mem_iff_getElem.1 hr;obtain⟨j,hj,rfl⟩:=List.mem_iff_getElem.1 hx;obtain⟨_,u,_,k⟩:=g6 i j _ _ (gE9 hi) (gE9 hj);exact⟨u,k⟩
theorem aFI(hs:Sim w F ν h' nx)(hag:∀ id,h' id≠none→h id≠none→h id=h' id):∀ (k:Nat) (x:A) (v:Value),VA w F ν x v→x.cE h k→x.cE h' k∧x.frz h k=x.frz h' k∧x.ids h k=x.ids h' k:=by
 intro k
 induction k with
 | zero=>intro x v hv hok;cases x<;>first | exact⟨trivial,rfl,rfl⟩ | exact hok.elim
 | succ k ih=>
  intro x v hv hok;cases x with
  | t x=>exact⟨trivial,rfl,rfl⟩
  | tt sz rs=>exact⟨trivial,rfl,rfl⟩
  | ref id ver off len sz tight=>
   obtain⟨ha,hsz,hlen,hcells⟩:=hok;have e:h id=h' id:=hag id (vO hs (d:= .one (.ref id ver off len sz tight)) hv id (by simp[D.top])) (fI ha);have er:h.rows id=h'.rows id:=gJ e
   have key:∀ r∈((h.rows id).drop off).take len,∀x∈r,x.cE h' k∧x.frz h k=x.frz h' k∧x.ids h k=x.ids h' k:=fun r hr x hx=>by
    obtain⟨u,hu⟩:=aA2 hs (id:=id) (by rw[←er];exact List.mem_of_mem_drop (List.mem_of_mem_take hr)) hx;exact ih x u hu (hcells r hr x hx)
   refine⟨⟨gO ha e,by rw[←aA0 e];exact hsz,by rw[←er];exact hlen,fun r hr x hx=>?_⟩,?_,?_⟩
   ·rw[←er]at hr;exact(key r hr x hx).1
   ·simp only[A.frz,←er];congr 1;exact List.map_congr_left fun r hr=>List.map_congr_left fun x hx=>(key r hr x hx).2.1
   ·simp only[A.ids,←er];congr 1;rw[lJ fun r hr=>lJ fun x hx=>(key r hr x hx).2.2]
  | _=>exact hok.elim
theorem aN3(hs:Sim w F ν h' nx)(hag:∀ id,h' id≠none→h id≠none→h id=h' id){d:D}{v:Value}(hv:VD w F ν d v)(hok:d.cE h):d.cE h'∧d.frz h=d.frz h'∧d.ids h=d.ids h':=by
 have lst:∀ (cs:List A) (us:List Value),VL (VA w F ν) cs us→(∀x∈cs,x.cE h aT)→(∀x∈cs,x.cE h' aT∧x.frz h aT=x.frz h' aT∧x.ids h aT=x.ids h' aT):=by
  intro cs us hv hok x hx;obtain⟨i,hi,rfl⟩:=List.mem_iff_getElem.1 hx;have hi':i<us.length:=by rw[←hv.1];exact hi
  exact aFI hs hag _ _ _ (hv.2 i _ _ (gE9 hi) (gE9 hi')) (hok _ hx)
 cases d with
 | one x=>
  cases x with
  | fn f caps=>exact⟨hok,rfl,rfl⟩
  | into cs=>exact⟨trivial,rfl,rfl⟩
  | ptr p=>exact hok.elim
  | undef=>exact hok.elim
  | t x=>exact⟨trivial,rfl,rfl⟩
  | tt sz rs=>exact⟨trivial,rfl,rfl⟩
  | ref id ver off len sz tight=>
   obtain⟨k1,k2,k3⟩:=aFI hs hag aT (.ref id ver off len sz tight) v hv hok;exact⟨k1,by simp only[D.frz,k2],k3⟩
 | agg cs=>
  obtain⟨us,h1,h2⟩:=hv;have key:=lst cs _ h2 hok;exact⟨fun x hx=>(key x hx).1,by simp only[D.frz];rw[List.map_congr_left fun x hx=>by rw[(key x hx).2.1]],by simp only[D.ids];exact lJ fun x hx=>(key x hx).2.2⟩
 | tup xs=>
  obtain⟨us,h1,h2,h3⟩:=hv
  have key:∀ x∈xs,(match x with | .one x=>x.cE h' aT | .agg cs=>∀ x∈cs,x.cE h' aT)∧
    (match x with | .one y=>S.one (.t (A.frz h aT y)) | .agg cs=> .agg (cs.map fun y=> .t (A.frz h aT y)))=(match x with | .one y=>S.one (.t (A.frz h' aT y)) | .agg cs=> .agg (cs.map fun y=> .t (A.frz h' aT y)))∧
    (match x with | .one x=>x.ids h aT | .agg cs=>cs.flatMap (A.ids h aT))=(match x with | .one x=>x.ids h' aT | .agg cs=>cs.flatMap (A.ids h' aT)):=by
   intro x hx;have hok':=hok x hx;obtain⟨i,hi,rfl⟩:=List.mem_iff_getElem.1 hx;have hi':i<us.size:=by rw[h2];exact hi
   have hv':=h3 i _ _ (gE9 hi) (Array.getElem?_eq_getElem hi');generalize xs[i]=y at*;cases y with
   | one y=>
    obtain⟨k1,k2,k3⟩:=aFI hs hag aT y _ hv' hok';exact⟨k1,by simp only[k2],k3⟩
   | agg cs=>
    obtain⟨us',q1,q2⟩:=hv';have key:=lst cs _ q2 hok';exact⟨fun x hx=>(key x hx).1,by simp only[S.agg.injEq];exact List.map_congr_left fun x hx=>by rw[(key x hx).2.1],lJ fun x hx=>(key x hx).2.2⟩
  exact⟨fun x hx=>(key x hx).1,by simp only[D.frz,D.tup.injEq];exact List.map_congr_left fun x hx=>(key x hx).2.1,by simp only[D.ids];exact lJ fun x hx=>(key x hx).2.2⟩
theorem aD1(hs:Sim w F ν h' nx)(hag:∀ id,h' id≠none→h id≠none→h id=h' id){f:FuncId}{xs:List D}{d:D}(hv:∀ x∈xs,∃v,VD w F ν x v)(hc:aCW P f xs h d):aCW P f xs h' d:=by
 have key:∀ x∈xs,x.cE h'∧x.frz h=x.frz h'∧x.ids h=x.ids h':=fun x hx=>by
  obtain⟨v,hv⟩:=hv x hx;exact aN3 hs hag hv (hc.1 x hx)
 refine⟨fun x hx=>(key x hx).1,?_,?_⟩
 ·rw[←List.map_congr_left fun x hx=>(key x hx).2.1];exact hc.2.1
 ·rw[←lJ fun x hx=>(key x hx).2.2];exact hc.2.2
theorem aD2(hs:Sim w F ν h' nx)(hag:∀ id,h' id≠none→h id≠none→h id=h' id){f:FuncId}{xs:List D}{d:D}(hv:∀ x∈xs,∃v,VD w F ν x v)(hl:zH P f xs h d):zH P f xs h' d:=by
 have key:∀ id,Reach h xs id→h' id=h id:=by
  intro id hr
  induction hr with
  | top hx hid=>
   rename_i x id;obtain⟨v,hv⟩:=hv _ hx;exact(hag id (vO hs hv id hid) (hl.1 id (.top hx hid))).symm
  | cell hr hrow hx hid ih=>
   rename_i id id' r x;have er:h'.rows id=h.rows id:=gJ ih;obtain⟨u,hu⟩:=aA2 hs (id:=id) (by rw[er];exact hrow) hx;exact(hag id' (vO hs (d:= .one x) hu id' hid) (hl.1 id' (.cell hr hrow hx hid))).symm
 have back:∀ id,Reach h' xs id→Reach h xs id:=by
  intro id hr
  induction hr with
  | top hx hid=>exact .top hx hid
  | cell hr hrow hx hid ih=>exact .cell ih (by rw[←gJ (key _ ih)];exact hrow) hx hid
 have forth:∀ id,Reach h xs id→Reach h' xs id:=by
  intro id hr
  induction hr with
  | top hx hid=>exact .top hx hid
  | cell hr hrow hx hid ih=>exact .cell ih (by rw[gJ (key _ hr)];exact hrow) hx hid
 exact⟨fun id hr=>by rw[key id (back id hr)];exact hl.1 id (back id hr),fun h'' n'' hh=>hl.2 h'' n'' fun id hr=>(hh id (forth id hr)).trans (key id hr)⟩
structure Trace (P:Program) (base:Nat) (ops:List aW) (ds:Nat→D) (tms:Nat→Nat→D) (hs:Nat→Hp) (j0:Nat):Prop where
 step:∀ k o,ops[k]? =some o→aA (tms k) o.guard∧tms (k+1)=iY (tms k) o.dst (ds k)∧
  (gval (tms k) o.guard=true→aCX P true (tms k) (hs k) (base+1*(j0+k)) o.op (ds k) (hs (k+1)))∧
  (gval (tms k) o.guard=false→ds k= .one .undef∧hs (k+1)=hs k)
theorem aD3{base:Nat}{K:(Nat→D)→Hp→Prop}:∀ (ops:List aW) (i:Nat) (tm:Nat→D) (h:Hp),jI P true base ops i tm h K→
  ∃ds tms hs,tms 0=tm∧hs 0=h∧K (tms ops.length) (hs ops.length)∧Trace P base ops ds tms hs i
 | [],i,tm,h,hk=>⟨fun _=> .one .undef,fun _=>tm,fun _=>h,rfl,rfl,hk,⟨fun k o ho=>by simp at ho⟩⟩
 | o::rest,i,tm,h,hk=>by
  obtain⟨h1,h2,h3⟩:=hk
  have:∃ d h',(gval tm o.guard=true→aCX P true tm h (base+1*i) o.op d h')∧(gval tm o.guard=false→d= .one .undef∧h'=h)∧jI P true base rest (i+1) (iY tm o.dst d) h' K:=by
   cases hg:gval tm o.guard with
   | true=>obtain⟨d,h',k1,k2⟩:=h2 hg;exact⟨d,h',fun _=>k1,fun e=>by simp at e,k2⟩
   | false=>exact⟨.one .undef,h,fun e=>by simp at e,fun _=>⟨rfl,rfl⟩,h3 hg⟩
  obtain⟨d,h',q1,q2,q3⟩:=this;obtain⟨ds,tms,hs,g1,g2,g3,g4⟩:=aD3 rest (i+1) _ _ q3;refine⟨fun k=>match k with | 0=>d | k+1=>ds k,fun k=>match k with | 0=>tm | k+1=>tms k,fun k=>match k with | 0=>h | k+1=>hs k,rfl,rfl,g3,⟨fun k o' ho=>?_⟩⟩;cases k with
  | zero=>
   simp only[List.getElem?_cons_zero,sI9]at ho;subst ho;simp only[g1,g2,Nat.add_zero];exact⟨h1,trivial,q1,q2⟩
  | succ k=>
   have:=g4.step k o' (by simpa using ho);rw[show i+(k+1)=i+1+k by omega];exact this
section
variable {base:Nat} {ops:List aW} {R:Array Oper} {ds:Nat→D} {tms:Nat→Nat→D} {hs:Nat→Hp}
noncomputable def HS(hs:Nat→Hp)(S:Nat→Prop):Nat→Hp
 | 0=>hs 0
 | k+1=>fun id=>if S k∧hs (k+1) id≠hs k id then hs (k+1) id else HS hs S k id
theorem aFJ(S:Nat→Prop):∀ N,(∀k,k<N→S k)→HS hs S N=hs N
 | 0,_=>rfl
 | N+1,hS=>by
  funext id;simp only[HS]
  by_cases e:hs (N+1) id=hs N id
  ·simp only[e,ne_eq,not_true,and_false,if_false];rw[aFJ S N fun k hk=>hS k (by omega)]
  ·rw[if_pos ⟨hS N (by omega),e⟩]
theorem mU{S S':Nat→Prop}{id:Nat}:∀ N,(∀k,k<N→hs (k+1) id≠hs k id→(S k↔S' k))→HS hs S N id=HS hs S' N id
 | 0,_=>rfl
 | N+1,hS=>by
  simp only[HS];have ih:=mU N fun k hk=>hS k (by omega)
  by_cases e:hs (N+1) id=hs N id
  ·simp[e,ih]
  ·have:=hS N (by omega) e;simp[e,this,ih]
theorem aH8{id:Nat}{i:Nat}:∀ N,i≤N→HS hs (fun k=>k<i) N id=hs i id
 | N,hN=>by
  induction N with
  | zero=>
   have:i=0:=by omega
   subst this;rfl
  | succ N ih=>
   simp only[HS]
   by_cases e:i=N+1
   ·subst e
    by_cases e2:hs (N+1) id=hs N id
    ·simp only[e2,ne_eq,not_true,and_false,if_false];rw[aFJ (fun k=>k<N+1) N fun k hk=>by omega]
    ·rw[if_pos ⟨by omega,e2⟩]
   ·rw[if_neg (by omega)];exact ih (by omega)
theorem aH9{S:Nat→Prop}{id i:Nat}(hS:S i)(hc:hs (i+1) id≠hs i id):∀ N,i<N→(∀k,i<k→k<N→S k→hs (k+1) id=hs k id)→HS hs S N id=hs (i+1) id
 | 0,h,_=>by omega
 | N+1,h,hl=>by
  simp only[HS]
  by_cases e:i=N
  ·subst e;rw[if_pos ⟨hS,hc⟩]
  ·rw[if_neg fun⟨k1,k2⟩=>k2 (hl N (by omega) (by omega) k1)];exact aH9 hS hc N (by omega) fun k h1 h2=>hl k h1 (by omega)
theorem aK1{S:Nat→Prop}{id:Nat}:∀ N,HS hs S N id≠none→hs 0 id≠none∨∃k,k<N∧S k∧hs (k+1) id≠hs k id
 | 0,h=> .inl h
 | N+1,h=>by
  simp only[HS]at h;split at h
  ·rename_i hc;exact .inr ⟨N,by omega,hc⟩
  ·rcases aK1 N h with h | ⟨k,h1,h2⟩
   ·exact .inl h
   ·exact .inr ⟨k,by omega,h2⟩
theorem Trace.eff(ht:Trace P base ops ds tms hs 0){k:Nat}{o:aW}(ho:ops[k]? =some o):
  hs (k+1)=hs k∨((o.op.kind=1∨o.op.kind=3)∧∃id obj,hs (k+1)=(hs k).set id obj∧(id=base+1*k∨(o.op.kind=3∧hs k id≠none))):=by
 obtain⟨h1,h2,h3,h4⟩:=ht.step k o ho;rw[Nat.zero_add]at h3;cases hg:gval (tms k) o.guard with
 | false=>exact .inl (h4 hg).2
 | true=>
  have h5:=h3 hg;obtain⟨dst,op,g⟩:=o;cases op with
  | call f args=>exact .inl h5.2
  | callv f args=>obtain⟨_,_,_,_,_,h6⟩:=h5;exact .inl h6
  | op op=>
   obtain⟨k1,k2,k3⟩:=h5;obtain⟨_,_,q⟩:=aH7 op (base+1*k) (h:=hs k) (h':=hs k) (fun _ x _ id _ _=>rfl) k1;rcases q with⟨q,_⟩ | ⟨q1,q2,id,obj,q3,_,q4⟩
   ·left;rw[k3,q]
   ·right;refine⟨?_,id,obj,by rw[k3,q3],?_⟩
    ·show op.kind=1∨op.kind=3;have:=aN2 op;omega
    ·rcases q4 with q4 | ⟨q4,q5,_⟩
     ·exact .inl q4
     ·exact .inr ⟨q4,q5⟩
theorem Trace.changed(ht:Trace P base ops ds tms hs 0){k id:Nat}{o:aW}(ho:ops[k]? =some o)(hc:hs (k+1) id≠hs k id):
  (o.op.kind=1∧id=base+1*k)∨(o.op.kind=3∧(id=base+1*k∨hs k id≠none)):=by
 rcases ht.eff ho with h | ⟨h1,id',obj,h2,h3⟩
 ·rw[h]at hc;exact absurd rfl hc
 ·have:id=id':=by
   rcases Nat.decEq id id' with e | e
   ·rw[h2]at hc;simp[Hp.set,e]at hc
   ·exact e
  subst this;rcases h1 with h1 | h1
  ·rcases h3 with h3 | ⟨h3,_⟩
   ·exact .inl ⟨h1,h3⟩
   ·omega
  ·rcases h3 with h3 | ⟨_,h3⟩
   ·exact .inr ⟨h1,.inl h3⟩
   ·exact .inr ⟨h1,.inr h3⟩
theorem Trace.fresh(ht:Trace P base ops ds tms hs 0)(h0:∀ id,base≤id→hs 0 id=none):∀ i,i≤ops.length→∀k,i≤k→hs i (base+1*k)=none
 | 0,_,k,_=>h0 _ (by omega)
 | i+1,hi,k,hk=>by
  have ih:=ht.fresh h0 i (by omega) k (by omega);have ho:ops[i]? =some ops[i]:=gE9 (by omega)
  by_cases hc:hs (i+1) (base+1*k)=hs i (base+1*k)
  ·rw[hc,ih]
  ·rcases ht.changed ho hc with⟨_,h2⟩ | ⟨_,h2 | h2⟩
   ·omega
   ·omega
   ·exact absurd ih h2
noncomputable def TS(ops:List aW)(tms:Nat→Nat→D)(S:Nat→Prop):Nat→D:=
 fun t=>if ∃k o,ops[k]? =some o∧o.dst=some t∧S k then tms ops.length t else tms 0 t
theorem Trace.same(ht:Trace P base ops ds tms hs 0){t i:Nat}:∀ j,i≤j→j≤ops.length→(∀k o,i≤k→k<j→ops[k]? =some o→o.dst≠some t)→tms j t=tms i t
 | 0,h1,_,_=>by
  have:i=0:=by omega
  subst this;rfl
 | j+1,h1,h2,hn=>by
  by_cases e:i=j+1
  ·subst e;rfl
  ·have ho:ops[j]? =some ops[j]:=gE9 (by omega);rw[(ht.step j _ ho).2.1];have hd:=hn j _ (by omega) (by omega) ho
   have:iY (tms j) (ops[j]).dst (ds j) t=tms j t:=by
    cases hdd:(ops[j]).dst with
    | none=>rfl
    | some d=>simp only[iY,upd];rw[if_neg (by intro e;subst e;exact hd hdd)]
   rw[this];exact ht.same j (by omega) (by omega) fun k o h1 h2=>hn k o h1 (by omega)
end
end
section
open Go Classical
variable {P:Program} {w w':World} {F F':Fix} {ν ν':Nu} {h h':Hp} {nx:Nat} {tm tm':Nat→D} {a:Act} {n:Nat}
structure tN (R:Array Oper) (ops:List aW):Prop where
 con:∀ o∈ops,∀x∈o.op.operands,x.plain=true
 low:∀ (j:Nat) (o:Oper),j<ops.length→R[j]? =some o→∀e∈o.after.toList,Region.binds .any e=true→e.on<j
 one:∀ (i j:Nat) (x y:aW),i<j→ops[i]? =some x→ops[j]? =some y→∀d,x.dst=some d→y.dst≠some d
 ord:∀ (i j:Nat) (x y:aW),i<j→ops[i]? =some x→ops[j]? =some y→clash x y=true→((befs R.toList []).getD j 0).testBit i=true
theorem aK2{x:A}(hx:x.plain=true):∃ v,VA w F ν x v:=by
 cases x with
 | t x=>cases x with
  | int k n=>exact⟨_,.int k n⟩
  | bool b=>exact⟨_,.bool b⟩
  | str s=>exact⟨_,.str s⟩
  | nilp=>exact⟨_,.nilp⟩
  | nilf=>exact⟨_,.nilf⟩
  | rows=>simp[A.plain]at hx
 | tt sz rs=>cases rs with
  | nil=>exact⟨.slice none 0 0,.nils sz none 0,none,rfl⟩
  | cons r rs=>simp[A.plain]at hx
 | fn f caps=>cases caps with
  | nil=>exact⟨.func (.func f) #[] #[],#[],rfl,rfl,fun k p u hp=>by simp at hp⟩
  | cons r rs=>simp[A.plain]at hx
 | _=>simp[A.plain]at hx
theorem aK3{d:D}(hx:d.plain=true):(∃v,VD w F ν d v)∧d.top=[]:=by
 cases d with
 | one x=>exact⟨aK2 hx,by cases x<;>first | rfl | simp[D.plain,A.plain]at hx⟩
 | agg cs=>
  refine⟨?_,rfl⟩
  have:∃ us:List Value,VL (VA w F ν) cs us:=by
   simp only[D.plain,List.all_eq_true]at hx
   induction cs with
   | nil=>exact⟨[],rfl,fun k a u h=>by simp at h⟩
   | cons c cs ih=>
    obtain⟨v,hv⟩:=aK2 (w:=w) (F:=F) (ν:=ν) (hx c List.mem_cons_self);obtain⟨us,h1,h2⟩:=ih fun x h=>hx x (List.mem_cons_of_mem _ h)
    refine⟨v::us,by simp[h1],fun k a u ha hu=>?_⟩;cases k with
    | zero=>simp only[List.getElem?_cons_zero,sI9]at ha hu;subst ha;subst hu;exact hv
    | succ k=>exact h2 k a u (by simpa using ha) (by simpa using hu)
  obtain⟨us,hus⟩:=this;exact⟨.agg us.toArray,us.toArray,rfl,by simpa using hus⟩
 | tup xs=>simp[D.plain]at hx
theorem aHX{R:Array Oper}{ops:List aW}(hd:aFE R ops=true):tN R ops:=by
 simp only[aFE,Bool.and_eq_true,List.all_eq_true,List.mem_range]at hd;obtain⟨⟨hcon,h1⟩,h2⟩:=hd
 have h3:∀ (i j:Nat) (x y:aW),i<j→ops[i]? =some x→ops[j]? =some y→((x.dst==none||x.dst != y.dst)&&(!clash x y||((befs R.toList []).getD j 0).testBit i))=true:=by
  intro i j x y hij hx hy;have:=h2 j (gS9.1 hy).1 i hij;rw[hx,hy]at this;exact this
 refine⟨hcon,fun j o hj ho e he hb=>?_,fun i j x y hij hx hy d hd hd'=>?_,fun i j x y hij hx hy hc=>?_⟩
 ·have:=h1 j hj;rw[ho]at this;simp only[List.all_eq_true]at this;simpa[hb]using this e he
 ·have:=h3 i j x y hij hx hy;simp[hd,hd']at this
 ·have:=h3 i j x y hij hx hy;simp only[Bool.and_eq_true,hc,Bool.not_true,Bool.false_or]at this;exact this.2
theorem oU{grow:Nat→Bool}{R:Array Oper}:∀ (l:List Oper) (aops:List aW) (i:Nat),cT P n grow R i l=some aops→∀k o,l[k]? =some o→∃ao,aops[k]? =some ao∧gN P n grow R (i+k) o=some ao
 | [],_,_,_,k,o,ho=>by simp at ho
 | x::l,aops,i,hc,k,o,ho=>by
  simp only[cT,Option.bind_eq_bind,oB9,sI9]at hc;obtain⟨ao,h1,aops',h2,rfl⟩:=hc;cases k with
  | zero=>
   simp only[List.getElem?_cons_zero,sI9]at ho;subst ho;exact⟨ao,rfl,h1⟩
  | succ k=>
   obtain⟨ao',h3,h4⟩:=oU l aops' (i+1) h2 k o (by simpa using ho);exact⟨ao',by simpa using h3,by rw[show i+(k+1)=i+1+k by omega];exact h4⟩
section
variable {base:Nat} {ops:List aW} {R:Array Oper} {ds:Nat→D} {tms:Nat→Nat→D} {hs:Nat→Hp} {grow:Nat→Bool} {S:Nat→Prop} {i:Nat}
def Made(base:Nat)(ops:List aW)(hs:Nat→Hp)(S:Nat→Prop):Prop:=
 ∀j,S j→j<ops.length→∀id,hs (j+1) id≠hs j id→hs 0 id≠none∨∃k,S k∧k<ops.length∧id=base+1*k
theorem Made.dom(hm:Made base ops hs S){id:Nat}(hd:HS hs S ops.length id≠none):hs 0 id≠none∨∃k,S k∧k<ops.length∧id=base+1*k:=by
 rcases aK1 _ hd with h | ⟨k,h1,h2,h3⟩
 ·exact .inl h
 ·exact hm k h2 h1 id h3
theorem rD{x y:aW}(h:(x.op.kind=3∧2≤y.op.kind)∨(y.op.kind=3∧2≤x.op.kind)):clash x y=true:=by
 simp only[clash,Bool.or_eq_true,Bool.and_eq_true,beq_iff_eq,decide_eq_true_eq];rcases h with h | h
 ·exact .inl (.inr h)
 ·exact .inr h
theorem aD4{x y:aW}{d:Nat}(h:(x.dst=some d∧d∈y.looks)∨(y.dst=some d∧d∈x.looks)):clash x y=true:=by
 simp only[clash,Bool.or_eq_true];rcases h with⟨h1,h2⟩ | ⟨h1,h2⟩
 ·left;left;left;rw[h1];simpa using h2
 ·left;left;right;rw[h1];simpa using h2
theorem aK4{rd:Option Nat}{m:Nat}(ht:Trace P base ops ds tms hs 0)(hf:tN R ops)(hc:cT P n grow R 0 R.toList=some ops)(h0:∀ id,base≤id→hs 0 id=none)
  (hi:i<ops.length) (hni:¬ S i) (hdown:∀ j k,(S k∨k=i)→((befs R.toList []).getD k 0).testBit j=true→S j) (_hlt:∀ k,S k→k<ops.length) (hm:Made base ops hs S)
  (hr:Rel n ⟨TS ops tms S,HS hs S ops.length,base+1*ops.length⟩ a w F ν) {K:Act→World→Prop} {Q:Exit→Act→World→Prop}
  (hn:Made base ops hs (fun k=>k=i∨S k)→∀a' w' F' ν',a'.defers=a.defers→Rel n ⟨TS ops tms (fun k=>k=i∨S k),HS hs (fun k=>k=i∨S k) ops.length,base+1*ops.length⟩ a' w' F' ν'→Frame w F ν w' F' ν'→K a' w'):
  wpOpIn (FR rd) m P R Q i K a w:=by
 have hlen:R.toList.length=ops.length:=(fH _ _ _ hc).symm;have hRi:R[i]? =some (R[i]'(by simpa[←hlen]using hi)):=Array.getElem?_eq_getElem _;generalize R[i]'(by simpa[←hlen]using hi)=o at hRi;obtain⟨ao,hao,hco⟩:=oU R.toList ops 0 hc i o (by simpa using hRi);rw[Nat.zero_add]at hco;obtain⟨g1,g2,g3⟩:=gI hco;obtain⟨t1,t2,t3,t4⟩:=ht.step i ao hao;rw[Nat.zero_add]at t3;have get:∀ k,k<ops.length→∃x,ops[k]? =some x:=fun k hk=>⟨_,gE9 hk⟩
 -- one that writes a temporary is alone
 have alone:∀ k (x:aW) t,ops[k]? =some x→x.dst=some t→∀m (y:aW),ops[m]? =some y→y.dst=some t→m=k:=fun k x t hk hx m y hm hy=>by
  rcases Nat.lt_trichotomy m k with h | h | h
  ·exact absurd hx (hf.one m k y x h hm hk t hy)
  ·exact h
  ·exact absurd hy (hf.one k m x y h hk hm t hx)
 have TSw:∀ {S':Nat→Prop} {k:Nat} {x:aW} {t},ops[k]? =some x→x.dst=some t→TS ops tms S' t=if S' k then tms ops.length t else tms 0 t:=by
  intro S' k x t hk hx;simp only[TS]
  by_cases hS:S' k
  ·rw[if_pos hS,if_pos ⟨k,x,hk,hx,hS⟩]
  ·rw[if_neg hS,if_neg];rintro⟨m,y,q1,q2,q3⟩;rw[alone k x t hk hx m y q1 q2]at q3;exact hS q3
 have TSn:∀ {S':Nat→Prop} {t},(∀(k:Nat) (x:aW),ops[k]? =some x→x.dst≠some t)→TS ops tms S' t=tms 0 t:=by
  intro S' t hn;simp only[TS];rw[if_neg];rintro⟨m,y,q1,q2,q3⟩;exact hn m y q1 q2
 have before:∀ {k:Nat} {x:aW} {t m},ops[k]? =some x→x.dst=some t→m≤k→tms m t=tms 0 t:=fun{k x t m} hk hx hmk=>by
  have hkl:=(gS9.1 hk).1
  exact ht.same m (Nat.zero_le _) (by omega) fun k' o' _ q2 q3 q4=>by
   have:=alone k x t hk hx k' o' q3 q4;omega
 have later:∀ {k:Nat} {x:aW} {t m},ops[k]? =some x→x.dst=some t→k<m→m≤ops.length→tms ops.length t=tms m t:=fun{k x t m} hk hx hmk hml=>
  ht.same ops.length hml (Nat.le_refl _) fun k' o' q1 _ q3 q4=>by
   have:=alone k x t hk hx k' o' q3 q4;omega
 -- what it looks at is as in the order of the text
 have looks:∀ t∈ao.looks,TS ops tms S t=tms i t:=fun t hl=>by
  by_cases hw:∃ (k:Nat) (x:aW),ops[k]? =some x∧x.dst=some t
  ·obtain⟨k,x,hk,hx⟩:=hw;rw[TSw hk hx];rcases Nat.lt_trichotomy k i with h | h | h
   ·have:S k:=hdown k i (.inr rfl) (hf.ord k i x ao h hk hao (aD4 (.inl ⟨hx,hl⟩)));rw[if_pos this];exact later hk hx h (by omega)
   ·subst h;rw[if_neg hni];exact(before hk hx (Nat.le_refl _)).symm
   ·have:¬ S k:=fun hS=>hni (hdown i k (.inl hS) (hf.ord i k ao x h hao hk (aD4 (.inr ⟨hx,hl⟩))))
    rw[if_neg this];exact(before hk hx (by omega)).symm
  ·have hw':∀ (k:Nat) (x:aW),ops[k]? =some x→x.dst≠some t:=fun k x hk hx=>hw ⟨k,x,hk,hx⟩
   rw[TSn hw'];exact(ht.same i (Nat.zero_le _) (by omega) fun k x _ _ hk=>hw' k x hk).symm
 have guard:gval (TS ops tms S) ao.guard=gval (tms i) ao.guard∧(aA (TS ops tms S) ao.guard↔aA (tms i) ao.guard):=by
  cases hg:ao.guard with
  | none=>exact⟨rfl,Iff.rfl⟩
  | some sb=>
   obtain⟨s,b⟩:=sb;have:=looks s (by simp[aW.looks,hg]);simp only[gval,aA,this];constructor<;>first | trivial | exact Iff.rfl
 have evs:∀ x∈ao.op.operands,x.ev (tms i)=x.ev (TS ops tms S):=fun x hx=>by
  cases x with
  | con d=>rfl
  | tmp t=>exact(looks t (by simp only[aW.looks,List.mem_append,List.mem_filterMap];exact .inl ⟨.tmp t,hx,rfl⟩)).symm
 have vals:∀ x∈ao.op.operands,∀id∈(x.ev (TS ops tms S)).top,HS hs S ops.length id≠none:=fun x hx id hid=>by
  cases x with
  | con d=>
   rw[show(X.con d).ev (TS ops tms S)=d from rfl,(aK3 (w:=w) (F:=F) (ν:=ν) (hf.con ao (gM9 hao) (.con d) hx)).2]at hid;cases hid
  | tmp t=>exact vO hr.sim (hr.tmps t) id hid
 have rels:∀ x∈ao.op.operands,∃v,VD w F ν (x.ev (TS ops tms S)) v:=fun x hx=>by
  cases x with
  | con d=>exact(aK3 (hf.con ao (gM9 hao) (.con d) hx)).1
  | tmp t=>exact⟨_,hr.tmps t⟩
 -- the objects that it looks at are as in the order of the text
 have fresh:=ht.fresh h0
 have agree:2≤ao.op.kind→∀id,HS hs S ops.length id≠none→hs i id≠none→hs i id=HS hs S ops.length id:=fun hk id hd1 hd2=>by
  rw[←aH8 (hs:=hs) (i:=i) ops.length (by omega)];refine mU ops.length fun k hkl hch=>?_
  obtain⟨x,hx⟩:=get k hkl;have hkd:=ht.changed hx hch;constructor
  ·intro hki;rcases hkd with⟨q1,q2⟩ | ⟨q1,q2⟩
   ·rcases hm.dom hd1 with q3 | ⟨k',q3,q4,q5⟩
    ·exact absurd (h0 id (by omega)) q3
    ·have:k'=k:=by omega
     rw[←this];exact q3
   ·exact hdown k i (.inr rfl) (hf.ord k i x ao hki hx hao (rD (.inl ⟨q1,hk⟩)))
  ·intro hSk;rcases Nat.lt_trichotomy k i with q | q | q
   ·exact q
   ·subst q;exact absurd hSk hni
   ·rcases hkd with⟨q1,q2⟩ | ⟨q1,q2⟩
    ·subst q2;exact absurd (fresh i (by omega) k (by omega)) hd2
    ·exact absurd (hdown i k (.inl hSk) (hf.ord i k ao x q hao hx (rD (.inr ⟨q1,hk⟩)))) hni
 -- the temporaries with what it gives
 have tmps':TS ops tms (fun k=>k=i∨S k)=iY (TS ops tms S) ao.dst (ds i):=funext fun t=>by
  by_cases hw:∃ (k:Nat) (x:aW),ops[k]? =some x∧x.dst=some t
  ·obtain⟨k,x,hk,hx⟩:=hw;rw[TSw hk hx]
   by_cases e:k=i
   ·subst e;rw[hk]at hao;simp only[sI9]at hao;subst hao;rw[if_pos (.inl rfl),later hk hx (Nat.lt_succ_self _) (by omega),t2,hx];simp[iY,upd]
   ·have hd:ao.dst≠some t:=fun hd=>e (alone i ao t hao hd k x hk hx)
    have:iY (TS ops tms S) ao.dst (ds i) t=TS ops tms S t:=by
     cases hdd:ao.dst with
     | none=>rfl
     | some d=>simp only[iY,upd];rw[if_neg (by intro e;subst e;exact hd hdd)]
    rw[this,TSw hk hx];simp only[e,false_or]
  ·have hw':∀ (k:Nat) (x:aW),ops[k]? =some x→x.dst≠some t:=fun k x hk hx=>hw ⟨k,x,hk,hx⟩
   have:iY (TS ops tms S) ao.dst (ds i) t=TS ops tms S t:=by
    cases hdd:ao.dst with
    | none=>rfl
    | some d=>simp only[iY,upd];rw[if_neg (by intro e;subst e;exact hw' i ao hao hdd)]
   rw[this,TSn hw',TSn hw']
 have sA:hs (i+1)=hs i→HS hs (fun k=>k=i∨S k) ops.length=HS hs S ops.length:=fun e=>funext fun id=>mU _ fun k _ hch=>by
  have:k≠i:=fun e2=>by subst e2;rw[e]at hch;exact hch rfl
  simp[this]
 have made':(∀id,hs (i+1) id≠hs i id→id=base+1*i∨HS hs S ops.length id≠none)→Made base ops hs (fun k=>k=i∨S k):=by
  intro hnew j hj hjl id hch;rcases hj with rfl | hj
  ·rcases hnew id hch with e | e
   ·exact .inr ⟨j,.inl rfl,hjl,e⟩
   ·rcases hm.dom e with q | ⟨k,q1,q2,q3⟩
    ·exact .inl q
    ·exact .inr ⟨k,.inr q1,q2,q3⟩
  ·rcases hm j hj hjl id hch with q | ⟨k,q1,q2,q3⟩
   ·exact .inl q
   ·exact .inr ⟨k,.inr q1,q2,q3⟩
 have hw:=lZ hr g1 (guard.2.2 t1);unfold wpOpIn;rw[hRi];simp only;rw[hw,guard.1];cases hg:gval (tms i) ao.guard with
 | false=>
  obtain⟨u1,u2⟩:=t4 hg;simp only[Bool.false_eq_true,if_false];refine⟨fun _ _=>trivial,hn (made' fun id hch=>absurd (by rw[u2]) hch) _ w F ν (by cases o.dst<;>rfl) ?_ (Frame.refl _ _ _)⟩;rw[tmps',sA u2,u1,g3];exact hr.skip o.dst g2
 | true=>
  simp only[if_true];have hst:=t3 hg
  have fin:∀ h'',HS hs (fun k=>k=i∨S k) ops.length=h''→(∀id,hs (i+1) id≠hs i id→id=base+1*i∨HS hs S ops.length id≠none)→aCX P true (TS ops tms S) (HS hs S ops.length) (base+1*i) ao.op (ds i) h''→o.wpIn (FR rd) m P a w K Q:=by
   intro h'' e1 e2 hst'
   have hnone:HS hs S ops.length (base+1*i)=none:=by
    by_cases hd:HS hs S ops.length (base+1*i)=none
    ·exact hd
    ·rcases hm.dom hd with q | ⟨k,q1,q2,q3⟩
     ·exact absurd (h0 _ (by omega)) q
     ·have:k=i:=by omega
      rw[this]at q1;exact absurd q1 hni
   refine rA hr hco (.inr ⟨rfl,hnone,by show base+1*i<base+1*ops.length;omega,rfl⟩) hst' fun a' w' F' ν' hd' hr' hf'=>hn (made' e2) a' w' F' ν' hd' ?_ hf'
   rw[tmps',e1];exact hr'
  obtain⟨dst,op,g⟩:=ao;cases op with
  | call f args=>
   obtain⟨k1,k2⟩:=hst;refine fin _ (sA k2) (fun id hch=>absurd (by rw[k2]) hch) ⟨?_,rfl⟩;have e:(args.map fun x=>x.ev (tms i))=args.map fun x=>x.ev (TS ops tms S):=List.map_congr_left fun x hx=>evs x hx
   rw[e]at k1
   have hvs:∀ x∈args.map fun x=>x.ev (TS ops tms S),∃v,VD w F ν x v:=fun x hx=>by
    obtain⟨y,hy,rfl⟩:=List.mem_map.1 hx;exact rels y hy
   exact k1.imp (aD1 hr.sim (fun id q1 q2=>agree (by simp[dL.kind]) id q1 q2) hvs) (aD2 hr.sim (fun id q1 q2=>agree (by simp[dL.kind]) id q1 q2) hvs)
  | callv fv args=>
   obtain⟨f,caps,q1,q2,k1,k2⟩:=hst;refine fin _ (sA k2) (fun id hch=>absurd (by rw[k2]) hch) ⟨f,caps,?_,q2,?_,rfl⟩
   ·rw[←evs fv (by simp[dL.operands])];exact q1
   have e:(args.map fun x=>x.ev (tms i))=args.map fun x=>x.ev (TS ops tms S):=List.map_congr_left fun x hx=>evs x (by simp[dL.operands,hx])
   rw[e]at k1
   have hvs:∀ x∈(args.map fun x=>x.ev (TS ops tms S))++caps.map fun p=>D.one (.ptr p),∃v,VD w F ν x v:=fun x hx=>by
    rcases List.mem_append.1 hx with hx' | hx'
    ·obtain⟨y,hy,rfl⟩:=List.mem_map.1 hx';exact rels y (by simp[dL.operands,hy])
    ·obtain⟨p,hp,rfl⟩:=List.mem_map.1 hx';obtain⟨v,hv⟩:=rels fv (by simp[dL.operands]);rw[←evs fv (by simp[dL.operands]),q1]at hv;obtain⟨us,_,e2,e3⟩:=hv;obtain⟨j,hj,rfl⟩:=List.mem_iff_getElem.1 hp;exact⟨_,e3 j _ _ (gE9 hj) (Array.getElem?_eq_getElem (by omega))⟩
   exact k1.imp (aD1 hr.sim (fun id q1 q2=>agree (by simp[dL.kind]) id q1 q2) hvs) (aD2 hr.sim (fun id q1 q2=>agree (by simp[dL.kind]) id q1 q2) hvs)
  | op op=>
   obtain⟨k1,k2,k3⟩:=hst;obtain⟨c1,c2,c3⟩:=aK0 op (hs i) (base+1*i) evs;have k1':=c1.1 k1;rw[c2]at k2;rw[c3]at k3;obtain⟨m1,m2,m3⟩:=aH7 op (base+1*i) (h:=hs i) (h':=HS hs S ops.length) (fun hk x hx id hid hne=>agree hk id (vals x hx id hid) hne) k1';rcases m3 with⟨m3,m4⟩ | ⟨_,_,id,obj,m3,m4,m5⟩
   ·have e:hs (i+1)=hs i:=by rw[k3,m3]
    exact fin _ (sA e) (fun y hch=>absurd (by rw[e]) hch) ⟨m1,k2.trans m2,m4.symm⟩
   ·have hobj:hs (i+1) id=some obj:=by rw[k3,m3];simp[Hp.set]
    have hoth:∀ y,y≠id→hs (i+1) y=hs i y:=fun y hy=>by rw[k3,m3];simp[Hp.set,hy]
    have hdm:id=base+1*i∨HS hs S ops.length id≠none:=by
     rcases m5 with m5 | ⟨_,_,x,hx,hid⟩
     ·exact .inl m5
     ·exact .inr (vals x hx id hid)
    refine fin ((HS hs S ops.length).set id obj) (funext fun y=>?_) (fun y hch=>?_) ⟨m1,k2.trans m2,m4.symm⟩
    ·by_cases hy:y=id
     ·subst hy;have e:((HS hs S ops.length).set y obj) y=some obj:=by simp[Hp.set]
      rw[e]
      by_cases hch:hs (i+1) y=hs i y
      ·have e2:hs i y=some obj:=by rw[←hch];exact hobj
       rcases m5 with m5 | ⟨m5,_,x,hx,hid⟩
       ·rw[m5,fresh i (by omega) i (Nat.le_refl _)]at e2;cases e2
       ·rw[mU (S':=S) ops.length fun k _ hk=>?_,←agree (by show 2≤op.kind;omega) y (vals x hx y hid) (by rw[e2];simp),e2];have:k≠i:=fun e3=>by subst e3;exact hk hch
        simp[this]
      ·rw[aH9 (.inl rfl) hch ops.length hi fun k q1 q2 q3=>?_,hobj];have hSk:S k:=by rcases q3 with q3 | q3;omega;exact q3
       rcases Classical.em (hs (k+1) y=hs k y)with hk | hk
       ·exact hk
       ·obtain⟨x,hx⟩:=get k q2;rcases m5 with m5 | ⟨m5,m6,_⟩
        ·rcases hm k hSk q2 y hk with q | ⟨k',q4,_,q5⟩
         ·exact absurd (h0 y (by omega)) q
         ·have:k'=i:=by omega
          rw[this]at q4;exact absurd q4 hni
        ·rcases ht.changed hx hk with⟨_,q4⟩ | ⟨q4,_⟩
         ·subst q4;exact absurd (fresh i (by omega) k (by omega)) m6
         ·exact absurd (hdown i k (.inl hSk) (hf.ord i k _ x q1 hao hx (rD (.inr ⟨q4,by show 2≤op.kind;omega⟩)))) hni
     ·have e:((HS hs S ops.length).set id obj) y=HS hs S ops.length y:=by simp[Hp.set,hy]
      rw[e];refine mU ops.length fun k _ hk=>?_
      have:k≠i:=fun e3=>by subst e3;exact hk (hoth y hy)
      simp[this]
    ·by_cases hy:y=id
     ·subst hy;exact hdm
     ·exact absurd (hoth y hy) hch
theorem aHY{rd:Option Nat}{m:Nat}{dl:List Deferred}(ht:Trace P base ops ds tms hs 0)(hf:tN R ops)(hc:cT P n grow R 0 R.toList=some ops)(h0:∀ id,base≤id→hs 0 id=none){w0:World}{F0:Fix}{ν0:Nu}{Q:Exit→Act→World→Prop}
  (hq:∀ a' w' F' ν',a'.defers=dl→Rel n ⟨tms ops.length,hs ops.length,base+1*ops.length⟩ a' w' F' ν'→Frame w0 F0 ν0 w' F' ν'→Q .normal a' w'):
  ∀(fuel:Nat) (listed:Array Bool) (a:Act) (w:World) (F:Fix) (ν:Nu),listed.size=ops.length→Down R listed→Made base ops hs (fun k=>listed.getD k false=true)→
   ((List.range ops.length).filter fun k=> !listed.getD k false).length≤fuel→Frame w0 F0 ν0 w F ν→
   Rel n ⟨TS ops tms (fun k=>listed.getD k false=true),HS hs (fun k=>listed.getD k false=true) ops.length,base+1*ops.length⟩ a w F ν→a.defers=dl→wpAnyIn (FR rd) m P .any R Q fuel listed a w:=by
 have hlen:R.size=ops.length:=by have:=fH _ _ _ hc;simpa using this.symm
 have done:∀ (listed:Array Bool) (a:Act) (w:World) (F:Fix) (ν:Nu),(∀k,k<ops.length→listed.getD k false=true)→Frame w0 F0 ν0 w F ν→
   Rel n ⟨TS ops tms (fun k=>listed.getD k false=true),HS hs (fun k=>listed.getD k false=true) ops.length,base+1*ops.length⟩ a w F ν→a.defers=dl→Q .normal a w:=by
  intro listed a w F ν hall hfr hr hdl;refine hq a w F ν hdl ?_ hfr
  have e1:TS ops tms (fun k=>listed.getD k false=true)=tms ops.length:=funext fun t=>by
   simp only[TS];split
   ·rfl
   ·rename_i hn;refine(ht.same ops.length (Nat.zero_le _) (Nat.le_refl _) fun k x _ hk hx hd=>hn ⟨k,x,hx,hd,hall k hk⟩).symm
  rw[e1,aFJ _ _ hall]at hr;exact hr
 have nothing:∀ (listed:Array Bool),listed.size=ops.length→Region.ready .any R listed=[]→∀k,k<ops.length→listed.getD k false=true:=by
  intro listed hsz hr k
  induction k using Nat.strongRecOn with
  | _ k ih=>
   intro hk;cases hl:listed.getD k false with
   | true=>rfl
   | false=>
    have:k∈Region.ready .any R listed:=by
     simp only[Region.ready,List.mem_filter,List.mem_range,Bool.and_eq_true,Bool.not_eq_true'];have hRk:R[k]? =some (R[k]'(by omega)):=Array.getElem?_eq_getElem _;refine⟨by omega,?_,?_⟩
     ·have:k<listed.size:=by omega
      simpa[Array.getD,this]using hl
     ·rw[hRk];simp only[Option.map_some,Option.getD_some];rw[Array.all_eq_true_iff_forall_mem];intro e he;cases hb:Region.binds .any e with
      | false=>rfl
      | true=>
       have:=hf.low k _ hk hRk e (by simpa using he) hb;have:=ih e.on this (by omega);simpa using this
    rw[hr]at this;cases this
 intro fuel
 induction fuel with
 | zero=>
  intro listed a w F ν hsz hd hm hfu hfr hr hdl
  have hall:∀ k,k<ops.length→listed.getD k false=true:=fun k hk=>by
   have:=List.eq_nil_of_length_eq_zero (Nat.le_zero.1 hfu);rw[List.filter_eq_nil_iff]at this;simpa using this k (List.mem_range.2 hk)
  refine⟨?_,done listed a w F ν hall hfr hr hdl⟩;simp only[Region.ready,List.filter_eq_nil_iff,List.mem_range,Bool.and_eq_true,Bool.not_eq_true'];intro k hk ⟨h1,_⟩;have:=hall k (by omega);have hk':k<listed.size:=by omega
  simp[Array.getD,hk']at h1 this;rw[this]at h1;cases h1
 | succ fuel ih=>
  intro listed a w F ν hsz hd hm hfu hfr hr hdl;refine⟨fun hr0=>done listed a w F ν (nothing listed hsz hr0) hfr hr hdl,fun i hi=>?_⟩;obtain⟨r1,r2,r3⟩:=wN hi;have hil:i<ops.length:=by omega
  have hni:listed.getD i false=false:=by
   have:i<listed.size:=by omega
   simpa[Array.getD,this]using r2
  have eS:∀ k,(listed.setIfInBounds i true).getD k false=true↔(k=i∨listed.getD k false=true):=fun k=>by
   by_cases e:k=i
   ·subst e;have:k<listed.size:=by omega
    simp[Array.getD,this]
   ·have:(listed.setIfInBounds i true).getD k false=listed.getD k false:=by
     simp[Array.getD_eq_getD_getElem?,Array.getElem?_setIfInBounds_ne (Ne.symm e)]
    rw[this];simp[e]
  have eSf:(fun k=>(listed.setIfInBounds i true).getD k false=true)=fun k=>k=i∨listed.getD k false=true:=funext fun k=>propext (eS k)
  refine aK4 ht hf hc h0 hil (by simp[hni]) (fun j k hk hb=>aBO hd (by rcases hk with hk | rfl;exact .inl hk;exact .inr hi) hb) (fun k hk=>?_) hm hr fun hm' a' w' F' ν' hd' hr' hf'=>?_
  ·rcases Nat.lt_or_ge k listed.size with h | h
   ·omega
   ·simp[Array.getD,Nat.not_lt.2 h]at hk
  ·refine ih _ a' w' F' ν' (by simpa using hsz) (fun k o hk ho e he hb=>?_) (by rw[eSf];exact hm') ?_ (hfr.trans hf') (by rw[eSf];exact hr') (hd'.trans hdl)
   ·rw[eS];rcases(eS k).1 hk with rfl | hk
    ·exact .inr (r3 o ho e he hb)
    ·exact .inr (hd k o hk ho e he hb)
   ·have e1:((List.range ops.length).filter fun k=> !(listed.setIfInBounds i true).getD k false)=((List.range ops.length).filter fun k=> !listed.getD k false).filter fun k=>decide (k≠i):=by
     rw[List.filter_filter];refine List.filter_congr fun k _=>?_
     have:=eS k
     by_cases e:k=i
     ·rw[(eS k).2 (.inl e)];simp[e]
     ·cases hk:listed.getD k false with
      | true=>rw[(eS k).2 (.inr hk)];simp
      | false=>
       have:(listed.setIfInBounds i true).getD k false=false:=by
        cases h:(listed.setIfInBounds i true).getD k false with
        | false=>rfl
        | true=>rcases(eS k).1 h with h | h;exact absurd h e;rw[hk]at h;cases h
       rw[this];simp[e]
    have e2:(((List.range ops.length).filter fun k=> !listed.getD k false).filter fun k=>decide (k≠i)).length<((List.range ops.length).filter fun k=> !listed.getD k false).length:=by
     rw[List.length_filter_lt_length_iff_exists];exact⟨i,List.mem_filter.2 ⟨List.mem_range.2 hil,by rw[hni];rfl⟩,by simp⟩
    rw[e1];omega
end
theorem W.aFK{A:Exit→St→Prop}{st:St}{id cnt:Nat}{segs:List Seg}(hk:iH P true st.nx segs (nR A (st.nx+1*cnt)) 0 st.tmps st.heap):W P n (.region id true cnt segs) A st:=by
 intro rd m grow c hm hc a w F ν hr;cases c with
 | region i R draw=>
  simp only[aR,Option.bind_eq_bind,oB9,sI9,aB.region.injEq]at hc;obtain⟨aops,h1,_,h2,rfl,rfl,rfl,rfl⟩:=hc;have h2:=cF h2;simp only[Bool.not_true,Bool.false_or,Bool.and_eq_true]at h2;obtain⟨⟨h3,h4⟩,h5⟩:=h2
  have hg:∀ o∈aops,∀s b,o.guard=some (s,b)→o.dst≠some s:=fun o ho s b hgd hd=>by
   have:=List.all_eq_true.1 h5 o ho;unfold nP at this;rw[hgd,hd]at this;simp at this
  obtain⟨g1,g2⟩:=tM hg;have hk':=rC _ _ _ _ g1 hk;rw[g2]at hk';obtain⟨ds,tms,hs,t1,t2,t3,t4⟩:=aD3 aops 0 st.tmps st.heap hk'
  have hw':Frame w F ν { w with drawn:=w.drawn+1 } F ν:=⟨rfl,rfl,rfl,Nat.le_refl _,fun _ _ _=>rfl,fun _ _ _=>rfl,fun _ _ h=>h,fun _ _ h=> .inl h,fun _ _ h=>h,
   fun id b ver h=>⟨b,ver,h,Nat.le_refl _,fun _=>rfl,.inl rfl⟩,fun id b ver h=> .inl ⟨b,ver,h⟩⟩
  have hsim:Sim { w with drawn:=w.drawn+1 } F ν st.heap st.nx:=(hr.sim.ext (w':={ w with drawn:=w.drawn+1 }) ⟨rfl,rfl,rfl⟩ (Nat.le_refl _) (fun _ _=>rfl) (fun _ _ h=>h) (fun _ _ h=> .inl h)).1;have hlen:R.size=aops.length:=by have:=fH _ _ _ h1;simpa using this.symm
  refine wpIn_region_any h3 (aHY (dl:=a.defers) t4 (aHX h4) h1 (fun id hid=>by rw[t2];exact hr.sim.free hid) (w0:=w) (F0:=F) (ν0:=ν) (fun a' w' F' ν' hd' hr' hf'=>?_) R.size _ a _ F ν (by simp[hlen]) (fun k o hk=>?_) (fun k hk=>?_) ?_ hw' ?_ rfl)
  ·refine⟨_,F',ν',t3,?_,hf',.same hd',fun _=>hd'⟩;exact hr'
  ·exfalso;simp only[Array.getD_eq_getD_getElem?,Array.getElem?_replicate]at hk;split at hk<;>simp at hk
  ·exfalso;simp only[Array.getD_eq_getD_getElem?,Array.getElem?_replicate]at hk;split at hk<;>simp at hk
  ·rw[hlen];exact Nat.le_trans (List.length_filter_le _ _) (by simp)
  ·have e0:∀ k,¬((Array.replicate R.size false).getD k false=true):=fun k hk=>by
    simp only[Array.getD_eq_getD_getElem?,Array.getElem?_replicate]at hk;split at hk<;>simp at hk
   have e1:TS aops tms (fun k=>(Array.replicate R.size false).getD k false=true)=st.tmps:=funext fun t=>by
    simp only[TS];rw[if_neg,t1];rintro⟨k,x,_,_,hk⟩;exact e0 k hk
   have e2:HS hs (fun k=>(Array.replicate R.size false).getD k false=true) aops.length=st.heap:=by
    funext id;rw[mU (S':=fun k=>k<0) aops.length fun k _ _=>by simp[e0 k],aH8 aops.length (Nat.zero_le _),t2]
   rw[e1,e2];exact⟨hr.defers.mono hw',hr.size,fun t=>(hr.tmps t).mono hw',(hsim.more (show st.nx≤st.nx+1*aops.length by omega))⟩
 | _=>simp[aR,oB9]at hc
end
section
open Go
variable {P:Program} {w w':World} {F F':Fix} {ν ν':Nu} {h:Hp} {nx:Nat} {tm:Nat→D} {a:Act} {n:Nat} {A:Exit→St→Prop} {st:St}
inductive RV where
 | tmp (t:Nat)
 | cell (t n:Nat) (agg:Bool)
def dF(P:Program):List ResultVar→Option (List RV)
 | []=>some []
 | .tmp t::r=>do some (.tmp t::(←dF P r))
 | .cell t ty::r=>do
  let n ←szP P ty
  let g ←yH P ty
  ensure (g||decide (n=1))
  some (.cell t n g::(←dF P r))
def RV.ok(st:St):RV→Prop
 | .tmp _=>True
 | .cell t n g=>(st.tmps t).tE st.heap n∧(g=false→n=1)
def RV.val(st:St):RV→D
 | .tmp t=>st.tmps t
 | .cell t n g=> .of g ((st.tmps t).loadAt st.heap n)
def D.toS:D→S
 | .one x=> .one x
 | .agg cs=> .agg cs
 | .tup _=> .one .undef
def lT(st:St):List RV→D
 | [r]=>r.val st
 | rs=> .tup (rs.map fun r=>(r.val st).toS)
def aA3(st:St)(rs:List RV):Prop:=(∀r∈rs,r.ok st)∧(rs.length≠1→∀r∈rs,(r.val st).rP=false)
theorem aBQ(fn:Func)(tmps:Array Value):results fn tmps=(do
  let vs ←fn.results.toList.mapM (m:=Sem) fun
   | .tmp t=>pure (tmps.getD t undef)
   | .cell a t=>do loadVar t (←asAddr (tmps.getD a undef))
  pure (if h:vs.toArray.size=1 then vs.toArray[0] else .tuple vs.toArray)):=by
 unfold results;rw[Array.mapM_eq_mapM_toList];simp[Functor.map_map];rfl
theorem tO(hr:Rel n st a w F ν):∀ {l:List ResultVar} {rs:List RV},dF P l=some rs→(∀r∈rs,r.ok st)→
  ∃vs:List Value,(l.mapM (m:=Sem) fun
   | .tmp t=>pure (a.tmps.getD t undef)
   | .cell c t=>do loadVar t (←asAddr (a.tmps.getD c undef))).run P w= .ok vs w∧vs.length=rs.length∧∀(k:Nat) r v,rs[k]? =some r→vs[k]? =some v→VD w F ν (r.val st) v
 | [],rs,hc,_=>by
  simp only[dF,sI9]at hc;subst hc;exact⟨[],by simp,rfl,fun k r v h=>by simp at h⟩
 | .tmp t::l,rs,hc,hok=>by
  simp only[dF,Option.bind_eq_bind,oB9,sI9]at hc;obtain⟨rs',h1,rfl⟩:=hc;obtain⟨vs,h2,h3,h4⟩:=tO hr h1 fun r hr=>hok r (List.mem_cons_of_mem _ hr)
  refine⟨a.tmps.getD t undef::vs,by rw[List.mapM_cons];simp only[Sem.run_bind,Sem.run_pure,Result.andThen_ok,h2],by simp[h3],fun k r v hk hv=>?_⟩;cases k with
  | zero=>simp only[List.getElem?_cons_zero,sI9]at hk hv;subst hk;subst hv;exact hr.tmps t
  | succ k=>simp only[List.getElem?_cons_succ]at hk hv;exact h4 k r v hk hv
 | .cell t ty::l,rs,hc,hok=>by
  simp only[dF,Option.bind_eq_bind,oB9,sI9]at hc;obtain⟨sz,g1,g,g2,u,g3,rs',h1,rfl⟩:=hc;obtain⟨vs,h2,h3,h4⟩:=tO hr h1 fun r hr=>hok r (List.mem_cons_of_mem _ hr)
  obtain⟨k1,k2⟩:=hok _ List.mem_cons_self;obtain⟨v,q1,q2⟩:=aJT (P:=P) hr.sim g1 g2 k2 (hr.tmps t) k1
  have q3:∃ ad,a.tmps.getD t undef= .pointer (some ad):=by
   simp only[Instr.loadAt,Sem.run_bind]at q1;cases hx:a.tmps.getD t undef with
   | pointer ad=>
    cases ad with
    | none=>rw[hx]at q1;simp[Instr.sureAddr]at q1
    | some ad=>exact⟨ad,rfl⟩
   | _=>rw[hx]at q1;simp[Instr.sureAddr]at q1
  obtain⟨ad,q3⟩:=q3;have q4:(asAddr (a.tmps.getD t undef)).run P w= .ok ad w:=by rw[q3];rfl
  rw[q3]at q1;simp only[Instr.loadAt,Instr.sureAddr,Sem.run_bind,Sem.run_pure,Result.andThen_ok]at q1;refine⟨v::vs,by rw[List.mapM_cons];simp only[Sem.run_bind,q4,Sem.run_pure,Result.andThen_ok,q1,h2],by simp[h3],fun k r v' hk hv=>?_⟩;cases k with
  | zero=>simp only[List.getElem?_cons_zero,sI9]at hk hv;subst hk;subst hv;exact q2
  | succ k=>simp only[List.getElem?_cons_succ]at hk hv;exact h4 k r v' hk hv
theorem jV{fn:Func}{rs:List RV}(hr:Rel n st a w F ν)(hc:dF P fn.results.toList=some rs)(hok:aA3 st rs):
  ∃v,(results fn a.tmps).run P w= .ok v w∧VD w F ν (lT st rs) v:=by
 obtain⟨vs,h1,h2,h3⟩:=tO hr hc hok.1;rw[aBQ,Sem.run_bind,h1];simp only[Result.andThen_ok,Sem.run_pure];refine⟨_,rfl,?_⟩
 by_cases e:vs.toArray.size=1
 ·rw[dif_pos e];have e1:rs.length=1:=by rw[←h2];simpa using e
  obtain⟨r,rfl⟩:=List.length_eq_one_iff.1 e1;obtain⟨v,rfl⟩:=List.length_eq_one_iff.1 (show vs.length=1 by simpa using e);exact h3 0 r v rfl rfl
 ·rw[dif_neg e];have e1:rs.length≠1:=by rw[←h2];simpa using e
  have hform:lT st rs= .tup (rs.map fun r=>(r.val st).toS):=by
   unfold lT;split
   ·simp at e1
   ·rfl
  rw[hform];refine⟨vs.toArray,rfl,by simp[h2],fun k x u hx hu=>?_⟩;rw[List.getElem?_map]at hx;simp only[oM9]at hx;obtain⟨r,hr',rfl⟩:=hx;have h4:=h3 k r u hr' (by simpa using hu);have h5:=hok.2 e1 r (gM9 hr');generalize r.val st=d at h4 h5;cases d with
  | one x=>exact h4
  | agg cs=>exact h4
  | tup xs=>simp[D.rP]at h5
def gP(xs:List D):Nat→D:=fun k=>xs.getD k (.one .undef)
theorem sB{xs:List D}{vs:Array Value}(hs:Sim w F ν h nx)(hv:qL w F ν xs vs)(hn:xs.length≤n):
  Rel n ⟨gP xs,h,nx⟩ { tmps:=vs++Array.replicate (n - vs.size) undef,defers:=[] } w F ν:=by
 have e:=hv.1;refine⟨.nil _ _,by simp;omega,fun t=>?_,hs⟩;simp only[gP]
 by_cases ht:t<xs.length
 ·have h1:xs[t]? =some xs[t]:=gE9 ht;have h2:vs[t]? =some vs[t]:=by simp[←e,ht]
  have h3:=hv.2 t _ _ h1 h2;have e1:xs.getD t (.one .undef)=xs[t]:=by simp[List.getD,h1]
  have e2:(vs++Array.replicate (n - vs.size) undef).getD t undef=vs[t]'(by omega):=by
   simp[Array.getD_eq_getD_getElem?,Array.getElem?_append,←e,ht]
  rw[e1,e2];exact h3
 ·have e1:xs.getD t (.one .undef)= .one .undef:=by simp[List.getD,List.getElem?_eq_none (Nat.le_of_not_lt ht)]
  have e2:(vs++Array.replicate (n - vs.size) undef).getD t undef=undef:=by
   simp only[Array.getD_eq_getD_getElem?,Array.getElem?_append];rw[if_neg (by omega),Array.getElem?_replicate];split<;>rfl
  rw[e1,e2];rfl
def dC(w:World):List Nat→World
 | []=>w
 | D::Ds=>dC (w.putObj D (.deferred none)) Ds
theorem kX:∀ (Ds:List Nat) (w:World),(dC w Ds).heap.size=w.heap.size
 | [],_=>rfl
 | D::Ds,w=>by rw[dC,kX Ds,World.putObj_size]
theorem gE:∀ (Ds:List Nat) (w:World) (b:Nat),b∉Ds→(dC w Ds).heap[b]? =w.heap[b]?
 | [],_,_,_=>rfl
 | D::Ds,w,b,hb=>by
  rw[List.mem_cons,not_or]at hb;rw[dC,gE Ds _ b hb.2,World.putObj_heap_other hb.1]
theorem sC:∀ (Ds:List Nat) (w:World),(dC w Ds).os=w.os∧(dC w Ds).tape=w.tape∧(dC w Ds).output=w.output
 | [],_=>⟨rfl,rfl,rfl⟩
 | D::Ds,w=>by rw[dC];exact sC Ds _
theorem wO:∀ (Ds:List Nat) (w:World) (D:Nat),Ds.Nodup→D∈Ds→D<w.heap.size→(dC w Ds).heap[D]? =some (.deferred none)
 | [],_,_,_,h,_=>by cases h
 | D'::Ds,w,D,hn,h,hl=>by
  rw[List.nodup_cons]at hn;rcases List.mem_cons.1 h with rfl | h
  ·rw[dC,gE Ds _ _ hn.1,World.putObj_heap_same hl]
  ·rw[dC];exact wO Ds _ D hn.2 h (by rw[World.putObj_size];exact hl)
theorem sD{rd:Option Nat}{m:Nat}{fn:Func}{tmps:Array Value}{R:Ending→World→Prop}:∀ (l:List Deferred) (Ds:List Nat) (w:World),Ds.Nodup→l.map Deferred.target=Ds.map Target.collected→(∀D∈Ds,w.heap[D]? =some (.deferred (some [])))→
  (∃v,(results fn tmps).run P (dC w Ds)= .ok v (dC w Ds)∧R (.returned v) (dC w Ds))→LeavesInM (FR rd) m P fn tmps R l .returning w
 | [],[],w,_,_,_,h=>h
 | d::l,D::Ds,w,hn,ht,hD,h=>by
  simp only[List.map_cons,List.cons.injEq]at ht;rw[List.nodup_cons]at hn;refine⟨by simp,.inl ⟨D,_,ht.1,run_takeDeferred (hD D List.mem_cons_self),?_⟩⟩;refine sD l Ds _ hn.2 ht.2 (fun D' hD'=>?_) h;rw[World.putObj_heap_other (by intro e;subst e;exact hn.1 hD')];exact hD D' (List.mem_cons_of_mem _ hD')
 | [],_::_,_,_,ht,_,_=>by simp at ht
 | _::_,[],_,_,ht,_,_=>by simp at ht
theorem aFL{Ds:List Nat}(hs:Sim w F ν h nx)(hn:Ds.Nodup)(hD:∀ D∈Ds,w.heap[D]? =some (.deferred (some []))∧∀id ver,ν id≠some (D,ver)):
  (∀b o,(dC w Ds).cell? ⟨b,o,none⟩=w.cell? ⟨b,o,none⟩)∧(∀b,(dC w Ds).shape? b=w.shape? b)∧Going w F ν (dC w Ds) F ν∧Sim (dC w Ds) F ν h nx:=by
 have at':∀ b,b∈Ds→(dC w Ds).heap[b]? =some (.deferred none):=fun b hb=>wO Ds w b hn hb (Array.getElem?_eq_some_iff.1 (hD b hb).1).1
 have cell:∀ b o,(dC w Ds).cell? ⟨b,o,none⟩=w.cell? ⟨b,o,none⟩:=fun b o=>by
  by_cases hb:b∈Ds
  ·simp only[World.cell?,at' b hb,(hD b hb).1]
  ·simp only[World.cell?,gE Ds w b hb]
 have shape:∀ b,(dC w Ds).shape? b=w.shape? b:=fun b=>by
  by_cases hb:b∈Ds
  ·simp only[World.shape?,at' b hb,(hD b hb).1]
  ·simp only[World.shape?,gE Ds w b hb]
 have frozen:∀ b o,(dC w Ds).frozen? ⟨b,o,none⟩=w.frozen? ⟨b,o,none⟩:=fun b o=>by
  by_cases hb:b∈Ds
  ·simp only[World.frozen?,at' b hb,(hD b hb).1]
  ·simp only[World.frozen?,gE Ds w b hb]
 have go:Going w F ν (dC w Ds) F ν:=⟨fun b o _=>cell b o,fun _ _ h=>h,fun b s h=>by rw[shape];exact h,fun id b ver h=>⟨b,ver,h,Nat.le_refl _,fun _=>rfl,.inl rfl⟩⟩;refine⟨cell,shape,go,⟨fun b o hb=>by rw[kX];exact hs.fixed b o hb,fun id o ho=>?_,fun id bv hb=>by rw[kX];exact hs.dom id bv hb,hs.inj,hs.glob.mono (fun b o _=>cell b o) fun _ _ h=>h⟩⟩;have:=hs.obj id o ho;cases o with
 | arr ver shut sz rs=>
  obtain⟨b,e,n,h1,h2,h3,h4,h5,h6,h7⟩:=this;refine⟨b,e,n,h1,by rw[shape];exact h2,fun o ho=>by rw[frozen];exact h3 o ho,h4,h5,fun i j r x hi hj=>?_,h7⟩;obtain⟨k1,u,k2,k3⟩:=h6 i j r x hi hj;exact⟨k1,u,by rw[cell];exact k2,VA.jG k3 go⟩
theorem aBR{n:Nat}{st:St}{w0:World}{F0:Fix}{ν0:Nu}{a0 a:Act}{w:World}{F:Fix}{ν:Nu}{fn:Func}{R:Ending→World→Prop}{m:Nat}(h0:a0.defers=[])(hc:Came n none a0 w0 F0 ν0 st a w F ν)
  (hR:∀ w',Rel n st { a with defers:=[] } w' F ν→Frame w0 F0 ν0 w' F ν→∃v,(results fn a.tmps).run P w'= .ok v w'∧R (.returned v) w'):LeavesInM (FR none) m P fn a.tmps R a.defers .returning w:=by
 obtain⟨hr,hf,hm,_⟩:=hc;obtain⟨Ds,h1,h2,h3⟩:=hr.defers;refine sD a.defers Ds w h1 h2 (fun D hD=>(h3 D hD).1) ?_;obtain⟨c1,c2,c3,c4⟩:=aFL hr.sim h1 h3
 have hnew:∀ D∈Ds,w0.heap.size≤D:=fun D hD=>by
  have:Target.collected D∈a.defers.map Deferred.target:=by rw[h2];exact List.mem_map_of_mem hD
  obtain⟨d,hd,e⟩:=List.mem_map.1 this;rcases hm d hd with h | ⟨D',e',h⟩
  ·rw[h0]at h;cases h
  ·rw[e]at e';cases e';exact h
 obtain⟨s1,s2,s3⟩:=sC Ds w
 exact hR _ ⟨.nil _ _,hr.size,fun t=>VD.jG (hr.tmps t) c3,c4⟩
  {os:=by rw[s1];exact hf.os,tape:=by rw[s2];exact hf.tape,output:=by rw[s3];exact hf.output,size:=by rw[kX];exact hf.size
   keep:=fun b hb hn=>by rw[gE Ds w b (fun hD=>by have:=hnew b hD;omega)];exact hf.keep b hb hn
   cell:=fun b o hb=>by rw[c1];exact hf.cell b o hb
   sub:=hf.sub,new:=hf.new,shape:=fun b s hs=>by rw[c2];exact hf.shape b s hs,nu:=hf.nu,nu':=hf.nu' }
theorem kY{F:Fence}{n:Nat}{fn:Func}{R:Ending→World→Prop}{e:Exit}{a:Act}{w:World}(h1:e= .normal∨e= .ret)(h:LeavesInM F n P fn a.tmps R a.defers .returning w):bodyPostM F n P fn R e a w:=by
 rcases h1 with rfl | rfl<;>exact h
def aC(rs:List RV)(r:D)(e:Exit)(st:St):Prop:=
 (e= .normal∨e= .ret)∧aA3 st rs∧(lT st rs).cE st.heap∧(lT st rs).frz st.heap=r
theorem PSp.aBS{f:FuncId}{fn:Func}{c:Code}{ac:aB}{grow:Nat→Nat→Bool}{rs:List RV}(hf:P.funcs[f]? =some fn)(hb:fn.body=some c)(hc:aR P fn.ntmps grow c=some ac)
  (hres:dF P fn.results.toList=some rs) {xs:List D} {r:D} (hn:xs.length≤fn.ntmps) (hx:xs.all D.closed=true) (hrc:r.closed=true) (hW:W P fn.ntmps ac (aC rs r) ⟨gP xs,jM,0⟩):PSp P f xs r:=by
 have main:Spec P f jM 0 xs fun d _=>d=r:=by
  intro w F ν vs hs hv
  have hν:ν=qZ:=funext fun id=>by
   cases hn:ν id with
   | none=>rfl
   | some bv=>have:=(hs.dom id bv hn).1;omega
  subst hν;refine callsIn_wide.1 (callsIn_of_wp_marks (n:=9) hf hb trivial (wpIn_mono (hW none 9 grow c (.inl ⟨rfl,Nat.le_refl _⟩) hc _ w F qZ (sB hs hv hn)) (fun e a' w1 hq=>?_)));obtain⟨st',F',ν',⟨h1,h2,h3,h4⟩,hcm⟩:=hq;refine kY h1 (aBR rfl hcm fun w' h5 h6=>?_);obtain⟨v,g1,g2⟩:=jV h5 hres h2
  have hend:∃ r' v' h' F'' ν'',Ending.returned v= .returned v'∧r'=r∧Sim w' F'' ν'' h' (0+1)∧VD w' F'' ν'' r' v'∧Frame w F qZ w' F'' ν'':=by
   have hblk:∀ id b ver,ν' id=some (b,ver)→w.heap.size≤b:=fun id b ver hn=>by
    rcases h6.nu' id b ver hn with⟨_,_,h⟩ | h
    ·cases h
    ·exact h
   refine⟨r,v,jM,(fun b o=>F' b o∨∃id ver,ν' id=some (b,ver)),qZ,rfl,rfl,Sim.bare (fun b o hb=>?_) (h5.sim.glob.mono (fun _ _ _=>rfl) fun b o hb=> .inl hb) _,?_,?_⟩
   ·rcases hb with hb | ⟨id,ver,hb⟩
    ·exact h5.sim.fixed b o hb
    ·exact h5.sim.fY hb
   ·rw[←h4];exact D.gW h5.sim (fun b o hb=> .inl hb) g2 h3 fun id _ b ver hn o _=> .inr ⟨id,ver,hn⟩
   ·exact{
     os:=h6.os,tape:=h6.tape,output:=h6.output,size:=h6.size,keep:=h6.keep,cell:=h6.cell
     sub:=fun b o hb=> .inl (h6.sub b o hb)
     new:=fun b o hb=>by
      rcases hb with hb | ⟨id,ver,hb⟩
      ·exact h6.new b o hb
      ·exact .inr (.inl (hblk id b ver hb))
     shape:=h6.shape
     nu:=fun id b ver hh=>by cases hh
     nu':=fun id b ver hh=>by cases hh }
  exact⟨v,g1,hend⟩
 exact Spec.beside main (fun x hx'=>List.all_eq_true.1 hx x hx') hrc
def aHA(l:List (Nat×Nat)):Nat→Nat→Bool:=fun r i=> !(l.contains (r,i))
structure Compiled (P:Program) (f:FuncId) (n:Nat) (rs:List RV) (ac:aB):Prop where
 out:∃ fn c grow,P.funcs[f]? =some fn∧fn.body=some c∧aR P fn.ntmps grow c=some ac∧dF P fn.results.toList=some rs∧fn.ntmps=n
theorem Compiled.mk'{f:FuncId}{n:Nat}{rs:List RV}{ac:aB}{fn:Func}(l:List (Nat×Nat))(hf:P.funcs[f]? =some fn)(hn:fn.ntmps=n)(hc:(fn.body.bind (aR P n (aHA l)))=some ac)(hr:dF P fn.results.toList=some rs):
  Compiled P f n rs ac:=by
 cases hb:fn.body with
 | none=>rw[hb]at hc;cases hc
 | some c=>rw[hb]at hc;subst hn;exact⟨fn,c,_,hf,hb,hc,hr,rfl⟩
theorem Compiled.psp{f:FuncId}{n:Nat}{rs:List RV}{ac:aB}(hc:Compiled P f n rs ac){xs:List D}{r:D}(hn:xs.length≤n)(hx:xs.all D.closed=true)(hrc:r.closed=true)(hW:W P n ac (aC rs r) ⟨gP xs,jM,0⟩):PSp P f xs r:=by
 obtain⟨fn,c,grow,h1,h2,h3,h4,rfl⟩:=hc.out;exact PSp.aBS h1 h2 h3 h4 hn hx hrc hW
end
section
open Go
variable {P:Program} {w w':World} {F F':Fix} {ν ν':Nu} {h:Hp} {nx:Nat} {tm:Nat→D} {a:Act} {n:Nat} {st:St}
def A.below(n:Nat):A→Bool
 | .ref id _ _ _ _ _=>decide (id<n)
 | .ptr p=>decide (p.id<n)
 | .fn _ caps=>caps.all fun p=>decide (p.id<n)
 | _=>true
def O.below(n:Nat):O→Bool
 | .arr _ _ _ rs=>rs.all fun r=>r.all (A.below n)
def mV(ν:Nu)(n:Nat):Nu:=fun id=>if id<n then ν id else none
theorem kA{id:Nat}{bv:Nat×Nat}(hn:mV ν n id=some bv):id<n∧ν id=some bv:=by
 unfold mV at hn;split at hn
 ·exact⟨‹_›,hn⟩
 ·cases hn
theorem VP.cut{p:Pt}{v:Value}(hv:VP ν p v)(hp:p.id<n):VP (mV ν n) p v:=by
 obtain⟨b,ver,h1,h2⟩:=hv;exact⟨b,ver,by simp[mV,hp,h1],h2⟩
theorem VA.cut{x:A}{v:Value}(hv:VA w F ν x v)(hb:x.below n=true)(hF:∀ b o,F b o→F' b o):VA w F' (mV ν n) x v:=by
 cases x with
 | t x=>exact VT.mono hv (fun _ _ _=>rfl) hF
 | tt sz rs=>exact⟨VT.mono hv.1 (fun _ _ _=>rfl) hF,hv.2⟩
 | into cs=>
  obtain⟨b,off,h1,h2⟩:=hv;exact⟨b,off,h1,fun j x hx=>by obtain⟨u,h3,h4,h5⟩:=h2 j x hx;exact⟨u,h3,hF _ _ h4,h5.mono (fun _ _ _=>rfl) hF⟩⟩
 | ref id ver off len sz tight=>
  obtain⟨b,v',h1,h2⟩:=hv;have:id<n:=by simpa[A.below]using hb
  exact⟨b,v',by simp[mV,this,h1],h2⟩
 | ptr p=>exact VP.cut hv (by simpa[A.below]using hb)
 | fn f caps=>
  obtain⟨us,h1,h2,h3⟩:=hv;refine⟨us,h1,h2,fun k p u hp hu=>(h3 k p u hp hu).cut ?_⟩;simp only[A.below,List.all_eq_true,decide_eq_true_eq]at hb;exact hb p (gM9 hp)
 | undef=>exact hv
def gF(rs:List RV)(r:D)(h':Hp)(n0:Nat)(e:Exit)(st:St):Prop:=
 (e= .normal∨e= .ret)∧aA3 st rs∧(lT st rs).cE st.heap∧(lT st rs).frz st.heap=r∧(∀id∈(lT st rs).ids st.heap,n0≤id)∧
  (∀id,id<n0→st.heap id=h' id)∧(∀id,n0≤id→h' id=none)∧∀id o,h' id=some o→o.below n0=true
theorem ISp.aBS{f:FuncId}{fn:Func}{c:Code}{ac:aB}{grow:Nat→Nat→Bool}{rs:List RV}(hf:P.funcs[f]? =some fn)(hb:fn.body=some c)(hc:aR P fn.ntmps grow c=some ac)
  (hres:dF P fn.results.toList=some rs) {xs:List D} {r:D} {h h':Hp} {n0:Nat} (hn:xs.length≤fn.ntmps) (hW:W P fn.ntmps ac (gF rs r h' n0) ⟨gP xs,h,n0⟩):ISp P f h n0 xs r h':=by
 intro w F ν vs hs hv;refine callsIn_wide.1 (callsIn_of_wp_marks (n:=9) hf hb trivial (wpIn_mono (hW none 9 grow c (.inl ⟨rfl,Nat.le_refl _⟩) hc _ w F ν (sB hs hv hn)) (fun e a' w1 hq=>?_)));obtain⟨st',F',ν',⟨h1,h2,h3,h4,h7,h8,h9,h10⟩,hcm⟩:=hq;refine kY h1 (aBR rfl hcm fun w' h5 h6=>?_);obtain⟨v,g1,g2⟩:=jV h5 hres h2;have hsub:∀ b o,F' b o→(F' b o∨∃id ver,n0≤id∧ν' id=some (b,ver)):=fun b o hb=> .inl hb
 have hend:∃ r' v' h'' F'' ν'',Ending.returned v= .returned v'∧(r'=r∧h''=h')∧Sim w' F'' ν'' h'' (n0+1)∧VD w' F'' ν'' r' v'∧Frame w F ν w' F'' ν'':=by
  refine⟨r,v,h',(fun b o=>F' b o∨∃id ver,n0≤id∧ν' id=some (b,ver)),mV ν' n0,rfl,⟨rfl,rfl⟩,⟨fun b o hb=>?_,fun id o ho=>?_,fun id bv hn=>?_,fun i j b v1 v2 hi hj=>?_,h5.sim.glob.mono (fun _ _ _=>rfl) fun b o hb=> .inl hb⟩,?_,?_⟩
  ·rcases hb with hb | ⟨id,ver,_,hb⟩
   ·exact h5.sim.fixed b o hb
   ·exact h5.sim.fY hb
  ·have hlt:id<n0:=by
    rcases Nat.lt_or_ge id n0 with h | h
    ·exact h
    ·rw[h9 id h]at ho;cases ho
   have hob:=h5.sim.obj id o (by rw[h8 id hlt];exact ho);have hbel:=h10 id o ho;cases o with
   | arr ver shut sz rs'=>
    obtain⟨b,e',m,k1,k2,k3,k4,k5,k6,k7⟩:=hob;refine⟨b,e',m,by simp[mV,hlt,k1],k2,k3,k4,k5,fun i j rr x hi hj=>?_,fun o hFo=>?_⟩
    ·obtain⟨q1,u,q2,q3⟩:=k6 i j rr x hi hj;simp only[O.below,List.all_eq_true]at hbel;exact⟨q1,u,q2,q3.cut (hbel rr (gM9 hi) x (gM9 hj)) hsub⟩
    ·rcases hFo with hFo | ⟨id2,ver2,q1,q2⟩
     ·exact k7 o hFo
     ·have:=h5.sim.inj _ _ _ _ _ q2 k1;omega
  ·obtain⟨q1,q2⟩:=kA hn;obtain⟨q3,q4,o,q5⟩:=h5.sim.dom _ _ q2;exact⟨by omega,q4,o,by rw[←h8 id q1];exact q5⟩
  ·exact h5.sim.inj _ _ _ _ _ (kA hi).2 (kA hj).2
  ·rw[←h4];exact D.gW h5.sim hsub g2 h3 fun id hid b ver hn o _=> .inr ⟨id,ver,h7 id hid,hn⟩
  ·exact{
    os:=h6.os,tape:=h6.tape,output:=h6.output,size:=h6.size,keep:=h6.keep,cell:=h6.cell
    sub:=fun b o hb=> .inl (h6.sub b o hb)
    new:=fun b o hb=>by
     rcases hb with hb | ⟨id,ver,q1,hb⟩
     ·exact h6.new b o hb
     ·rcases h6.nu' id b ver hb with⟨b0,v0,q2⟩ | q2
      ·have:=(hs.dom _ _ q2).1;omega
      ·exact .inr (.inl q2)
    shape:=h6.shape
    nu:=fun id b ver hh=>by
     obtain⟨b',ver',q1,q2⟩:=h6.nu id b ver hh;have:=(hs.dom _ _ hh).1;exact⟨b',ver',by simp[mV,this,q1],q2⟩
    nu':=fun id b ver hh=>h6.nu' id b ver (kA hh).2 }
 exact⟨v,g1,hend⟩
theorem Compiled.isp{f:FuncId}{n:Nat}{rs:List RV}{ac:aB}(hc:Compiled P f n rs ac){xs:List D}{r:D}{h h':Hp}{n0:Nat}(hn:xs.length≤n)(hW:W P n ac (gF rs r h' n0) ⟨gP xs,h,n0⟩):ISp P f h n0 xs r h':=by
 obtain⟨fn,c,grow,h1,h2,h3,h4,rfl⟩:=hc.out;exact ISp.aBS h1 h2 h3 h4 hn hW
end
section
open Go
variable {P:Program} {h:Hp} {tm:Nat→D} {n:Nat} {A:Exit→St→Prop} {st:St}
def bs(l:List Nat):ByteArray:=⟨(l.map UInt8.ofNat).toArray⟩
def uN(d:D)(p q:St→Prop)(st:St):Prop:=
 match d with
 | .one (.t (.bool b))=>(b=true→p st)∧(b=false→q st)
 | _=>False
@[simp] theorem aPL(b:Bool)(p q:St→Prop)(st:St):uN (.one (.t (.bool b))) p q st=((b=true→p st)∧(b=false→q st)):=rfl
def awp(P:Program)(n:Nat):aB→(Exit→St→Prop)→St→Prop
 | .skip,A,st=>A .normal st
 | .region _ false cnt segs,A,st=>iH P false st.nx segs (nR A (st.nx+1*cnt)) 0 st.tmps st.heap
 | .region _ true cnt segs,A,st=>iH P true st.nx segs (nR A (st.nx+1*cnt)) 0 st.tmps st.heap
 | .seq x y,A,st=>awp P n x (rX (awp P n y A) A) st
 | .cond c x y,A,st=>uN (c.ev st.tmps) (awp P n x A) (awp P n y A) st
 | .block id x,A,st=>awp P n x (rY id A) st
 | .loop x,A,st=>W P n (.loop x) A st
 | .exit id,A,st=>A (.exit id) st
 | .ret,A,st=>A .ret st
 | .rng g ps x y,A,st=>W P n (.rng g ps x y) A st
theorem W.iB:∀ (ac:aB) (A:Exit→St→Prop) (st:St),awp P n ac A st→W P n ac A st
 | .skip,A,st,hk=>W.skip hk
 | .region id false cnt segs,A,st,hk=>W.region hk
 | .region id true cnt segs,A,st,hk=>W.aFK hk
 | .seq x y,A,st,hk=>W.seq ((W.iB x _ st hk).mono fun e st' hq=>by
   cases e with
   | normal=>exact W.iB y A st' hq
   | exit i=>exact hq
   | goto l=>exact hq
   | ret=>exact hq
   | panic ch=>exact hq
   | outgrown=>exact hq)
 | .cond c x y,A,st,hk=>by
  unfold awp uN at hk;split at hk
  ·rename_i b e;exact W.cond e (fun hb=>W.iB x A st (hk.1 hb)) (fun hb=>W.iB y A st (hk.2 hb))
  ·exact hk.elim
 | .block id x,A,st,hk=>W.block (W.iB x _ st hk)
 | .loop x,A,st,hk=>hk
 | .exit id,A,st,hk=>W.exit hk
 | .ret,A,st,hk=>W.ret hk
 | .rng g ps x y,A,st,hk=>hk
theorem Compiled.pure{f:FuncId}{rs:List RV}{ac:aB}(hc:Compiled P f n rs ac){xs:List D}{r:D}(hn:xs.length≤n)(hx:xs.all D.closed=true)(hrc:r.closed=true)(hW:awp P n ac (aC rs r) ⟨gP xs,jM,0⟩):PSp P f xs r:=
 hc.psp hn hx hrc (W.iB _ _ _ hW)
@[congr] theorem aP0{draw:Bool}{f f':FuncId}{xs xs':List D}{h h':Hp}{new new':Nat}{K:D→Hp→Prop}(e1:f=f')(e2:xs=xs')(e3:h=h')(e4:new=new'):aD P draw f xs h new K=aD P draw f' xs' h' new' K:=by rw[e1,e2,e3,e4]
theorem aD.pure{f:FuncId}{xs ys:List D}{h:Hp}{new:Nat}{K:D→Hp→Prop}{r:D}(hs:PSp P f ys r)(hok:∀ x∈xs,x.cE h)(hf:xs.map (D.frz h)=ys)(hK:K r (if r.scalar then h else h.close (xs.flatMap (D.ids h)))):aD P false f xs h new K:=
 ⟨r,_,.inl ⟨hok,by rw[hf];exact hs,rfl⟩,hK⟩
theorem aD.draw{f:FuncId}{xs ys:List D}{h:Hp}{new:Nat}{K:D→Hp→Prop}{r:D}(hs:PSp P f ys r)(hok:∀ x∈xs,x.cE h)(hf:xs.map (D.frz h)=ys)(hc:r.scalar=true∨xs.flatMap (D.ids h)=[])(hK:K r h):aD P true f xs h new K:=
 ⟨r,_,⟨.inl ⟨hok,by rw[hf];exact hs,hc⟩,rfl⟩,hK⟩
theorem aD.look{f:FuncId}{xs:List D}{h:Hp}{new:Nat}{K:D→Hp→Prop}{r:D}(hl:zH P f xs h r)(hK:K r h):aD P true f xs h new K:=⟨r,h,⟨.inr hl,rfl⟩,hK⟩
theorem aK5(x y:D):sel true x y=x:=rfl
theorem aHZ(x y:D):sel false x y=y:=rfl
theorem aK6(c x y:Bool):sel c (.one (.t (.bool x))) (.one (.t (.bool y)))= .one (.t (.bool (bif c then x else y))):=by cases c<;>rfl
theorem aBT(c:Bool)(x y z:D):sel c (sel c x y) z=sel c x z:=by cases c<;>rfl
theorem aD5(c:Bool)(x y z:D):sel c x (sel (!c) y z)=sel c x y:=by cases c<;>rfl
theorem aK7(c:Bool)(x y:D):D.pick (.one (.t (.bool c))) x y=sel c x y:=rfl
end
section
open Go
variable {P:Program} {h:Hp} {tm:Nat→D} {n:Nat} {st:St}
end
section
open Go
variable {P:Program} {h:Hp} {tm:Nat→D} {n:Nat} {st:St}
section
variable {ex:aB→St→Option (Exit×St)}
end
end
section
open Go
@[simp] def zo(n:Nat)(o:AOp):Seg:= .one (.mk (some n) (.op o) none)
@[simp] def zv(n t:Nat):Seg:= .one (.mk (some n) (.op (.mv (.tmp t))) none)
@[simp] def zl(n t:Nat):Seg:= .one (.mk (some n) (.op (.load 1 false (.tmp t))) none)
@[simp] def zf(n k t:Nat):Seg:= .one (.mk (some n) (.op (.fa k (.tmp t))) none)
@[simp] def zc(n:Nat)(f:FuncId)(l:List X):Seg:= .one (.mk (some n) (.call f l) none)
@[simp] def zn(o:AOp):Seg:= .one (.mk none (.op o) none)
@[simp] def zg(n:Nat)(o:AOp)(i:Nat)(b:Bool):aW:= .mk (some n) (.op o) (some (i,b))
@[simp] def zi(n:Int):X:= .con (.one (.t (.int .i64 n)))
@[simp] def zb(b:Bool):X:= .con (.one (.t (.bool b)))
@[simp] def za:A:= .t (.int .i64 0)
@[simp] def zr(i c:Nat)(s:List Seg):aB:= .region i false c s
@[simp] def zM(n:Nat)(k:Int):Seg:= .one (.mk (some n) (.op (.mv (.con (.one (.t (.int .i64 k)))))) none)
@[simp] def zW(n:Nat)(b:Bool):Seg:= .one (.mk (some n) (.op (.mv (.con (.one (.t (.bool b)))))) none)
@[simp] def zK(n:Nat)(o:BinOp)(t:Nat)(k:Int):Seg:= .one (.mk (some n) (.op (.bin o false (.tmp t) (.con (.one (.t (.int .i64 k)))))) none)
@[simp] def zB(n:Nat)(o:BinOp)(t u:Nat):Seg:= .one (.mk (some n) (.op (.bin o false (.tmp t) (.tmp u))) none)
@[simp] def zA(n k t:Nat):Seg:= .one (.mk (some n) (.op (.load k true (.tmp t))) none)
@[simp] def zL(n t:Nat):Seg:= .one (.mk (some n) (.op (.len false (.tmp t))) none)
@[simp] def zI(n k t u:Nat):Seg:= .one (.mk (some n) (.op (.ia k (.tmp t) (.tmp u))) none)
@[simp] def zQ(n t u:Nat):Seg:= .one (.mk (some n) (.op (.pick (.tmp t) (.con (.one (.t (.bool true)))) (.tmp u))) none)
@[simp] def zP(n t u:Nat):Seg:= .one (.mk (some n) (.op (.pick (.tmp t) (.tmp u) (.con (.one (.t (.bool false)))))) none)
@[simp] def zX(n k t:Nat):Seg:= .one (.mk (some n) (.op (.box k (.tmp t))) none)
@[simp] def zN(n t:Nat):Seg:= .one (.mk (some n) (.op (.un .not (.tmp t))) none)
@[simp] def zC(n t:Nat):Seg:= .one (.mk (some n) (.op (.nilc (.tmp t))) none)
@[simp] def zE(n k t:Nat):Seg:= .one (.mk (some n) (.op (.ext k (.tmp t))) none)
@[simp] def zs(i c:Nat)(s:List Seg)(y:aB):aB:= .seq (.region i false c s) y
@[simp] def zd(t:Nat)(x y:aB):aB:= .cond (.tmp t) x y
@[simp] def zm(t:Nat):AOp:= .mv (.tmp t)
@[simp] def zy(t:Nat):AOp:= .load 1 false (.tmp t)
@[simp] def zt(k t:Nat):AOp:= .load k true (.tmp t)
@[simp] def zF(k t:Nat):AOp:= .fa k (.tmp t)
@[simp] def zO(o:BinOp)(a b:Nat):AOp:= .bin o false (.tmp a) (.tmp b)
@[simp] def zU(o:BinOp)(a:Nat)(k:Int):AOp:= .bin o false (.tmp a) (.con (.one (.t (.int .i64 k))))
@[simp] def zV(t:Nat):AOp:= .un .not (.tmp t)
@[simp] def zS(k a b:Nat):Seg:= .one (.mk none (.op (.store k (.tmp a) (.tmp b))) none)
@[simp] def zj(n k t:Nat)(i:Int):Seg:= .one (.mk (some n) (.op (.ia k (.tmp t) (.con (.one (.t (.int .i64 i)))))) none)
@[simp] def zp(n t:Nat):Seg:= .one (.mk (some n) (.op (.len true (.tmp t))) none)
@[simp] def zq(n:Nat)(f:FuncId)(l:List Nat):Seg:= .one (.mk (some n) (.call f (l.map .tmp)) none)
@[simp] def zw(f:FuncId)(l:List Nat):dL:= .call f (l.map .tmp)
@[simp] def zu:X:= .con (.one (.t (.str (bs []))))
theorem kMk{P:Program}{f n:Nat}{rs:List RV}{ac:aB}{fn:Func}(l:List (Nat×Nat))(hf:P.funcs[f]? =some fn)(hn:fn.ntmps=n:=by rfl)(hc:(fn.body.bind (aR P n (aHA l)))=some ac:=by kernel_rfl)(hr:dF P fn.results.toList=some rs:=by kernel_rfl):Compiled P f n rs ac:= .mk' l hf hn hc hr
end
end Go.Ab
