/- Texts of this proof. -/
import Derived.Orders
import Derived.OrdersIn
import Derived.TacticsIn
import Derived.Tactics
import Derived.Laws.Append
import Derived.Deep.MidRow
import Derived.Laws.MakeOwn
namespace Go.Ab
theorem sI9{α:Type _}{a b:α}:(some a=some b)=(a=b):=Option.some.injEq a b
theorem oM9{α:Type _}{β:Type _}{b:β}{f:α→β}{o:Option α}:o.map f=some b↔∃ a,o=some a∧f a=b:=Option.map_eq_some_iff
theorem oB9{α:Type _}{β:Type _}{o:Option α}{f:α→Option β}{b:β}:o.bind f=some b↔∃ a,o=some a∧f a=some b:=Option.bind_eq_some_iff
theorem gL9{α:Type _}{l:List α}{n:Nat}(h:n<l.length):l[n]∈l:=List.getElem_mem h
theorem gE9{α:Type _}{l:List α}{i:Nat}(h:i<l.length):l[i]? =some l[i]:=List.getElem?_eq_getElem h
theorem gS9{α:Type _}{a:α}{l:List α}{i:Nat}:l[i]? =some a↔∃ h:i<l.length,l[i]=a:=List.getElem?_eq_some_iff
theorem gM9{α:Type _}{l:List α}{i:Nat}{a:α}(e:l[i]? =some a):a∈l:=List.mem_of_getElem? e
set_option maxHeartbeats 4000000
section
inductive T where
 | int (k:IntKind) (n:Int)
 | bool (b:Bool)
 | str (s:ByteArray)
 | rows (sz:Nat) (rs:List (List T))
 | nilp
 | nilf
 deriving Inhabited
structure Pt where
 id:Nat
 ver:Nat
 sz:Nat
 i:Nat
 j:Nat
inductive A where
 | t (x:T)
 | tt (sz:Nat) (rs:List (List T))
 | ref (id ver off len sz:Nat) (tight:Bool)
 | ptr (p:Pt)
 | into (cs:List T)
 | fn (f:FuncId) (caps:List Pt)
 | undef
 deriving Inhabited
inductive S where
 | one (x:A)
 | agg (cs:List A)
 deriving Inhabited
inductive D where
 | one (x:A)
 | agg (cs:List A)
 | tup (xs:List S)
 deriving Inhabited
inductive O where
 | arr (ver:Nat) (shut:Bool) (sz:Nat) (rs:List (List A))
 deriving Inhabited
abbrev Fix:=Nat→Nat→Prop
abbrev Nu:=Nat→Option (Nat×Nat)
abbrev Hp:=Nat→Option O
inductive VT (w:World) (F:Fix):T→Value→Prop
 | int (k:IntKind) (n:Int):VT w F (.int k n) (.int k n)
 | bool (b:Bool):VT w F (.bool b) (.bool b)
 | str (s:ByteArray):VT w F (.str s) (.string s)
 | nilp:VT w F .nilp (.pointer none)
 | nilf:VT w F .nilf .nilFunc
 | nils (sz:Nat) (a:Option Addr) (cap:Nat):VT w F (.rows sz []) (.slice a 0 cap)
 | rows (sz:Nat) (rs:List (List T)) (b off cap:Nat) (c:Nat→Nat→Value) (hcap:rs.length≤cap)
   (hsz:∀ r,r∈rs→r.length=sz)
   (hc:∀ i j,i<rs.length→j<sz→w.cell? ⟨b,off+i*sz+j,none⟩=some (c i j)∧F b (off+i*sz+j))
   (hv:∀ (i j:Nat) r x,rs[i]? =some r→r[j]? =some x→VT w F x (c i j)):
   VT w F (.rows sz rs) (.slice (some ⟨b,off,none⟩) rs.length cap)
def VP(ν:Nu)(p:Pt)(v:Value):Prop:=
 ∃b ver,ν p.id=some (b,ver)∧((p.ver<ver∧∃x,v= .pointer (some x))∨(p.ver=ver∧v= .pointer (some ⟨b,p.i*p.sz+p.j,none⟩)))
def VA(w:World)(F:Fix)(ν:Nu):A→Value→Prop
 | .t x,v=>VT w F x v
 | .tt sz rs,v=>VT w F (.rows sz rs) v∧∃a,v= .slice a rs.length rs.length
 | .ref id ver off len sz tight,v=>∃ b ver',ν id=some (b,ver')∧((ver<ver'∧∃x cap,v= .slice x len cap)∨(ver=ver'∧
   ∃cap e n,v= .slice (some ⟨b,off*sz,none⟩) len cap∧(tight=true→cap=len)∧len≤cap∧w.shape? b=some (e,n)∧(off+cap)*sz≤n))
 | .ptr p,v=>VP ν p v
 | .into cs,v=>∃ b off,v= .pointer (some ⟨b,off,none⟩)∧∀(j:Nat) x,cs[j]? =some x→∃u,w.cell? ⟨b,off+j,none⟩=some u∧F b (off+j)∧VT w F x u
 | .fn f caps,v=>∃ us:Array Value,v= .func (.func f) #[] us∧us.size=caps.length∧∀(k:Nat) p u,caps[k]? =some p→us[k]? =some u→VP ν p u
 | .undef,v=>v=Go.undef
def VL(R:A→Value→Prop)(cs:List A)(us:List Value):Prop:=
 cs.length=us.length∧∀(k:Nat) a u,cs[k]? =some a→us[k]? =some u→R a u
def VS(w:World)(F:Fix)(ν:Nu):S→Value→Prop
 | .one x,v=>VA w F ν x v
 | .agg cs,v=>∃ us:Array Value,v= .agg us∧VL (VA w F ν) cs us.toList
def VD(w:World)(F:Fix)(ν:Nu):D→Value→Prop
 | .one x,v=>VA w F ν x v
 | .agg cs,v=>∃ us:Array Value,v= .agg us∧VL (VA w F ν) cs us.toList
 | .tup xs,v=>∃ us:Array Value,v= .tuple us∧us.size=xs.length∧∀(k:Nat) x u,xs[k]? =some x→us[k]? =some u→VS w F ν x u
def aCP:Nat:=2
def Glob(w:World)(F:Fix):Prop:=F aCP 0∧∃m,w.cell? ⟨aCP,0,none⟩=some (.int .i64 m)
theorem Glob.mono{w w':World}{F F':Fix}(h:Glob w F)(hc:∀ b o,F b o→w'.cell? ⟨b,o,none⟩=w.cell? ⟨b,o,none⟩)(hs:∀ b o,F b o→F' b o):Glob w' F':=
 ⟨hs _ _ h.1,by rw[hc _ _ h.1];exact h.2⟩
structure Frame (w:World) (F:Fix) (ν:Nu) (w':World) (F':Fix) (ν':Nu):Prop where
 os:w'.os=w.os
 tape:w'.tape=w.tape
 output:w'.output=w.output
 size:w.heap.size≤w'.heap.size
 keep:∀ b,b<w.heap.size→(∀id ver,ν id≠some (b,ver))→w'.heap[b]? =w.heap[b]?
 cell:∀ b o,F b o→w'.cell? ⟨b,o,none⟩=w.cell? ⟨b,o,none⟩
 sub:∀ b o,F b o→F' b o
 new:∀ b o,F' b o→F b o∨w.heap.size≤b∨∃id ver,ν id=some (b,ver)
 shape:∀ b s,w.shape? b=some s→w'.shape? b=some s
 nu:∀ id b ver,ν id=some (b,ver)→∃b' ver',ν' id=some (b',ver')∧ver≤ver'∧(ver'=ver→b'=b)∧(b'=b∨w.heap.size≤b')
 nu':∀ id b ver,ν' id=some (b,ver)→(∃b0 v0,ν id=some (b0,v0))∨w.heap.size≤b
theorem Frame.refl(w:World)(F:Fix)(ν:Nu):Frame w F ν w F ν where
 os:=rfl
 tape:=rfl
 output:=rfl
 size:=Nat.le_refl _
 keep:=fun _ _ _=>rfl
 cell:=fun _ _ _=>rfl
 sub:=fun _ _ h=>h
 new:=fun _ _ h=> .inl h
 shape:=fun _ _ h=>h
 nu:=fun _ b ver h=>⟨b,ver,h,Nat.le_refl _,fun _=>rfl,.inl rfl⟩
 nu':=fun _ b ver h=> .inl ⟨b,ver,h⟩
variable {w w' w'':World} {F F' F'':Fix} {ν ν' ν'':Nu}
theorem Frame.range(h:Frame w F ν w' F' ν'){b:Nat}(hb:b<w.heap.size){id ver:Nat}(hn:ν' id=some (b,ver)):∃ aPC,ν id=some (b,aPC):=by
 rcases h.nu' id b ver hn with⟨b0,v0,h0⟩ | h1
 ·obtain⟨b1,v1,h1,_,_,h4⟩:=h.nu id b0 v0 h0;rw[hn]at h1;simp only[sI9,Prod.mk.injEq]at h1;obtain⟨rfl,rfl⟩:=h1;rcases h4 with rfl | h4
  ·exact⟨v0,h0⟩
  ·omega
 ·omega
theorem Frame.trans(h:Frame w F ν w' F' ν')(k:Frame w' F' ν' w'' F'' ν''):Frame w F ν w'' F'' ν'' where
 os:=k.os.trans h.os
 tape:=k.tape.trans h.tape
 output:=k.output.trans h.output
 size:=Nat.le_trans h.size k.size
 keep:=fun b hb hn=>by
  rw[k.keep b (Nat.lt_of_lt_of_le hb h.size) (fun id ver hh=>?_),h.keep b hb hn];obtain⟨v0,h0⟩:=h.range hb hh;exact hn _ _ h0
 cell:=fun b o hF=>by rw[k.cell b o (h.sub b o hF),h.cell b o hF]
 sub:=fun b o hF=>k.sub b o (h.sub b o hF)
 new:=fun b o hF=>by
  rcases k.new b o hF with h1 | h1 | ⟨id,ver,h1⟩
  ·exact h.new b o h1
  ·exact .inr (.inl (Nat.le_trans h.size h1))
  ·rcases Nat.lt_or_ge b w.heap.size with hb | hb
   ·obtain⟨v0,h0⟩:=h.range hb h1;exact .inr (.inr ⟨id,v0,h0⟩)
   ·exact .inr (.inl hb)
 shape:=fun b s hs=>k.shape b s (h.shape b s hs)
 nu:=fun id b ver h0=>by
  obtain⟨b1,v1,h1,h2,h3,h4⟩:=h.nu id b ver h0;obtain⟨b2,v2,k1,k2,k3,k4⟩:=k.nu id b1 v1 h1;refine⟨b2,v2,k1,Nat.le_trans h2 k2,fun e=>?_,?_⟩
  ·have e1:v1=ver:=by omega
   have e2:v2=v1:=by omega
   rw[k3 e2,h3 e1]
  ·rcases k4 with rfl | k4
   ·exact h4
   ·exact .inr (Nat.le_trans h.size k4)
 nu':=fun id b ver h2=>by
  rcases k.nu' id b ver h2 with⟨b1,v1,h1⟩ | h1
  ·rcases h.nu' id b1 v1 h1 with h0 | h0
   ·exact .inl h0
   ·obtain⟨b2,v2,k1,_,_,k4⟩:=k.nu id b1 v1 h1;rw[h2]at k1;simp only[sI9,Prod.mk.injEq]at k1;obtain⟨rfl,rfl⟩:=k1;rcases k4 with rfl | k4
    ·exact .inr h0
    ·exact .inr (Nat.le_trans h.size k4)
  ·exact .inr (Nat.le_trans h.size h1)
theorem VT.mono{x:T}{v:Value}(h:VT w F x v)(hc:∀ b o,F b o→w'.cell? ⟨b,o,none⟩=w.cell? ⟨b,o,none⟩)(hs:∀ b o,F b o→F' b o):VT w' F' x v:=by
 induction h with
 | int k n=>exact .int k n
 | bool b=>exact .bool b
 | str s=>exact .str s
 | nilp=>exact .nilp
 | nilf=>exact .nilf
 | nils sz a cap=>exact .nils sz a cap
 | rows sz rs b off cap c hcap hsz hc0 hv ih=>
  exact .rows sz rs b off cap c hcap hsz (fun i j hi hj=>⟨by rw[hc _ _ (hc0 i j hi hj).2];exact(hc0 i j hi hj).1,hs _ _ (hc0 i j hi hj).2⟩) ih
structure Going (w:World) (F:Fix) (ν:Nu) (w':World) (F':Fix) (ν':Nu):Prop where
 cell:∀ b o,F b o→w'.cell? ⟨b,o,none⟩=w.cell? ⟨b,o,none⟩
 sub:∀ b o,F b o→F' b o
 shape:∀ b s,w.shape? b=some s→w'.shape? b=some s
 nu:∀ id b ver,ν id=some (b,ver)→∃b' ver',ν' id=some (b',ver')∧ver≤ver'∧(ver'=ver→b'=b)∧(b'=b∨w.heap.size≤b')
theorem Frame.going(k:Frame w F ν w' F' ν'):Going w F ν w' F' ν':=⟨k.cell,k.sub,k.shape,k.nu⟩
theorem VP.jG{p:Pt}{v:Value}(h:VP ν p v)(k:Going w F ν w' F' ν'):VP ν' p v:=by
 obtain⟨b,ver,h1,h2⟩:=h;obtain⟨b',ver',k1,k2,k3,_⟩:=k.nu _ _ _ h1;refine⟨b',ver',k1,?_⟩;rcases h2 with⟨h2,h3⟩ | ⟨h2,h3⟩
 ·exact .inl ⟨by omega,h3⟩
 ·rcases Nat.lt_or_ge ver ver' with h4 | h4
  ·exact .inl ⟨by omega,_,h3⟩
  ·have e:ver'=ver:=by omega
   exact .inr ⟨by omega,by rw[k3 e];exact h3⟩
theorem VA.jG{x:A}{v:Value}(h:VA w F ν x v)(k:Going w F ν w' F' ν'):VA w' F' ν' x v:=by
 cases x with
 | t x=>exact VT.mono h k.cell k.sub
 | tt sz rs=>exact⟨VT.mono h.1 k.cell k.sub,h.2⟩
 | ref id ver off len sz tight=>
  obtain⟨b,aMO,h1,h2⟩:=h;obtain⟨b',ver',k1,k2,k3,_⟩:=k.nu _ _ _ h1;refine⟨b',ver',k1,?_⟩;rcases h2 with⟨h2,h3⟩ | ⟨h2,cap,e,n,h3,h4,h5,h6,h7⟩
  ·exact .inl ⟨by omega,h3⟩
  ·rcases Nat.lt_or_ge aMO ver' with g | g
   ·exact .inl ⟨by omega,_,_,h3⟩
   ·have e1:ver'=aMO:=by omega
    rw[k3 e1];exact .inr ⟨by omega,cap,e,n,h3,h4,h5,k.shape _ _ h6,h7⟩
 | ptr p=>exact VP.jG h k
 | into cs=>
  obtain⟨b,off,h1,h2⟩:=h;refine⟨b,off,h1,fun j x hx=>?_⟩;obtain⟨u,h3,h4,h5⟩:=h2 j x hx;exact⟨u,by rw[k.cell _ _ h4];exact h3,k.sub _ _ h4,h5.mono k.cell k.sub⟩
 | fn f caps=>
  obtain⟨us,h1,h2,h3⟩:=h;exact⟨us,h1,h2,fun i p u hp hu=>(h3 i p u hp hu).jG k⟩
 | undef=>exact h
theorem VL.mono{R R':A→Value→Prop}{cs:List A}{us:List Value}(h:VL R cs us)(k:∀ a u,R a u→R' a u):VL R' cs us:=
 ⟨h.1,fun i a u ha hu=>k _ _ (h.2 i a u ha hu)⟩
theorem VS.jG{x:S}{v:Value}(h:VS w F ν x v)(k:Going w F ν w' F' ν'):VS w' F' ν' x v:=by
 cases x with
 | one x=>exact VA.jG h k
 | agg cs=>obtain⟨us,h1,h2⟩:=h;exact⟨us,h1,h2.mono fun a u h=>VA.jG h k⟩
theorem VD.jG{x:D}{v:Value}(h:VD w F ν x v)(k:Going w F ν w' F' ν'):VD w' F' ν' x v:=by
 cases x with
 | one x=>exact VA.jG h k
 | agg cs=>obtain⟨us,h1,h2⟩:=h;exact⟨us,h1,h2.mono fun a u h=>VA.jG h k⟩
 | tup xs=>obtain⟨us,h1,h2,h3⟩:=h;exact⟨us,h1,h2,fun i a u ha hu=>(h3 i a u ha hu).jG k⟩
theorem VP.mono{p:Pt}{v:Value}(h:VP ν p v)(k:Frame w F ν w' F' ν'):VP ν' p v:=h.jG k.going
theorem VA.mono{x:A}{v:Value}(h:VA w F ν x v)(k:Frame w F ν w' F' ν'):VA w' F' ν' x v:=VA.jG h k.going
theorem VS.mono{x:S}{v:Value}(h:VS w F ν x v)(k:Frame w F ν w' F' ν'):VS w' F' ν' x v:=VS.jG h k.going
theorem VD.mono{x:D}{v:Value}(h:VD w F ν x v)(k:Frame w F ν w' F' ν'):VD w' F' ν' x v:=VD.jG h k.going
end
inductive X where
 | tmp (t:Nat)
 | con (d:D)
 deriving Inhabited
def X.ev(tm:Nat→D):X→D
 | .tmp t=>tm t
 | .con d=>d
inductive AOp where
 | mv (x:X)
 | pick (c a b:X)
 | alloc (zs:List A)
 | box (n:Nat) (x:X)
 | build (zs:List A) (parts:List (Nat×Nat×X))
 | bslice (sz len:Nat) (zs:List A) (parts:List (Nat×Nat×X))
 | bsref (sz len:Nat) (zs:List A) (parts:List (Nat×Nat×X))
 | load (n:Nat) (agg:Bool) (a:X)
 | store (n:Nat) (a v:X)
 | nilc (x:X)
 | bin (op:BinOp) (bl:Bool) (x y:X)
 | un (op:UnOp) (x:X)
 | dO (k:IntKind) (x:X)
 | aBH (x:X)
 | lW (x:X)
 | zD (x:X)
 | mkfn (f:FuncId) (caps:List X)
 | mks (sz bytes:Nat) (zs:List A) (l c:X)
 | sl (str:Bool) (sz:Nat) (x:X) (lo hi mx:Option X)
 | fa (off:Nat) (x:X)
 | fld (off n:Nat) (agg:Bool) (x:X)
 | ia (sz:Nat) (x i:X)
 | ixs (x i:X)
 | ext (i:Nat) (x:X)
 | len (str:Bool) (x:X)
 | mm (mx:Bool) (xs:List X)
 | app (grow:Bool) (sz bytes:Nat) (a b:X)
 | beq (neg:Bool) (o1 o2:Nat) (x y:X)
 | nilq (neg:Bool) (x:X)
 | pnil (neg:Bool) (x:X)
 | dead
 | cap (x:X)
 | trunc (sz:Nat) (x hi:X)
 | appn (sz bytes:Nat) (zs:List A) (x n:X)
 deriving Inhabited
abbrev D.i (n:Int):D:= .one (.t (.int .i64 n))
abbrev D.b (x:Bool):D:= .one (.t (.bool x))
def A.good:A→Bool
 | .undef=>false
 | _=>true
def D.cells:D→List A
 | .one x=>[x]
 | .agg cs=>cs
 | .tup _=>[]
def D.rP:D→Bool
 | .tup _=>true
 | _=>false
def D.of(agg:Bool)(cs:List A):D:=if agg then .agg cs else .one (cs.headD .undef)
def aF2(op:BinOp)(k:IntKind)(a b:Int):T:=
 match op with
 | .add=> .int k (k.wrap (a+b))
 | .sub=> .int k (k.wrap (a - b))
 | .mul=> .int k (k.wrap (a*b))
 | .quo=> .int k (k.wrap (a.tdiv b))
 | .rem=> .int k (a.tmod b)
 | .and=> .int k (k.wrap (BitVec.ofInt k.bits a&&&BitVec.ofInt k.bits b).toNat)
 | .or=> .int k (k.wrap (BitVec.ofInt k.bits a|||BitVec.ofInt k.bits b).toNat)
 | .xor=> .int k (k.wrap (BitVec.ofInt k.bits a ^^^ BitVec.ofInt k.bits b).toNat)
 | .andNot=> .int k (k.wrap (BitVec.ofInt k.bits a&&& ~~~BitVec.ofInt k.bits b).toNat)
 | .shl=> .int k (k.wrap (a*2 ^ (min b.toNat k.bits)))
 | .shr=> .int k (a.fdiv (2 ^ (min b.toNat k.bits)))
 | .eql=> .bool (a==b)
 | .neq=> .bool (a != b)
 | .lss=> .bool (decide (a<b))
 | .leq=> .bool (decide (a≤b))
 | .gtr=> .bool (decide (a>b))
 | .geq=> .bool (decide (a≥b))
def vT(op:BinOp)(k k':IntKind)(b:Int):Prop:=
 match op with
 | .shl | .shr=>0≤b
 | .quo | .rem=>k=k'∧b≠0
 | _=>k=k'
def aF3(op:BinOp)(x y:ByteArray):T:=
 match op with
 | .add=> .str (x++y)
 | .eql=> .bool (x.toList==y.toList)
 | .neq=> .bool (!(x.toList==y.toList))
 | .lss=> .bool (Op.bytesLess x.toList y.toList)
 | .leq=> .bool (Op.bytesLess x.toList y.toList||x.toList==y.toList)
 | .gtr=> .bool (!(Op.bytesLess x.toList y.toList||x.toList==y.toList))
 | .geq=> .bool (!(Op.bytesLess x.toList y.toList))
 | _=> .nilp
def vU(op:BinOp)(x y:ByteArray):Prop:=
 match op with
 | .add=>((x.size+y.size:Nat):Int)≤9223372036854775807
 | .eql | .neq | .lss | .leq | .gtr | .geq=>True
 | _=>False
def aJO(op:BinOp):T→T→T
 | .int k a,.int _ b=>aF2 op k a b
 | .str a,.str b=>aF3 op a b
 | .bool a,.bool b=> .bool (match op with | .eql=>a==b | _=> !(a==b))
 | _,_=> .nilp
def aBI(op:BinOp):T→T→Prop
 | .int k _,.int k' b=>vT op k k' b
 | .str a,.str b=>vU op a b
 | .bool _,.bool _=>op= .eql∨op= .neq
 | _,_=>False
def D.bin(op:BinOp):D→D→D
 | .one (.t x),.one (.t y)=> .one (.t (aJO op x y))
 | _,_=> .one .undef
def D.uF(op:BinOp):D→D→Prop
 | .one (.t x),.one (.t y)=>aBI op x y
 | _,_=>False
def unT(op:UnOp):T→T
 | .int k n=>match op with
  | .neg=> .int k (k.wrap (0 - n))
  | .xor=> .int k (k.wrap (BitVec.ofInt k.bits (if k.signed then -1 else k.max) ^^^ BitVec.ofInt k.bits n).toNat)
  | _=> .nilp
 | .bool b=> .bool (!b)
 | _=> .nilp
def aJP(op:UnOp):T→Prop
 | .int _ _=>op= .neg∨op= .xor
 | .bool _=>op= .not
 | _=>False
def D.un(op:UnOp):D→D
 | .one (.t x)=> .one (.t (unT op x))
 | _=> .one .undef
def D.aMP(op:UnOp):D→Prop
 | .one (.t x)=>aJP op x
 | _=>False
def D.pick:D→D→D→D
 | .one (.t (.bool c)),a,b=>if c then a else b
 | _,_,_=> .one .undef
def D.isBool:D→Prop
 | .one (.t (.bool _))=>True
 | _=>False
def D.int? :D→Option Int
 | .one (.t (.int _ n))=>some n
 | _=>none
def alive(h:Hp)(id ver:Nat):Prop:=
 match h id with
 | some (.arr v _ _ _)=>v=ver
 | none=>False
def Hp.rows(h:Hp)(id:Nat):List (List A):=
 match h id with
 | some (.arr _ _ _ rs)=>rs
 | none=>[]
def Hp.sz(h:Hp)(id:Nat):Nat:=
 match h id with
 | some (.arr _ _ sz _)=>sz
 | none=>0
def Hp.shut(h:Hp)(id:Nat):Bool:=
 match h id with
 | some (.arr _ s _ _)=>s
 | none=>true
def Hp.set(h:Hp)(id:Nat)(o:O):Hp:=fun j=>if j=id then some o else h j
def D.tE(h:Hp)(n:Nat):D→Prop
 | .one (.ptr p)=>alive h p.id p.ver∧h.sz p.id=p.sz∧p.i<(h.rows p.id).length∧p.j+n≤p.sz
 | .one (.into cs)=>n≤cs.length
 | _=>False
def D.loadAt(h:Hp)(n:Nat):D→List A
 | .one (.ptr p)=>(((h.rows p.id).getD p.i []).drop p.j).take n
 | .one (.into cs)=>(cs.take n).map .t
 | _=>[]
def splice(row:List A)(j:Nat)(cs:List A):List A:=row.take j++cs++row.drop (j+cs.length)
def D.vK(x:D)(h:Hp)(n:Nat)(v:D):Prop:=
 match x with
 | .one (.ptr p)=>alive h p.id p.ver∧h.sz p.id=p.sz∧p.i<(h.rows p.id).length∧p.j+n≤p.sz∧h.shut p.id=false∧
   v.rP=false∧v.cells.length=n∧v.cells.all A.good=true
 | _=>False
def D.storeAt(x:D)(h:Hp)(v:D):Hp:=
 match x with
 | .one (.ptr p)=>h.set p.id (.arr p.ver false p.sz ((h.rows p.id).set p.i (splice ((h.rows p.id).getD p.i []) p.j v.cells)))
 | _=>h
def D.aF4(h:Hp):D→Prop
 | .one (.ptr p)=>alive h p.id p.ver
 | .one (.into _)=>True
 | .one (.fn _ _)=>True
 | _=>False
def D.fa(off:Nat):D→D
 | .one (.ptr p)=> .one (.ptr { p with j:=p.j+off })
 | .one (.into cs)=> .one (.into (cs.drop off))
 | _=> .one .undef
def D.aMQ(h:Hp):D→Prop
 | .one (.ptr p)=>alive h p.id p.ver
 | .one (.into _)=>True
 | _=>False
def D.aMR(h:Hp)(sz:Nat)(k:Option Int):D→Prop
 | .one (.t (.rows sz' rs))=>sz=sz'∧(match k with | some k=>0≤k∧k<rs.length | none=>False)
 | .one (.tt sz' rs)=>sz=sz'∧(match k with | some k=>0≤k∧k<rs.length | none=>False)
 | .one (.ref id ver _ len sz' _)=>sz=sz'∧alive h id ver∧(match k with | some k=>0≤k∧k<len | none=>False)
 | _=>False
def D.ia(sz:Nat)(k:Option Int):D→D
 | .one (.t (.rows _ rs))=> .one (.into (rs.getD (k.getD 0).toNat []))
 | .one (.tt _ rs)=> .one (.into (rs.getD (k.getD 0).toNat []))
 | .one (.ref id ver off _ _ _)=> .one (.ptr ⟨id,ver,sz,off+(k.getD 0).toNat,0⟩)
 | _=> .one .undef
def D.oH(k:Option Int):D→Prop
 | .one (.t (.str s))=>match k with | some k=>0≤k∧k<s.size | none=>False
 | _=>False
def D.ixs(k:Option Int):D→D
 | .one (.t (.str s))=> .one (.t (.int .u8 (s.data.toList.getD (k.getD 0).toNat 0).toNat))
 | _=> .one .undef
def D.ext(i:Nat):D→D
 | .tup xs=>match xs[i]? with
  | some (.one x)=> .one x
  | some (.agg cs)=> .agg cs
  | none=> .one .undef
 | _=> .one .undef
def D.aH0(i:Nat):D→Prop
 | .tup xs=>i<xs.length
 | _=>False
def D.aCQ:D→Prop
 | .one (.t (.rows _ _))=>True
 | .one (.tt _ _)=>True
 | .one (.ref _ _ _ _ _ _)=>True
 | _=>False
def D.len:D→Nat
 | .one (.t (.rows _ rs))=>rs.length
 | .one (.t (.str s))=>s.size
 | .one (.tt _ rs)=>rs.length
 | .one (.ref _ _ _ len _ _)=>len
 | _=>0
def eO(s:ByteArray):List (List T):=s.data.toList.map fun b=>[.int .u8 b.toNat]
def byteOf:List A→UInt8
 | [.t (.int _ n)]=>UInt8.ofNat n.toNat
 | _=>0
def isByte:List A→Prop
 | [.t (.int .u8 _)]=>True
 | _=>False
def D.rowsOf(h:Hp):D→List (List A)
 | .one (.t (.rows _ rs))=>rs.map (·.map .t)
 | .one (.tt _ rs)=>rs.map (·.map .t)
 | .one (.ref id _ off len _ _)=>((h.rows id).drop off).take len
 | .one (.t (.str s))=>(eO s).map (·.map .t)
 | _=>[]
def D.lF(h:Hp)(sz:Nat):D→Prop
 | .one (.t (.rows sz' _))=>sz=sz'
 | .one (.tt sz' _)=>sz=sz'
 | .one (.ref id ver off len sz' _)=>sz=sz'∧alive h id ver∧h.sz id=sz∧off+len≤(h.rows id).length
 | .one (.t (.str _))=>sz=1
 | _=>False
def A.tree? :A→Option T
 | .t x=>some x
 | .tt sz rs=>some (.rows sz rs)
 | _=>none
def A.tree(x:A):T:=x.tree?.getD .nilp
def A.mI(x:A):Bool:=x.tree?.isSome
def iZ(zs:List A):List (Nat×List A)→List A
 | []=>zs
 | (off,cs)::rest=>iZ (splice zs off cs) rest
def jA(n:Nat):List (Nat×Nat×D)→Prop
 | []=>True
 | (off,size,d)::rest=>(d.rP=false∧d.cells.length=size∧off+size≤n∧d.cells.all A.good=true)∧jA n rest
def chunk(sz:Nat):Nat→List A→List (List A)
 | 0,_=>[]
 | n+1,cs=>cs.take sz::chunk sz n (cs.drop sz)
def D.aJQ(lo hi:Option Int):D→D
 | .one (.t (.str s))=> .one (.t (.str (s.extract (lo.getD 0).toNat (hi.getD s.size).toNat)))
 | _=> .one .undef
def D.aBJ(lo hi:Option Int):D→Prop
 | .one (.t (.str s))=>0≤lo.getD 0∧lo.getD 0≤hi.getD s.size∧hi.getD s.size≤s.size
 | _=>False
def A.rQ:A→A→Prop
 | .t (.int k _),.t (.int k' _)=>k=k'
 | _,_=>False
def A.vL:A→A→Bool
 | .t (.int _ a),.t (.int _ b)=>a==b
 | _,_=>false
def D.aH1(o1 o2:Nat):D→D→Prop
 | .agg cs,.agg ds=>o1<cs.length∧o2<cs.length∧o1<ds.length∧o2<ds.length∧A.rQ (cs.getD o1 .undef) (ds.getD o1 .undef)∧A.rQ (cs.getD o2 .undef) (ds.getD o2 .undef)
 | _,_=>False
def D.beq(o1 o2:Nat):D→D→Bool
 | .agg cs,.agg ds=>A.vL (cs.getD o1 .undef) (ds.getD o1 .undef)&&A.vL (cs.getD o2 .undef) (ds.getD o2 .undef)
 | _,_=>false
def D.aH2:D→Prop
 | .one (.tt _ [])=>True
 | _=>False
def D.notNil:D→Prop
 | .one (.t (.rows _ (_::_)))=>True
 | .one (.tt _ (_::_))=>True
 | _=>False
def D.aF5:D→Prop
 | .one (.t .nilp)=>True
 | .one (.ptr _)=>True
 | .one (.into _)=>True
 | _=>False
def D.aF6:D→Bool
 | .one (.t .nilp)=>true
 | _=>false
def D.aJR:D→Prop
 | .one (.tt _ _)=>True
 | _=>False
def D.vM(h:Hp)(sz:Nat)(hi:Option Int):D→Prop
 | .one (.ref id ver off len sz' _)=>sz=sz'∧alive h id ver∧h.sz id=sz∧off=0∧h.shut id=false∧len=(h.rows id).length∧(match hi with | some k=>0≤k∧k≤len | none=>False)
 | _=>False
def D.trunc(sz:Nat)(hi:Option Int):D→D
 | .one (.ref id ver _ _ _ _)=> .one (.ref id (ver+1) 0 (hi.getD 0).toNat sz false)
 | _=> .one .undef
def D.rR(h:Hp)(sz:Nat)(hi:Option Int):D→Hp
 | .one (.ref id ver _ _ _ _)=>h.set id (.arr (ver+1) false sz ((h.rows id).take (hi.getD 0).toNat))
 | _=>h
def D.aMS(h:Hp)(sz:Nat)(lo hi mx:Option Int):D→Prop
 | .one (.t (.rows sz' rs))=>sz=sz'∧0≤lo.getD 0∧lo.getD 0≤hi.getD rs.length∧hi.getD rs.length≤rs.length∧(∀m,mx=some m→hi.isSome=true∧hi.getD rs.length≤m∧m≤rs.length)
 | .one (.tt sz' rs)=>sz=sz'∧0≤lo.getD 0∧lo.getD 0≤hi.getD rs.length∧hi.getD rs.length≤rs.length∧(∀m,mx=some m→hi.isSome=true∧hi.getD rs.length≤m∧m≤rs.length)
 | .one (.ref id ver _ len sz' _)=>sz=sz'∧alive h id ver∧mx=none∧0≤lo.getD 0∧lo.getD 0≤hi.getD len∧hi.getD len≤len
 | _=>False
def D.sl(sz:Nat)(lo hi mx:Option Int):D→D
 | .one (.t (.rows _ rs))=>match mx,hi with
  | some m,some k=>if m=k then .one (.tt sz ((rs.take k.toNat).drop (lo.getD 0).toNat))else .one (.t (.rows sz ((rs.take k.toNat).drop (lo.getD 0).toNat)))
  | _,_=> .one (.t (.rows sz ((rs.take (hi.getD rs.length).toNat).drop (lo.getD 0).toNat)))
 | .one (.tt _ rs)=>match mx,hi with
  | some m,some k=>if m=k then .one (.tt sz ((rs.take k.toNat).drop (lo.getD 0).toNat))else .one (.t (.rows sz ((rs.take k.toNat).drop (lo.getD 0).toNat)))
  | none,_=>if hi.getD rs.length=rs.length then .one (.tt sz (rs.drop (lo.getD 0).toNat))else .one (.t (.rows sz ((rs.take (hi.getD rs.length).toNat).drop (lo.getD 0).toNat)))
  | _,_=> .one (.t (.rows sz ((rs.take (hi.getD rs.length).toNat).drop (lo.getD 0).toNat)))
 | .one (.ref id ver off len _ _)=>if lo.getD 0=hi.getD len then .one (.t (.rows sz []))else .one (.ref id ver (off+(lo.getD 0).toNat) ((hi.getD len).toNat - (lo.getD 0).toNat) sz false)
 | _=> .one .undef
def D.mm2(mx:Bool):D→D→D
 | .one (.t (.int k x)),.one (.t (.int _ y))=> .one (.t (.int k (if mx then(if y>x then y else x)else(if y<x then y else x))))
 | _,_=> .one .undef
def D.isInt:D→Prop
 | .one (.t (.int _ _))=>True
 | _=>False
def D.dO(k:IntKind):D→D
 | .one (.t (.int _ n))=> .one (.t (.int k (k.wrap n)))
 | _=> .one .undef
def D.isStr:D→Prop
 | .one (.t (.str _))=>True
 | _=>False
def D.str:D→ByteArray
 | .one (.t (.str s))=>s
 | _=> .empty
def D.pt:D→Pt
 | .one (.ptr p)=>p
 | _=>⟨0,0,0,0,0⟩
def D.cR(h:Hp):D→Prop
 | .one (.ptr p)=>alive h p.id p.ver
 | _=>False
def oint(tm:Nat→D)(x:Option X):Option Int:=x.bind fun x=>(x.ev tm).int?
def iN(tm:Nat→D):Option X→Prop
 | none=>True
 | some x=>(x.ev tm).isInt
def D.aJS(off n:Nat):D→Prop
 | .agg cs=>off+n≤cs.length
 | _=>False
def D.aH3(x:D)(h:Hp)(sz:Nat):Prop:=
 match x with
 | .one (.tt sz' _)=>sz=sz'
 | .one (.ref id ver off ln sz' tight)=>sz=sz'∧alive h id ver∧h.sz id=sz∧off=0∧ln=(h.rows id).length∧tight=false
 | _=>False
def D.vV(x y:D)(h:Hp)(grow:Bool):Prop:=
 match x with
 | .one (.tt _ _)=>if grow then True else ∀r∈y.rowsOf h,r.all A.mI=true
 | _=>grow=true
def D.tF(x y:D)(h:Hp)(new sz:Nat)(grow:Bool):D:=
 match x with
 | .one (.tt _ rs)=>if grow then(if y.len=0 then x else .one (.ref new 0 0 (rs.length+y.len) sz false))
   else .one (.t (.rows sz (rs++(y.rowsOf h).map (·.map A.tree))))
 | .one (.ref id ver _ ln _ _)=> .one (.ref id (ver+1) 0 (ln+y.len) sz false)
 | _=> .one .undef
def D.qS(x y:D)(h:Hp)(new sz:Nat)(grow:Bool):Hp:=
 match x with
 | .one (.tt _ rs)=>if grow then(if y.len=0 then h else h.set new (.arr 0 false sz (rs.map (·.map .t)++y.rowsOf h)))else h
 | .one (.ref id ver _ _ _ _)=>h.set id (.arr (ver+1) (h.shut id) sz (h.rows id++y.rowsOf h))
 | _=>h
def AOp.ok(tm:Nat→D)(h:Hp):AOp→Prop
 | .mv _=>True
 | .pick c _ _=>(c.ev tm).isBool
 | .alloc zs=>zs.all A.good=true
 | .box n x=>(x.ev tm).rP=false∧(x.ev tm).cells.length=n∧(x.ev tm).cells.all A.good=true
 | .build zs parts=>jA zs.length (parts.map fun(o,s,x)=>(o,s,x.ev tm))
 | .bslice sz ln zs parts=>zs.length=sz*ln∧jA zs.length (parts.map fun(o,s,x)=>(o,s,x.ev tm))∧
   (iZ zs (parts.map fun(o,_,x)=>(o,(x.ev tm).cells))).all A.mI=true
 | .bsref sz ln zs parts=>zs.length=sz*ln∧jA zs.length (parts.map fun(o,s,x)=>(o,s,x.ev tm))
 | .load n agg a=>(a.ev tm).tE h n∧(agg=false→n=1)
 | .store n a v=>(a.ev tm).vK h n (v.ev tm)
 | .nilc x=>(x.ev tm).aF4 h
 | .bin op bl x y=>(x.ev tm).uF op (y.ev tm)∧(bl=false→¬(x.ev tm).isBool)
 | .un op x=>(x.ev tm).aMP op
 | .dO _ x=>(x.ev tm).isInt
 | .aBH x=>(x.ev tm).isStr
 | .lW x=>(x.ev tm).isStr
 | .zD x=>¬ (x.ev tm).isStr∧(x.ev tm).lF h 1∧∀r∈(x.ev tm).rowsOf h,isByte r
 | .mkfn _ caps=>∀ x∈caps,(x.ev tm).cR h
 | .mks _ bytes zs l c=>zs.all A.good=true∧(l.ev tm).isInt∧(c.ev tm).isInt∧0≤(l.ev tm).int?.getD 0∧(l.ev tm).int?.getD 0≤(c.ev tm).int?.getD 0∧
   (bytes:Int)*(c.ev tm).int?.getD 0≤281474976710656∧(c.ev tm).int?.getD 0≤9223372036854775807
 | .sl true _ x lo hi mx=>mx=none∧iN tm lo∧iN tm hi∧(x.ev tm).aBJ (oint tm lo) (oint tm hi)
 | .sl false sz x lo hi mx=>iN tm lo∧iN tm hi∧iN tm mx∧(x.ev tm).aMS h sz (oint tm lo) (oint tm hi) (oint tm mx)
 | .fa _ x=>(x.ev tm).aMQ h
 | .fld off n agg x=>(x.ev tm).aJS off n∧(agg=false→n=1)
 | .ia sz x i=>(x.ev tm).aMR h sz (i.ev tm).int?
 | .ixs x i=>(x.ev tm).oH (i.ev tm).int?
 | .ext i x=>(x.ev tm).aH0 i
 | .len str x=>if str then(x.ev tm).isStr else(x.ev tm).aCQ
 | .mm _ xs=>xs≠[]∧∀x∈xs,(x.ev tm).isInt
 | .beq _ o1 o2 x y=>(x.ev tm).aH1 o1 o2 (y.ev tm)
 | .nilq _ x=>(x.ev tm).notNil
 | .pnil _ x=>(x.ev tm).aF5
 | .dead=>False
 | .cap x=>(x.ev tm).aJR
 | .trunc sz x hi=>(hi.ev tm).isInt∧(x.ev tm).vM h sz (hi.ev tm).int?
 | .appn _ bytes zs x n=>zs.all A.good=true∧(x.ev tm).aH2∧(n.ev tm).isInt∧0<(n.ev tm).int?.getD 0∧(n.ev tm).int?.getD 0≤9223372036854775807∧0<bytes∧(n.ev tm).int?.getD 0*bytes≤140737488355328
 | .app grow sz bytes a b=>(b.ev tm).lF h sz∧0<bytes∧((a.ev tm).len+(b.ev tm).len)*bytes≤140737488355328∧(a.ev tm).aH3 h sz∧(a.ev tm).vV (b.ev tm) h grow
def AOp.val(tm:Nat→D)(h:Hp)(new:Nat):AOp→D
 | .mv x=>x.ev tm
 | .pick c a b=>(c.ev tm).pick (a.ev tm) (b.ev tm)
 | .alloc zs=> .one (.ptr ⟨new,0,zs.length,0,0⟩)
 | .box n _=> .one (.ptr ⟨new,0,n,0,0⟩)
 | .build zs parts=> .agg (iZ zs (parts.map fun(o,_,x)=>(o,(x.ev tm).cells)))
 | .bslice sz ln zs parts=> .one (.tt sz ((chunk sz ln (iZ zs (parts.map fun(o,_,x)=>(o,(x.ev tm).cells)))).map (·.map A.tree)))
 | .bsref sz ln _ _=> .one (.ref new 0 0 ln sz true)
 | .load n agg a=> .of agg ((a.ev tm).loadAt h n)
 | .store _ _ _=> .one .undef
 | .nilc x=>x.ev tm
 | .bin op _ x y=>(x.ev tm).bin op (y.ev tm)
 | .un op x=>(x.ev tm).un op
 | .dO k x=>(x.ev tm).dO k
 | .aBH x=>x.ev tm
 | .lW x=> .one (.t (.rows 1 (eO (x.ev tm).str)))
 | .zD x=> .one (.t (.str ⟨(((x.ev tm).rowsOf h).map byteOf).toArray⟩))
 | .mkfn f caps=> .one (.fn f (caps.map fun x=>(x.ev tm).pt))
 | .mks sz _ _ l c=> .one (.ref new 0 0 ((l.ev tm).int?.getD 0).toNat sz (decide ((l.ev tm).int?.getD 0=(c.ev tm).int?.getD 0)))
 | .sl true _ x lo hi _=>(x.ev tm).aJQ (oint tm lo) (oint tm hi)
 | .sl false sz x lo hi mx=>(x.ev tm).sl sz (oint tm lo) (oint tm hi) (oint tm mx)
 | .fa off x=>(x.ev tm).fa off
 | .fld off n agg x=> .of agg (((x.ev tm).cells.drop off).take n)
 | .ia sz x i=>(x.ev tm).ia sz (i.ev tm).int?
 | .ixs x i=>(x.ev tm).ixs (i.ev tm).int?
 | .ext i x=>(x.ev tm).ext i
 | .len _ x=> .one (.t (.int .i64 (x.ev tm).len))
 | .mm mx xs=>match xs with
  | []=> .one .undef
  | x::r=>r.foldl (fun d y=>d.mm2 mx (y.ev tm)) (x.ev tm)
 | .beq neg o1 o2 x y=> .one (.t (.bool (neg != (x.ev tm).beq o1 o2 (y.ev tm))))
 | .nilq neg _=> .one (.t (.bool neg))
 | .pnil neg x=> .one (.t (.bool (neg != (x.ev tm).aF6)))
 | .dead=> .one .undef
 | .cap x=> .one (.t (.int .i64 (x.ev tm).len))
 | .trunc sz x hi=>(x.ev tm).trunc sz (hi.ev tm).int?
 | .app grow sz _ a b=>(a.ev tm).tF (b.ev tm) h new sz grow
 | .appn sz _ _ _ n=> .one (.ref new 0 0 ((n.ev tm).int?.getD 0).toNat sz false)
def AOp.eff(tm:Nat→D)(h:Hp)(new:Nat):AOp→Hp
 | .alloc zs=>h.set new (.arr 0 false zs.length [zs])
 | .box n x=>h.set new (.arr 0 false n [(x.ev tm).cells])
 | .bsref sz ln zs parts=>h.set new (.arr 0 false sz (chunk sz ln (iZ zs (parts.map fun(o,_,x)=>(o,(x.ev tm).cells)))))
 | .store _ a v=>(a.ev tm).storeAt h (v.ev tm)
 | .mks sz _ zs l _=>h.set new (.arr 0 false sz (List.replicate ((l.ev tm).int?.getD 0).toNat zs))
 | .trunc sz x hi=>(x.ev tm).rR h sz (hi.ev tm).int?
 | .app grow sz _ a b=>(a.ev tm).qS (b.ev tm) h new sz grow
 | .appn sz _ zs _ n=>h.set new (.arr 0 false sz (List.replicate ((n.ev tm).int?.getD 0).toNat zs))
 | _=>h
structure St where
 tmps:Nat→D
 heap:Hp
 nx:Nat
def upd(f:Nat→D)(k:Nat)(d:D):Nat→D:=fun j=>if j=k then d else f j
def OR(w:World)(F:Fix)(ν:Nu)(id:Nat):O→Prop
 | .arr ver shut sz rs=>∃ b e n,ν id=some (b,ver)∧w.shape? b=some (e,n)∧(∀o,o<n→w.frozen? ⟨b,o,none⟩=false)∧
   (∀r∈rs,r.length=sz)∧rs.length*sz≤n∧
   (∀(i j:Nat) r x,rs[i]? =some r→r[j]? =some x→x.good=true∧∃u,w.cell? ⟨b,i*sz+j,none⟩=some u∧VA w F ν x u)∧
   (∀o,F b o→shut=true∧o<rs.length*sz)
structure Sim (w:World) (F:Fix) (ν:Nu) (h:Hp) (nx:Nat):Prop where
 fixed:∀ b o,F b o→b<w.heap.size
 obj:∀ id o,h id=some o→OR w F ν id o
 dom:∀ id bv,ν id=some bv→id<nx∧bv.1<w.heap.size∧∃o,h id=some o
 inj:∀ i j b v v',ν i=some (b,v)→ν j=some (b,v')→i=j
 glob:Glob w F
theorem Frame.glob{w w':World}{F F':Fix}{ν ν':Nu}(k:Frame w F ν w' F' ν')(h:Glob w F):Glob w' F':=h.mono k.cell k.sub
def Marks(w:World)(ν:Nu)(l:List Deferred):Prop:=
 ∃Ds:List Nat,Ds.Nodup∧l.map Deferred.target=Ds.map Target.collected∧∀D∈Ds,w.heap[D]? =some (.deferred (some []))∧∀id ver,ν id≠some (D,ver)
theorem Marks.nil(w:World)(ν:Nu):Marks w ν []:=⟨[],by simp,rfl,by simp⟩
theorem Marks.mono{w w':World}{F F':Fix}{ν ν':Nu}{l:List Deferred}(h:Marks w ν l)(k:Frame w F ν w' F' ν'):Marks w' ν' l:=by
 obtain⟨Ds,h1,h2,h3⟩:=h;refine⟨Ds,h1,h2,fun D hD=>?_⟩;obtain⟨h4,h5⟩:=h3 D hD;have hlt:D<w.heap.size:=(Array.getElem?_eq_some_iff.1 h4).1;exact⟨by rw[k.keep D hlt h5];exact h4,fun id ver hn=>by obtain⟨v0,h0⟩:=k.range hlt hn;exact h5 _ _ h0⟩
def lG(w:World)(a a':Act):Prop:=∀ d∈a'.defers,d∈a.defers∨∃D,d.target= .collected D∧w.heap.size≤D
theorem lG.same{w:World}{a a':Act}(h:a'.defers=a.defers):lG w a a':=fun d hd=> .inl (by rw[←h];exact hd)
theorem lG.trans{w w':World}{a a' a'':Act}(h:lG w a a')(hs:w.heap.size≤w'.heap.size)(k:lG w' a' a''):lG w a a'':=fun d hd=>by
 rcases k d hd with h1 | ⟨D,h1,h2⟩
 ·exact h d h1
 ·exact .inr ⟨D,h1,by omega⟩
def FR(rd:Option Nat):Fence:={ Fence.wide with round:=rd }
structure Rel (n:Nat) (st:St) (a:Act) (w:World) (F:Fix) (ν:Nu):Prop where
 defers:Marks w ν a.defers
 size:a.tmps.size=n
 tmps:∀ t,VD w F ν (st.tmps t) (a.tmps.getD t undef)
 sim:Sim w F ν st.heap st.nx
def szP(P:Program)(t:TypeId):Option Nat:=(P.info? t).map (·.size)
def byP(P:Program)(t:TypeId):Option Nat:=(P.info? t).map (·.bytes)
def yH(P:Program)(t:TypeId):Option Bool:=
 match P.underlying t with
 | some (.struct _) | some (.array _ _)=>some true
 | some _=>some false
 | none=>none
def cellTypes(P:Program):Nat→TypeId→Option (List TypeId)
 | 0,_=>none
 | d+1,t=>match P.underlying t with
  | some (.struct fs)=>(fs.toList.mapM fun f=>cellTypes P d f.type).map List.flatten
  | some (.array n e)=>(cellTypes P d e).map fun l=>(List.replicate n l).flatten
  | some _=>some [t]
  | none=>none
def aH4(P:Program)(t:TypeId):Value→Option A
 | .int k n=>some (.t (.int k n))
 | .bool b=>some (.t (.bool b))
 | .string s=>some (.t (.str s))
 | .pointer none=>some (.t .nilp)
 | .nilFunc=>some (.t .nilf)
 | .slice none 0 0=>match P.underlying t with
  | some (.slice e)=>(szP P e).map fun sz=> .tt sz []
  | _=>some (.tt 0 [])
 | _=>none
def oQ(P:Program):List TypeId→List Value→Option (List A)
 | [],[]=>some []
 | t::ts,v::vs=>do some ((←aH4 P t v)::(←oQ P ts vs))
 | _,_=>none
def aPD(P:Program)(t:TypeId):Value→Option D
 | .agg cs=>do some (.agg (←oQ P (←cellTypes P 20 t) cs.toList))
 | .tuple _=>none
 | v=>(aH4 P t v).map .one
def dA(P:Program)(t:TypeId):Operand→Option X
 | .tmp k=>some (.tmp k)
 | .const v=>(aPD P t v).map .con
 | .global _=>none
 | .func f=>some (.con (.one (.fn f [])))
def jY(P:Program)(t:TypeId):Option (List A):=do
 let z ←(←P.info? t).zero
 oQ P (←cellTypes P 20 t) z.cells.toList
def jZ(P:Program):List TypeId→List Operand→Option (List X)
 | _,[]=>some []
 | [],x::xs=>do some ((←dA P 0 x)::(←jZ P [] xs))
 | t::ts,x::xs=>do some ((←dA P t x)::(←jZ P ts xs))
def qT(P:Program):Option Operand→Option (Option X)
 | none=>some none
 | some x=>(dA P 0 x).map some
def mJ(P:Program)(place:Nat→Option (Nat×Nat×TypeId)):List (Nat×Operand)→Option (List (Nat×Nat×X))
 | []=>some []
 | (i,x)::rest=>do
  let (off,size,t) ←place i
  some ((off,size,←dA P t x)::(←mJ P place rest))
def ensure(b:Bool):Option Unit:=if b then some ()else none
def iE(P:Program)(f:Field):Bool:=
 f.name != "_" &&(match P.underlying f.type with | some (.int _)=>true | _=>false)&&decide (szP P f.type=some 1)
def qU:Operand→Bool
 | .const (.slice none 0 0)=>true
 | _=>false
def rS:Operand→Bool
 | .const (.pointer none)=>true
 | _=>false
def isZero:Option Operand→Bool
 | none=>true
 | some (.const (.int .i64 0))=>true
 | _=>false
def mT(P:Program)(grow:Bool)(o:Oper):Option AOp:=
 match o.op with
 | .move x | .assign x=>do some (.mv (←dA P o.type x))
 | .pick c a b=>do some (.pick (←dA P 0 c) (←dA P o.type a) (←dA P o.type b))
 | .alloc e=>do some (.alloc (←jY P e))
 | .box e x=>do some (.box (←szP P e) (←dA P e x))
 | .build t parts=>match P.underlying t with
  | some (.struct fs)=>do
   let zs ←jY P t
   let ps ←mJ P (fun i=>do let f ←fs[i]?;some (f.offset,←szP P f.type,f.type)) parts.toList
   ensure (fs.all fun f=>(szP P f.type).isSome)
   some (.build zs ps)
  | _=>none
 | .buildSlice t len parts=>match P.underlying t with
  | some (.slice e)=>do
   let sz ←szP P e
   let z ←jY P e
   ensure (decide (z.length=sz)&&decide (0<sz)&&decide (len*sz≤16777216))
   let ps ←mJ P (fun i=>some (i*sz,sz,e)) parts.toList
   some (if grow then .bslice sz len (List.replicate len z).flatten ps else .bsref sz len (List.replicate len z).flatten ps)
  | _=>none
 | .load t a=>do
  let n ←szP P t
  let agg ←yH P t
  ensure (agg||decide (n=1))
  some (.load n agg (←dA P 0 a))
 | .store t a v=>do some (.store (←szP P t) (←dA P 0 a) (←dA P t v))
 | .nilCheck x=>do some (.nilc (←dA P 0 x))
 | .binOp op t x y u=>match P.underlying t with
  | some (.int _)=>do some (.bin op false (←dA P t x) (←dA P u y))
  | some .string=>do some (.bin op false (←dA P t x) (←dA P u y))
  | some .bool=>do ensure (decide (op= .eql)||decide (op= .neq));some (.bin op true (←dA P t x) (←dA P u y))
  | some (.struct fs)=>match fs.toList with
   | [f1,f2]=>do
    ensure ((decide (op= .eql)||decide (op= .neq))&& !P.stoodInHeld t&& !P.eqGuardType P.depth t&&(iE P f1&&iE P f2))
    some (.beq (decide (op= .neq)) f1.offset f2.offset (←dA P t x) (←dA P u y))
   | _=>none
  | some (.slice _)=>do
   ensure ((decide (op= .eql)||decide (op= .neq))&&qU y)
   some (.nilq (decide (op= .neq)) (←dA P t x))
  | some (.pointer _)=>do
   ensure ((decide (op= .eql)||decide (op= .neq))&&rS y)
   some (.pnil (decide (op= .neq)) (←dA P t x))
  | _=>none
 | .unOp op _ x=>do some (.un op (←dA P 0 x))
 | .convert src dst x=>match P.underlying src,P.underlying dst with
  | some (.int _),some (.int k)=>do some (.dO k (←dA P 0 x))
  | some .string,some .string=>do some (.aBH (←dA P 0 x))
  | some .string,some (.slice e)=>match P.underlying e with
   | some (.int .u8)=>do some (.lW (←dA P 0 x))
   | _=>none
  | some (.slice e),some .string=>match P.underlying e with
   | some (.int .u8)=>do some (.zD (←dA P 0 x))
   | _=>none
  | _,_=>none
 | .makeFunc (.func f) first caps=>do
  ensure first.isEmpty
  some (.mkfn f (←jZ P [] caps.toList))
 | .makeSlice t l c=>match P.underlying t with
  | some (.slice e)=>do
   let sz ←szP P e
   let z ←jY P e
   ensure (decide (z.length=sz))
   some (.mks sz (←byP P e) z (←dA P 0 l) (←dA P 0 c))
  | _=>none
 | .slice t x lo hi mx=>match P.underlying t with
  | some .string=>do some (.sl true 1 (←dA P 0 x) (←qT P lo) (←qT P hi) (←qT P mx))
  | some (.slice e)=>if !grow&&isZero lo&&mx.isNone&&hi.isSome then do some (.trunc (←szP P e) (←dA P 0 x) (←dA P 0 (←hi)))else do some (.sl false (←szP P e) (←dA P 0 x) (←qT P lo) (←qT P hi) (←qT P mx))
  | _=>none
 | .fieldAddr t x f=>match P.underlying t with
  | some (.struct fs)=>do
   let fl ←fs[f]?
   let s ←szP P fl.type
   ensure (decide (s≠0))
   some (.fa fl.offset (←dA P 0 x))
  | _=>none
 | .field t x f=>match P.underlying t with
  | some (.struct fs)=>do
   let fl ←fs[f]?
   let n ←szP P fl.type
   let agg ←yH P fl.type
   ensure (agg||decide (n=1))
   some (.fld fl.offset n agg (←dA P 0 x))
  | _=>none
 | .indexAddr t x i=>match P.underlying t with
  | some (.slice e)=>do some (.ia (←szP P e) (←dA P 0 x) (←dA P 0 i))
  | _=>none
 | .index t x i=>match P.underlying t with
  | some .string=>do some (.ixs (←dA P 0 x) (←dA P 0 i))
  | _=>none
 | .extract x i=>do some (.ext i (←dA P 0 x))
 | .call c=>match c.callee with
  | .builtin .append=>match c.argTypes.toList,c.args.toList with
   | [s,t],[a,b]=>match P.underlying s,P.underlying t with
    | some (.slice e),some (.slice _)=>do
     let z ←jY P e
     let sz ←szP P e
     ensure (decide (0<sz)&&decide (z.length=sz))
     some (.app grow sz (←byP P e) (←dA P s a) (←dA P t b))
    | some (.slice e),some .string=>do
     let z ←jY P e
     let sz ←szP P e
     ensure (decide (0<sz)&&decide (z.length=sz))
     some (.app grow sz (←byP P e) (←dA P s a) (←dA P t b))
    | some (.slice e),some (.int _)=>do
     let z ←jY P e
     let sz ←szP P e
     ensure (decide (0<sz)&&decide (z.length=sz))
     some (.appn sz (←byP P e) z (←dA P s a) (←dA P t b))
    | _,_=>none
   | _,_=>none
  | .builtin .len=>match c.argTypes.toList,c.args.toList with
   | [t],[a]=>match P.underlying t with
    | some .string=>do some (.len true (←dA P t a))
    | some (.slice _)=>do some (.len false (←dA P t a))
    | _=>none
   | _,_=>none
  | .builtin .cap=>match c.argTypes.toList,c.args.toList with
   | [t],[a]=>match P.underlying t with
    | some (.slice _)=>do some (.cap (←dA P t a))
    | _=>none
   | _,_=>none
  | .builtin .min=>do some (.mm false (←jZ P [] c.args.toList))
  | .builtin .max=>do some (.mm true (←jZ P [] c.args.toList))
  | _=>none
 | .makeInterface _ _ | .panic _=>some .dead
 | _=>none
section
open Go
variable {P:Program} {w:World} {F:Fix} {ν:Nu} {h:Hp} {nx:Nat} {tm:Nat→D} {a:Act}
@[simp] theorem mK{k:IntKind}{n:Int}{v:Value}:VT w F (.int k n) v↔v= .int k n:=
 ⟨fun h=>by cases h;rfl,fun h=>h▸ .int k n⟩
@[simp] theorem pR{b:Bool}{v:Value}:VT w F (.bool b) v↔v= .bool b:=
 ⟨fun h=>by cases h;rfl,fun h=>h▸ .bool b⟩
@[simp] theorem qV{s:ByteArray}{v:Value}:VT w F (.str s) v↔v= .string s:=
 ⟨fun h=>by cases h;rfl,fun h=>h▸ .str s⟩
@[simp] theorem aUI{v:Value}:VT w F .nilp v↔v= .pointer none:=
 ⟨fun h=>by cases h;rfl,fun h=>h▸ .nilp⟩
theorem lX{sz:Nat}{rs:List (List T)}{v:Value}(h:VT w F (.rows sz rs) v):∃ b cap,v= .slice b rs.length cap∧rs.length≤cap∧(∀r∈rs,r.length=sz)∧
  (rs≠[]→∃b' off,b=some ⟨b',off,none⟩∧∀(i j:Nat) r x,rs[i]? =some r→r[j]? =some x→∃u,w.cell? ⟨b',off+i*sz+j,none⟩=some u∧F b' (off+i*sz+j)∧VT w F x u):=by
 cases h with
 | nils _ a cap=>exact⟨_,_,rfl,by simp,fun r hr=>by simp at hr,fun hne=>absurd rfl hne⟩
 | rows _ _ b off cap c hcap hsz hc hv=>
  refine⟨_,_,rfl,hcap,hsz,fun _=>⟨b,off,rfl,fun i j r x hi hj=>?_⟩⟩;have h1:i<rs.length:=(gS9.1 hi).1
  have h2:j<sz:=by
   have:=(gS9.1 hj).1;rw[hsz r (gM9 hi)]at this;exact this
  exact⟨c i j,(hc i j h1 h2).1,(hc i j h1 h2).2,hv i j r x hi hj⟩
theorem lH{sz:Nat}{rs:List (List T)}{b off cap:Nat}(hcap:rs.length≤cap)(hsz:∀ r∈rs,r.length=sz)
  (hc:∀ (i j:Nat) r x,rs[i]? =some r→r[j]? =some x→∃u,w.cell? ⟨b,off+i*sz+j,none⟩=some u∧F b (off+i*sz+j)∧VT w F x u):
  VT w F (.rows sz rs) (.slice (some ⟨b,off,none⟩) rs.length cap):=by
 have key:∀ i j,i<rs.length→j<sz→∃r x,rs[i]? =some r∧r[j]? =some x:=fun i j hi hj=>by
  have h1:rs[i]? =some rs[i]:=gE9 hi;have h2:j<rs[i].length:=by rw[hsz _ (gL9 hi)];exact hj
  exact⟨rs[i],rs[i][j],h1,gE9 h2⟩
 refine .rows sz rs b off cap (fun i j=>(w.cell? ⟨b,off+i*sz+j,none⟩).getD undef) hcap hsz (fun i j hi hj=>?_) (fun i j r x hi hj=>?_)
 ·obtain⟨r,x,h1,h2⟩:=key i j hi hj;obtain⟨u,h3,h4,_⟩:=hc i j r x h1 h2;exact⟨by rw[h3];rfl,h4⟩
 ·obtain⟨u,h3,_,h5⟩:=hc i j r x hi hj;rw[h3];exact h5
theorem VT.jS{x:T}{v:Value}(h:VT w F x v):v.oneCell'=true:=by cases h<;>rfl
theorem VP.jS{p:Pt}{v:Value}(hs:Sim w F ν h nx)(ha:alive h p.id p.ver)(hv:VP ν p v):
  ∃b,ν p.id=some (b,p.ver)∧v= .pointer (some ⟨b,p.i*p.sz+p.j,none⟩):=by
 obtain⟨b,ver,h1,h2⟩:=hv;obtain⟨_,_,o,ho⟩:=hs.dom _ _ h1;have h3:=hs.obj _ _ ho;cases o with
 | arr ver' shut sz rs=>
  obtain⟨b',e,n,h4,_⟩:=h3;rw[h1]at h4;simp only[sI9,Prod.mk.injEq]at h4;obtain⟨rfl,rfl⟩:=h4;simp only[alive,ho]at ha;rcases h2 with⟨h2,_⟩ | ⟨h2,h5⟩
  ·omega
  ·exact⟨b,by rw[h1,h2],h5⟩
theorem gU{id ver:Nat}(ha:alive h id ver):h id=some (.arr ver (h.shut id) (h.sz id) (h.rows id)):=by
 unfold alive at ha;cases hh:h id with
 | none=>simp[hh]at ha
 | some o=>cases o with | arr v s z rs=>simp only[hh]at ha;subst ha;simp[Hp.shut,Hp.sz,Hp.rows,hh]
theorem vW{α:Type}{n:Nat}{Q:Nat→α→Prop}(hq:∀ j,j<n→∃u,Q j u):∃ us:List α,us.length=n∧∀(j:Nat) u,us[j]? =some u→Q j u:=by
 induction n with
 | zero=>exact⟨[],rfl,fun j u h=>by simp at h⟩
 | succ n ih=>
  obtain⟨us,h1,h2⟩:=ih fun j hj=>hq j (by omega)
  obtain⟨u,hu⟩:=hq n (by omega);refine⟨us++[u],by simp[h1],fun j x hx=>?_⟩;rw[List.getElem?_append]at hx;split at hx
  ·exact h2 j x hx
  ·rename_i hge
   have:j=n:=by
    have:=(gS9.1 hx).1;simp at this;omega
   subst this;simp[h1]at hx;subst hx;exact hu
theorem uG{t:TypeId}{v:Value}{x:A}(hc:aH4 P t v=some x):VA w F ν x v∧x.good=true:=by
 unfold aH4 at hc;split at hc<;>(try(simp only[sI9]at hc;subst hc;simp[VA,A.good];done))
 ·simp only[sI9]at hc;subst hc;exact⟨.nilf,rfl⟩
 ·split at hc
  ·simp only[oM9]at hc;obtain⟨sz,_,rfl⟩:=hc;exact⟨⟨.nils sz none 0,none,rfl⟩,rfl⟩
  ·simp only[sI9]at hc;subst hc;exact⟨⟨.nils 0 none 0,none,rfl⟩,rfl⟩
 ·simp at hc
theorem nL:∀ {ts:List TypeId} {vs:List Value} {xs:List A},oQ P ts vs=some xs→VL (VA w F ν) xs vs∧xs.all A.good=true
 | [],[],xs,h=>by simp only[oQ,sI9]at h;subst h;exact⟨⟨rfl,fun k a u h=>by simp at h⟩,rfl⟩
 | [],_::_,xs,h=>by simp[oQ]at h
 | _::_,[],xs,h=>by simp[oQ]at h
 | t::ts,v::vs,xs,h=>by
  simp only[oQ,Option.bind_eq_bind,oB9,sI9]at h;obtain⟨x,hx,ys,hy,rfl⟩:=h;obtain⟨h1,h2⟩:=nL hy;obtain⟨h3,h4⟩:=uG (w:=w) (F:=F) (ν:=ν) hx;refine⟨⟨by simp[h1.1],fun k a u ha hu=>?_⟩,by simp only[List.all_cons,h4,h2,Bool.and_self]⟩;cases k with
  | zero=>simp only[List.getElem?_cons_zero,sI9]at ha hu;subst ha;subst hu;exact h3
  | succ k=>simp only[List.getElem?_cons_succ]at ha hu;exact h1.2 k a u ha hu
theorem aF7{t:TypeId}{v:Value}{d:D}(hc:aPD P t v=some d):VD w F ν d v:=by
 unfold aPD at hc;split at hc
 ·simp only[Option.bind_eq_bind,oB9,sI9]at hc;obtain⟨ts,_,xs,hx,rfl⟩:=hc;exact⟨_,rfl,(nL hx).1⟩
 ·simp at hc
 ·simp only[oM9]at hc;obtain⟨x,hx,rfl⟩:=hc;exact(uG hx).1
theorem aN{t:TypeId}{x:Operand}{x':X}(ht:∀ t,VD w F ν (tm t) (a.tmps.getD t undef))(hc:dA P t x=some x'):VD w F ν (x'.ev tm) (a.eval x):=by
 cases x with
 | tmp k=>simp only[dA,sI9]at hc;subst hc;exact ht k
 | const v=>
  simp only[dA,oM9]at hc;obtain⟨d,hd,rfl⟩:=hc;exact aF7 hd
 | global g=>simp[dA]at hc
 | func f=>
  simp only[dA,sI9]at hc;subst hc;exact⟨#[],rfl,rfl,fun k p u hp=>by simp at hp⟩
def Ran(P:Program)(s:Sem Next)(w:World)(v:Value)(w':World):Prop:=s.run P w= .ok (.value v) w'∨(s.run P w= .ok .skip w'∧v=undef)
def Done(P:Program)(s:Sem Next)(w:World)(F:Fix)(ν:Nu)(d:D)(h':Hp)(nx:Nat):Prop:=
 ∃v w' F' ν',Ran P s w v w'∧VD w' F' ν' d v∧Sim w' F' ν' h' nx∧Frame w F ν w' F' ν'
theorem Done.still{s:Sem Next}{d:D}{v:Value}(hs:Sim w F ν h nx)(hr:s.run P w= .ok (.value v) w)(hv:VD w F ν d v):Done P s w F ν d h nx:=
 ⟨v,w,F,ν,.inl hr,hv,hs,Frame.refl _ _ _⟩
theorem aF8{d:D}{v:Value}(hb:d.isBool)(hv:VD w F ν d v):∃ b,d= .one (.t (.bool b))∧v= .bool b:=by
 unfold D.isBool at hb;split at hb
 ·rename_i b;exact⟨b,rfl,pR.1 hv⟩
 ·exact hb.elim
theorem jL{d:D}{v:Value}(hb:d.isInt)(hv:VD w F ν d v):∃ k n,d= .one (.t (.int k n))∧v= .int k n:=by
 unfold D.isInt at hb;split at hb
 ·rename_i k n;exact⟨k,n,rfl,mK.1 hv⟩
 ·exact hb.elim
theorem tG{d:D}{v:Value}(hb:d.isStr)(hv:VD w F ν d v):∃ s,d= .one (.t (.str s))∧v= .string s:=by
 unfold D.isStr at hb;split at hb
 ·rename_i s;exact⟨s,rfl,qV.1 hv⟩
 ·exact hb.elim
theorem aPE{R:A→Value→Prop}{x:A}{v:Value}(h:R x v):VL R [x] [v]:=
 ⟨rfl,fun k a u ha hu=>by
  cases k with
  | zero=>simp only[List.getElem?_cons_zero,sI9]at ha hu;subst ha;subst hu;exact h
  | succ k=>simp at ha⟩
theorem VA.jS{x:A}{v:Value}(hv:VA w F ν x v)(hx:x.good=true):v.oneCell'=true:=by
 cases x with
 | t x=>exact VT.jS hv
 | tt sz rs=>obtain⟨_,a,rfl⟩:=hv;rfl
 | ref id ver off len sz tight=>
  obtain⟨b,ver',h1,h2⟩:=hv;rcases h2 with⟨_,_,_,rfl⟩ | ⟨_,cap,e,n,rfl,_⟩<;>rfl
 | ptr p=>
  obtain⟨b,ver',h1,h2⟩:=hv;rcases h2 with⟨_,_,rfl⟩ | ⟨_,rfl⟩<;>rfl
 | into cs=>obtain⟨b,off,rfl,_⟩:=hv;rfl
 | fn f caps=>obtain⟨us,rfl,_⟩:=hv;rfl
 | undef=>simp[A.good]at hx
end
section
open Go
variable {P:Program} {w:World} {F:Fix} {ν:Nu} {h:Hp} {nx:Nat}
theorem qW{t:TypeId}{n:Nat}(hs:szP P t=some n):∃ i,P.info? t=some i∧i.size=n:=by
 unfold szP at hs;simp only[oM9]at hs;exact hs
theorem dB{t:TypeId}{n:Nat}(hs:szP P t=some n)(w:World):(sizeOf t).run P w= .ok n w:=by
 obtain⟨i,hi,rfl⟩:=qW hs;simp[sizeOf,typeInfo,hi]
theorem qX{t:TypeId}{g:Bool}(hg:yH P t=some g)(w:World):(isAgg t).run P w= .ok g w:=by
 unfold yH at hg;split at hg<;>first | (simp only[sI9]at hg;subst hg) | (simp at hg;done)
 ·rename_i hu;simp[isAgg,run_underlying hu]
 ·rename_i hu;simp[isAgg,run_underlying hu]
 ·rename_i d h1 h2 hu;simp only[isAgg,Sem.run_bind,run_underlying hu,Result.andThen_ok];cases d<;>first | (exact absurd rfl (h1 _)) | (exact absurd rfl (h2 _ _)) | rfl
theorem zG{t:TypeId}{n:Nat}{g:Bool}(hsz:szP P t=some n)(hg:yH P t=some g)(hn:g=false→n=1){cs:List A}(hl:cs.length=n){b o:Nat}
  (hc:∀ (k:Nat) x,cs[k]? =some x→∃u,w.cell? ⟨b,o+k,none⟩=some u∧VA w F ν x u):∃ u,(loadVar t ⟨b,o,none⟩).run P w= .ok u w∧VD w F ν (.of g cs) u:=by
 obtain⟨us,h1,h2⟩:=vW (n:=n) (Q:=fun k u=>w.cell? ⟨b,o+k,none⟩=some u∧∀x,cs[k]? =some x→VA w F ν x u) fun k hk=>by
  have h0:cs[k]? =some cs[k]:=gE9 (by omega);obtain⟨u,h3,h4⟩:=hc k _ h0;exact⟨u,h3,fun x hx=>by rw[h0]at hx;simp only[sI9]at hx;subst hx;exact h4⟩
 cases g with
 | true=>
  refine⟨.agg us.toArray,?_,us.toArray,rfl,by simp[h1,hl],fun k x u hx hu=>(h2 k u (by simpa using hu)).2 x hx⟩;obtain⟨i,hi,hi2⟩:=qW hsz;unfold yH at hg;split at hg<;>simp at hg
  ·rename_i hu;exact run_loadVar_mid w b o t us _ (fun k v hv=>(h2 k v hv).1) hu rfl (by simp[hi,hi2,h1])
  ·rename_i hu;exact run_loadVar_mid w b o t us _ (fun k v hv=>(h2 k v hv).1) hu rfl (by simp[hi,hi2,h1])
 | false=>
  have h3:=hn rfl;subst h3;obtain⟨x,hx⟩:∃ x,cs=[x]:=List.length_eq_one_iff.1 hl;subst hx;obtain⟨u,h4,h5⟩:=hc 0 x rfl;refine⟨u,?_,h5⟩;simp only[Nat.add_zero]at h4;simp[loadVar,qX hg,h4]
theorem aJT(hs:Sim w F ν h nx){t:TypeId}{n:Nat}{g:Bool}(hsz:szP P t=some n)(hg:yH P t=some g)(hn:g=false→n=1){x:D}{v:Value}(hv:VD w F ν x v)
  (hok:x.tE h n):∃ u,(Instr.loadAt t v).run P w= .ok u w∧VD w F ν (.of g (x.loadAt h n)) u:=by
 unfold D.tE at hok;split at hok
 ·rename_i p;obtain⟨ha,hsz',hi,hj⟩:=hok;obtain⟨b,h1,rfl⟩:=VP.jS hs ha hv;obtain⟨b',e,m,h2,h3,h4,h5,h6,h7,h8⟩:=hs.obj _ _ (gU ha);rw[h1]at h2;simp only[sI9,Prod.mk.injEq]at h2;obtain⟨rfl,-⟩:=h2;have hr:(h.rows p.id)[p.i]? =some (h.rows p.id)[p.i]:=gE9 hi;have hrl:(h.rows p.id)[p.i].length=p.sz:=by rw[h5 _ (gL9 hi),hsz']
  have he:(h.rows p.id).getD p.i []=(h.rows p.id)[p.i]:=by simp[List.getD,hr]
  simp only[D.loadAt,he,Instr.loadAt,Instr.sureAddr,Sem.run_bind,Sem.run_pure,Result.andThen_ok];refine zG hsz hg hn (by simp;omega) fun k x hx=>?_
  rw[List.getElem?_take]at hx;split at hx
  ·rw[List.getElem?_drop]at hx;obtain⟨_,u,h9,h10⟩:=h7 p.i (p.j+k) _ x hr hx;exact⟨u,by rw[hsz',←Nat.add_assoc]at h9;exact h9,h10⟩
  ·simp at hx
 ·rename_i cs;obtain⟨b,off,rfl,h1⟩:=hv;simp only[D.loadAt,Instr.loadAt,Instr.sureAddr,Sem.run_bind,Sem.run_pure,Result.andThen_ok];refine zG hsz hg hn (by simp;omega) fun k x hx=>?_
  rw[List.getElem?_map,List.getElem?_take]at hx;split at hx
  ·simp only[oM9]at hx;obtain⟨y,hy,rfl⟩:=hx;obtain⟨u,h2,_,h3⟩:=h1 k y hy;exact⟨u,h2,h3⟩
  ·simp at hx
 ·exact hok.elim
theorem aRI{op:BinOp}{t:TypeId}{x y:D}{u v:Value}(hx:VD w F ν x u)(hy:VD w F ν y v)(hok:x.uF op y)
  (hb:∀ b c,u= .bool b→v= .bool c→P.underlying t=some .bool):∃ r,(binOp op t u v).run P w= .ok r w∧VD w F ν (x.bin op y) r:=by
 unfold D.uF at hok;split at hok
 ·rename_i x y;simp only[VD,VA]at hx hy;simp only[D.bin,VD,VA];unfold aBI at hok;split at hok
  ·rename_i k a k' b;rw[mK]at hx hy;subst hx;subst hy;simp only[aJO]
   cases op<;>simp only[vT]at hok<;>(try(obtain⟨hok,hnz⟩:=hok))<;>(try subst hok)<;>
    simp[binOp,aF2,Op.intArith,Op.intDiv,Op.intBits,Op.intCmp,Op.shift, *]<;>(try omega)
  ·rename_i a b;rw[qV]at hx hy;subst hx;subst hy;simp only[aJO];cases op<;>simp only[vU]at hok<;>(try(exact hok.elim))<;>simp[binOp,aF3,Op.stringOp];simp at hok;omega
  ·rename_i a b;rw[pR]at hx hy;subst hx;subst hy;have hu:=hb _ _ rfl rfl;simp only[aJO]
   have he:(Op.equal t (.bool a) (.bool b)).run P w= .ok (a==b) w:=by
    have hd:∀ d,(Op.equalIn (d+1) t (.bool a) (.bool b)).run P w= .ok (a==b) w:=fun d=>by
     rw[Op.equalIn];simp only[Sem.run_bind,run_underlying hu,Result.andThen_ok,Sem.run_pure]
    exact hd 9999
   rcases hok with rfl | rfl
   ·exact⟨.bool (a==b),by simp only[binOp,Sem.run_bind,he,Result.andThen_ok,Sem.run_pure],by simp⟩
   ·exact⟨.bool (!(a==b)),by simp only[binOp,Sem.run_bind,he,Result.andThen_ok,Sem.run_pure],by simp⟩
  ·exact hok.elim
 ·exact hok.elim
end
section
open Go
variable {P:Program} {w:World} {F:Fix} {ν:Nu} {h:Hp} {nx:Nat} {tm:Nat→D} {a:Act}
theorem aUK{op:UnOp}{x:D}{v:Value}(hx:VD w F ν x v)(hok:x.aMP op):∃ r,(Op.unary op v).run P w= .ok r w∧VD w F ν (x.un op) r:=by
 unfold D.aMP at hok;split at hok
 ·rename_i x;simp only[VD,VA]at hx;simp only[D.un,VD,VA];unfold aJP at hok;split at hok
  ·rw[mK]at hx;subst hx;rcases hok with rfl | rfl<;>simp[unT,Op.unary,Op.intArith,Op.intBits]
  ·rw[pR]at hx;subst hx;subst hok;simp[unT,Op.unary]
  ·exact hok.elim
 ·exact hok.elim
theorem aUL(hs:Sim w F ν h nx){t e:TypeId}{sz:Nat}(hu:P.underlying t=some (.slice e))(hsz:szP P e=some sz){x i:D}{u v:Value}(hx:VD w F ν x u)(hi:VD w F ν i v)
  (hok:x.aMR h sz i.int?):∃ r,(Instr.indexAt t u v).run P w= .ok r w∧VD w F ν (x.ia sz i.int?) r:=by
 have hint:∀ k,i.int? =some k→∃kk,v= .int kk k:=fun k hk=>by
  unfold D.int? at hk;split at hk
  ·simp only[sI9]at hk;subst hk;exact⟨_,mK.1 hi⟩
  ·simp at hk
 have tree:∀ (rs:List (List T)) (k:Int) (u:Value),0≤k→k<rs.length→VT w F (.rows sz rs) u→v=v→(∃kk,v= .int kk k)→
   ∃r,(Instr.indexAt t u v).run P w= .ok r w∧VD w F ν (.one (.into (rs.getD k.toNat []))) r:=by
  rintro rs k u h0 h1 hv - ⟨kk,rfl⟩;obtain⟨a,cap,rfl,_,h2,h3⟩:=lX hv;obtain⟨b,off,rfl,h4⟩:=h3 (by intro e;subst e;simp at h1;omega);have hlt:k.toNat<rs.length:=by omega
  have hr:rs[k.toNat]? =some rs[k.toNat]:=gE9 hlt;refine⟨.pointer (some ⟨b,off+k.toNat*sz,none⟩),?_,b,_,rfl,fun j x hj=>?_⟩
  ·simp[Instr.indexAt,asIntOf,run_underlying hu,h0,h1,dB hsz,Addr.add_mid]
  ·have he:rs.getD k.toNat []=rs[k.toNat]:=by simp[List.getD,hr]
   rw[he]at hj;exact h4 _ j _ x hr hj
 unfold D.aMR at hok;split at hok
 ·rename_i sz' rs;obtain⟨rfl,hok⟩:=hok;cases hk:i.int? with
  | none=>simp[hk]at hok
  | some k=>
   simp only[hk]at hok;exact tree rs k u hok.1 hok.2 hx rfl (hint k hk)
 ·rename_i sz' rs;obtain⟨rfl,hok⟩:=hok;cases hk:i.int? with
  | none=>simp[hk]at hok
  | some k=>
   simp only[hk]at hok;exact tree rs k u hok.1 hok.2 hx.1 rfl (hint k hk)
 ·rename_i id ver off len sz' tight;obtain⟨rfl,ha,hok⟩:=hok;cases hk:i.int? with
  | none=>simp[hk]at hok
  | some k=>
   simp only[hk]at hok;obtain⟨kk,rfl⟩:=hint k hk;obtain⟨b,ver',h1,h2⟩:=hx;obtain⟨b',e',m,h3,_⟩:=hs.obj _ _ (gU ha);rw[h1]at h3;simp only[sI9,Prod.mk.injEq]at h3;obtain⟨rfl,rfl⟩:=h3;rcases h2 with⟨h2,_⟩ | ⟨_,cap,e1,n,rfl,_⟩
   ·omega
   ·refine⟨.pointer (some ⟨b,off*sz+k.toNat*sz,none⟩),?_,b,ver',h1,.inr ⟨rfl,?_⟩⟩
    ·simp[Instr.indexAt,asIntOf,run_underlying hu,hok.1,hok.2,dB hsz,Addr.add_mid]
    ·simp[Nat.add_mul]
 ·exact hok.elim
theorem aRJ{t:TypeId}(hu:P.underlying t=some .string){x i:D}{u v:Value}(hx:VD w F ν x u)(hi:VD w F ν i v)
  (hok:x.oH i.int?):∃ r,(Instr.index t u v).run P w= .ok r w∧VD w F ν (x.ixs i.int?) r:=by
 unfold D.oH at hok;split at hok
 ·rename_i s;simp only[VD,VA,qV]at hx;subst hx;cases hk:i.int? with
  | none=>simp[hk]at hok
  | some k=>
   simp only[hk]at hok;unfold D.int? at hk;split at hk
   ·simp only[sI9]at hk;subst hk;rename_i kk k;simp only[VD,VA,mK]at hi;subst hi;have hlt:k.toNat<s.size:=by omega
    have hb:s[k.toNat]? =some s[k.toNat]:=by simp[hlt]
    have hb2:s.data.toList.getD k.toNat 0=s[k.toNat]:=by
     have:s.data.toList[k.toNat]? =some s[k.toNat]:=by
      rw[gE9 (by simpa using hlt)];rfl
     simp[List.getD,this]
    refine⟨.int .u8 s[k.toNat].toNat,?_,?_⟩
    ·simp[Instr.index,asIntOf,run_underlying hu,hok.1,hb]
    ·simp only[D.ixs,VD,VA,mK,Option.getD_some,hb2]
   ·simp at hk
 ·exact hok.elim
theorem aUM(hs:Sim w F ν h nx){t:TypeId}{fs:Array Field}{f:Nat}{fl:Field}{s:Nat}(hu:P.underlying t=some (.struct fs))(hf:fs[f]? =some fl)(hsz:szP P fl.type=some s)(h0:s≠0)
  {x:D} {v:Value} (hv:VD w F ν x v) (hok:x.aMQ h):∃ r,(Instr.fieldAt t v f).run P w= .ok r w∧VD w F ν (x.fa fl.offset) r:=by
 have run:∀ b o,(Instr.fieldAt t (.pointer (some ⟨b,o,none⟩)) f).run P w= .ok (.pointer (some ⟨b,o+fl.offset,none⟩)) w:=fun b o=>by
  simp[Instr.fieldAt,run_underlying hu,hf,Instr.sureAddr,fieldPlace,dB hsz,h0,Addr.add_mid]
 unfold D.aMQ at hok;split at hok
 ·rename_i p;obtain⟨b,h1,rfl⟩:=VP.jS hs hok hv;exact⟨_,run _ _,b,p.ver,h1,.inr ⟨rfl,by simp[Nat.add_assoc]⟩⟩
 ·rename_i cs;obtain⟨b,off,rfl,h1⟩:=hv;refine⟨_,run _ _,b,_,rfl,fun j x hj=>?_⟩;rw[List.getElem?_drop]at hj;obtain⟨u,h2,h3,h4⟩:=h1 _ x hj;exact⟨u,by rw[Nat.add_assoc];exact h2,by rw[Nat.add_assoc];exact h3,h4⟩
 ·exact hok.elim
theorem aPF{t:TypeId}{n off:Nat}{g:Bool}(hsz:szP P t=some n)(hg:yH P t=some g)(hn:g=false→n=1){cs:List A}{us:Array Value}(hv:VL (VA w F ν) cs us.toList)(hl:off+n≤cs.length):
  ∃r,(part t us off).run P w= .ok r w∧VD w F ν (.of g ((cs.drop off).take n)) r:=by
 have hsize:us.size=cs.length:=by have:=hv.1;simpa using this.symm
 cases g with
 | true=>
  refine⟨.agg (us.extract off (off+n)),by simp[part,qX hg,dB hsz],_,rfl,?_,fun k x u hx hu=>?_⟩
  ·simp;omega
  ·rw[List.getElem?_take]at hx;split at hx
   ·rename_i hk;rw[List.getElem?_drop]at hx;refine hv.2 (off+k) x u hx ?_;simp only[Array.getElem?_toList]at hu ⊢;rw[Array.getElem?_extract]at hu;split at hu
    ·exact hu
    ·simp at hu
   ·simp at hx
 | false=>
  have h1:=hn rfl;subst h1;have hlt:off<us.size:=by omega
  have hx:cs[off]? =some cs[off]:=gE9 (by omega);refine⟨us[off],by simp[part,qX hg,hlt],?_⟩
  have he:(cs.drop off).take 1=[cs[off]]:=by
   rw[List.drop_eq_getElem_cons (by omega)];rfl
  rw[he];exact hv.2 off _ _ hx (by simp[hlt])
theorem aRK{t:TypeId}{fs:Array Field}{f:Nat}{fl:Field}{n:Nat}{g:Bool}(hu:P.underlying t=some (.struct fs))(hf:fs[f]? =some fl)(hsz:szP P fl.type=some n)
  (hg:yH P fl.type=some g) (hn:g=false→n=1) {x:D} {v:Value} (hv:VD w F ν x v) (hok:x.aJS fl.offset n):
  ∃r,(Instr.field t v f).run P w= .ok r w∧VD w F ν (.of g ((x.cells.drop fl.offset).take n)) r:=by
 cases x with
 | agg cs=>
  obtain⟨us,rfl,h1⟩:=hv;obtain⟨r,h2,h3⟩:=aPF (P:=P) hsz hg hn h1 hok;exact⟨r,by simp[Instr.field,run_underlying hu,hf,asAgg,h2],h3⟩
 | one y=>exact hok.elim
 | tup xs=>exact hok.elim
theorem aRL{i:Nat}{x:D}{v:Value}(hv:VD w F ν x v)(hok:x.aH0 i):∃ r,(Instr.extract v i).run P w= .ok r w∧VD w F ν (x.ext i) r:=by
 unfold D.aH0 at hok;split at hok
 ·rename_i xs;obtain⟨us,rfl,h1,h2⟩:=hv;have hx:xs[i]? =some xs[i]:=gE9 hok;have hlt:i<us.size:=by omega
  have h3:=h2 i _ us[i] hx (by simp[hlt]);refine⟨us[i],by simp[Instr.extract,hlt],?_⟩;simp only[D.ext,hx];generalize xs[i]=y at h3;cases y with
  | one y=>exact h3
  | agg cs=>exact h3
 ·exact hok.elim
theorem aJU{t ty:TypeId}(hu:P.underlying t=some .string){x:D}{v:Value}(hv:VD w F ν x v)(hok:x.isStr):
  ∃r,(Builtin.len_ #[t] ty #[v]).run P w= .ok r w∧VD w F ν (.one (.t (.int .i64 x.len))) r:=by
 obtain⟨s,rfl,rfl⟩:=tG hok hv;exact⟨.int .i64 s.size,by simp[Builtin.len_,run_underlying hu,goInt],by simp[VD,VA,D.len]⟩
theorem aHS{x:D}{v:Value}(hv:VD w F ν x v)(hok:x.aCQ):∃ b c,v= .slice b x.len c:=by
 unfold D.aCQ at hok;split at hok
 ·obtain⟨b,cap,h1,_⟩:=lX hv;exact⟨_,_,h1⟩
 ·obtain⟨_,b,h1⟩:=hv;exact⟨_,_,h1⟩
 ·obtain⟨b,ver',_,h1⟩:=hv;rcases h1 with⟨_,_,_,h1⟩ | ⟨_,cap,_,_,h1,_⟩<;>exact⟨_,_,h1⟩
 ·exact hok.elim
theorem aF9{t ty e:TypeId}(hu:P.underlying t=some (.slice e)){x:D}{v:Value}(hv:VD w F ν x v)(hok:x.aCQ):
  ∃r,(Builtin.len_ #[t] ty #[v]).run P w= .ok r w∧VD w F ν (.one (.t (.int .i64 x.len))) r:=by
 obtain⟨b,c,rfl⟩:=aHS hv hok;exact⟨.int .i64 x.len,by simp[Builtin.len_,run_underlying hu,goInt],by simp[VD,VA]⟩
theorem aRM{mx:Bool}:∀ {xs:List D} {us:List Value} (d:D) (u:Value),d.isInt→VD w F ν d u→(∀x∈xs,x.isInt)→xs.length=us.length→(∀(k:Nat) x u,xs[k]? =some x→us[k]? =some u→VD w F ν x u)→
  ∃r,(us.foldlM (if mx then Builtin.max2 else Builtin.min2) u).run P w= .ok r w∧VD w F ν (xs.foldl (fun d y=>d.mm2 mx y) d) r
 | [],[],d,u,_,hv,_,_,_=>⟨u,by simp,hv⟩
 | [],_::_,_,_,_,_,_,hl,_=>by simp at hl
 | _::_,[],_,_,_,_,_,hl,_=>by simp at hl
 | x::xs,y::us,d,u,hd,hv,hall,hl,hk=>by
  obtain⟨k,n,rfl,rfl⟩:=jL hd hv;obtain⟨k',n',rfl,rfl⟩:=jL (hall _ (List.mem_cons_self)) (hk 0 _ _ rfl rfl)
  obtain⟨r,h1,h2⟩:=aRM (mx:=mx) (xs:=xs) (us:=us) (.one (.t (.int k (if mx then(if n'>n then n' else n)else(if n'<n then n' else n)))))
   (.int k (if mx then(if n'>n then n' else n)else(if n'<n then n' else n))) trivial (by simp[VD,VA]) (fun x hx=>hall x (List.mem_cons_of_mem _ hx)) (by simpa using hl)
   (fun j x u hx hu=>hk (j+1) x u (by simpa using hx) (by simpa using hu))
  refine⟨r,?_,by simpa[List.foldl_cons,D.mm2]using h2⟩;cases mx<;>simpa[List.foldlM_cons,Builtin.max2,Builtin.min2]using h1
end
section
open Go
variable {P:Program} {w:World} {F:Fix} {ν:Nu} {h:Hp} {nx:Nat} {tm:Nat→D} {a:Act}
theorem nM(ht:∀ t,VD w F ν (tm t) (a.tmps.getD t undef)){o:Option Operand}{o':Option X}(hc:qT P o=some o')(hok:iN tm o'):
  (o=none∧o'=none∧oint tm o'=none)∨∃x k n,o=some x∧o'.isSome=true∧a.eval x= .int k n∧oint tm o'=some n:=by
 cases o with
 | none=>simp only[qT,sI9]at hc;subst hc;exact .inl ⟨rfl,rfl,rfl⟩
 | some x=>
  simp only[qT,oM9]at hc;obtain⟨x',hx,rfl⟩:=hc;obtain⟨k,n,h1,h2⟩:=jL hok (aN ht hx);exact .inr ⟨x,k,n,rfl,rfl,h2,by simp[oint,h1,D.int?]⟩
theorem bD(k:IntKind)(n:Int)(y:Nat)(code:BoundsCode)(w:World)(h0:0≤n)(h1:n≤y):(Instr.sliceBound (.int k n) y code).run P w= .ok n.toNat w:=by
 simp[Instr.sliceBound,asIntOf,h0,h1]
theorem aMT{t:TypeId}(hu:P.underlying t=some .string){x:D}{v:Value}(hv:VD w F ν x v)(ht:∀ t,VD w F ν (tm t) (a.tmps.getD t undef)){lo hi:Option Operand}{lo' hi':Option X}
  (hl:qT P lo=some lo') (hh:qT P hi=some hi') (hl1:iN tm lo') (hh1:iN tm hi') (hok:x.aBJ (oint tm lo') (oint tm hi')):
  ∃r,(Instr.sliceAt t v (lo.map a.eval) (hi.map a.eval) none).run P w= .ok r w∧VD w F ν (x.aJQ (oint tm lo') (oint tm hi')) r:=by
 unfold D.aBJ at hok;split at hok
 ·rename_i s;simp only[VD,VA,qV]at hv;subst hv;simp only[D.aJQ,VD,VA,qV];rcases nM ht hl hl1 with⟨rfl,rfl,e1⟩ | ⟨xl,kl,nl,rfl,_,e1,e2⟩<;>rcases nM ht hh hh1 with⟨rfl,rfl,e3⟩ | ⟨xh,kh,nh,rfl,_,e3,e4⟩
  ·simp[Instr.sliceAt,Instr.slice,run_underlying hu,Instr.sliceBounds,oint]
  ·simp only[e1,e4,Option.getD_some,Option.getD_none]at hok ⊢;have h2:=bD (P:=P) kh nh s.size .sliceAlen w (by omega) (by omega);simp[Instr.sliceAt,Instr.slice,run_underlying hu,Instr.sliceBounds,e3,h2]
  ·simp only[e2,e3,Option.getD_some,Option.getD_none]at hok ⊢;have h2:=bD (P:=P) kl nl s.size .sliceB w (by omega) (by omega);simp[Instr.sliceAt,Instr.slice,run_underlying hu,Instr.sliceBounds,e1,h2]
  ·simp only[e2,e4,Option.getD_some]at hok ⊢;have h2:=bD (P:=P) kh nh s.size .sliceAlen w (by omega) (by omega);have h3:=bD (P:=P) kl nl nh.toNat .sliceB w (by omega) (by omega);simp[Instr.sliceAt,Instr.slice,run_underlying hu,Instr.sliceBounds,e1,e3,h2,h3]
 ·exact hok.elim
theorem aPG{sz:Nat}{rs:List (List T)}{b:Option Addr}{cap l k m:Nat}(hv:VT w F (.rows sz rs) (.slice b rs.length cap))(h1:l≤k)(h2:k≤rs.length)(h3:k≤m):
  VT w F (.rows sz ((rs.take k).drop l)) (.slice (if m=l then b else b.map (·.add (l*sz))) (k - l) (m - l)):=by
 by_cases e:k=l
 ·have h4:(rs.take k).drop l=[]:=by simp[e]
  rw[h4,e,Nat.sub_self];exact .nils _ _ _
 ·obtain⟨b',cap',h4,_,h5,h6⟩:=lX hv;simp only[Value.slice.injEq]at h4;obtain⟨rfl,-,rfl⟩:=h4;obtain⟨bb,off,rfl,h7⟩:=h6 (by intro hh;subst hh;simp at h2;omega);have hm:¬ m=l:=by omega
  have hlen:k - l=((rs.take k).drop l).length:=by simp;omega
  rw[if_neg hm,hlen];simp only[Option.map_some,Addr.add_mid];refine lH (by simp;omega) (fun r hr=>h5 r (List.mem_of_mem_take (List.mem_of_mem_drop hr))) fun i j r x hi hj=>?_
  rw[List.getElem?_drop,List.getElem?_take]at hi;split at hi
  ·obtain⟨u,h8,h9,h10⟩:=h7 _ j r x hi hj;have ea:off+(l+i)*sz+j=off+l*sz+i*sz+j:=by rw[Nat.add_mul];omega
   rw[ea]at h8 h9;exact⟨u,h8,h9,h10⟩
  ·simp at hi
theorem run_sliceAt_slice{t e:TypeId}{sz:Nat}(hu:P.underlying t=some (.slice e))(hsz:szP P e=some sz)(b:Option Addr)(len cap:Nat)(lo hi mx:Option Value)(l k m:Nat)
  (hb:(Instr.sliceBounds true len cap lo hi mx).run P w= .ok (l,k,m) w):
  (Instr.sliceAt t (.slice b len cap) lo hi mx).run P w= .ok (.slice (if m=l then b else b.map (·.add (l*sz))) (k - l) (m - l)) w:=by
 simp[Instr.sliceAt,Instr.slice,run_underlying hu,hb,dB hsz]
theorem aUN(hs:Sim w F ν h nx){t e:TypeId}{sz:Nat}(hu:P.underlying t=some (.slice e))(hsz:szP P e=some sz){x:D}{v:Value}(hv:VD w F ν x v)
  (ht:∀ t,VD w F ν (tm t) (a.tmps.getD t undef)) {lo hi mx:Option Operand} {lo' hi' mx':Option X}
  (hl:qT P lo=some lo') (hh:qT P hi=some hi') (hm:qT P mx=some mx') (hl1:iN tm lo') (hh1:iN tm hi') (hm1:iN tm mx')
  (hok:x.aMS h sz (oint tm lo') (oint tm hi') (oint tm mx')):
  ∃r,(Instr.sliceAt t v (lo.map a.eval) (hi.map a.eval) (mx.map a.eval)).run P w= .ok r w∧VD w F ν (x.sl sz (oint tm lo') (oint tm hi') (oint tm mx')) r:=by
 -- the bounds' run
 have bounds:∀ len cap:Nat,len≤cap→0≤(oint tm lo').getD 0→(oint tm lo').getD 0≤(oint tm hi').getD len→(oint tm hi').getD len≤len→
   (∀m,oint tm mx'=some m→(oint tm hi').isSome=true∧(oint tm hi').getD len≤m∧m≤len)→
   (Instr.sliceBounds true len cap (lo.map a.eval) (hi.map a.eval) (mx.map a.eval)).run P w= .ok (((oint tm lo').getD 0).toNat,((oint tm hi').getD len).toNat,((oint tm mx').getD cap).toNat) w:=by
  intro len cap hlc h0 h1 h2 h3;rcases nM ht hm hm1 with⟨rfl,rfl,e5⟩ | ⟨xm,km,nm,rfl,_,e5,e6⟩
  ·rcases nM ht hl hl1 with⟨rfl,rfl,e1⟩ | ⟨xl,kl,nl,rfl,_,e1,e2⟩<;>rcases nM ht hh hh1 with⟨rfl,rfl,e3⟩ | ⟨xh,kh,nh,rfl,_,e3,e4⟩
   ·simp[Instr.sliceBounds,oint]
   ·simp only[e1,e4,Option.getD_some,Option.getD_none]at h0 h1 h2 h3 ⊢;have h4:=bD (P:=P) kh nh cap .sliceAcap w (by omega) (by omega);simp[Instr.sliceBounds,e3,h4]
   ·simp only[e2,e3,Option.getD_some,Option.getD_none]at h0 h1 h2 h3 ⊢;have h4:=bD (P:=P) kl nl len .sliceB w (by omega) (by omega);simp[Instr.sliceBounds,e1,h4]
   ·simp only[e2,e4,e5,Option.getD_some,Option.getD_none]at h0 h1 h2 h3 ⊢;have h4:=bD (P:=P) kh nh cap .sliceAcap w (by omega) (by omega);have h5:=bD (P:=P) kl nl nh.toNat .sliceB w (by omega) (by omega);simp[Instr.sliceBounds,e1,e3,h4,h5]
  ·obtain⟨g1,g2,g3⟩:=h3 nm e6;rcases nM ht hh hh1 with⟨rfl,rfl,e3⟩ | ⟨xh,kh,nh,rfl,_,e3,e4⟩
   ·simp[e3]at g1
   ·rcases nM ht hl hl1 with⟨rfl,rfl,e1⟩ | ⟨xl,kl,nl,rfl,_,e1,e2⟩
    ·simp only[e1,e4,e6,Option.getD_some,Option.getD_none]at h0 h1 h2 g2 g3 ⊢;have h4:=bD (P:=P) km nm cap .slice3Acap w (by omega) (by omega);have h5:=bD (P:=P) kh nh nm.toNat .slice3B w (by omega) (by omega);simp[Instr.sliceBounds,e3,e5,h4,h5]
    ·simp only[e2,e4,e6,Option.getD_some]at h0 h1 h2 g2 g3 ⊢;have h4:=bD (P:=P) km nm cap .slice3Acap w (by omega) (by omega);have h5:=bD (P:=P) kh nh nm.toNat .slice3B w (by omega) (by omega);have h6:=bD (P:=P) kl nl nh.toNat .slice3C w (by omega) (by omega);simp[Instr.sliceBounds,e1,e3,e5,h4,h5,h6]
 -- a tree
 have tree:∀ (rs:List (List T)) (b:Option Addr) (cap:Nat),VT w F (.rows sz rs) (.slice b rs.length cap)→rs.length≤cap→0≤(oint tm lo').getD 0→(oint tm lo').getD 0≤(oint tm hi').getD rs.length→(oint tm hi').getD rs.length≤rs.length→
   (∀m,oint tm mx'=some m→(oint tm hi').isSome=true∧(oint tm hi').getD rs.length≤m∧m≤rs.length)→
   ∃b' cap',(Instr.sliceAt t (.slice b rs.length cap) (lo.map a.eval) (hi.map a.eval) (mx.map a.eval)).run P w= .ok (.slice b' ((rs.take ((oint tm hi').getD rs.length).toNat).drop ((oint tm lo').getD 0).toNat).length cap') w∧
    VT w F (.rows sz ((rs.take ((oint tm hi').getD rs.length).toNat).drop ((oint tm lo').getD 0).toNat)) (.slice b' ((rs.take ((oint tm hi').getD rs.length).toNat).drop ((oint tm lo').getD 0).toNat).length cap')∧
    (∀m,oint tm mx'=some m→m=(oint tm hi').getD rs.length→cap'=((rs.take ((oint tm hi').getD rs.length).toNat).drop ((oint tm lo').getD 0).toNat).length)∧
    cap'=((oint tm mx').getD cap).toNat - ((oint tm lo').getD 0).toNat:=by
  intro rs b cap hv hcap h0 h1 h2 h3;have hb:=bounds rs.length cap hcap h0 h1 h2 h3;have hlen:((rs.take ((oint tm hi').getD rs.length).toNat).drop ((oint tm lo').getD 0).toNat).length=((oint tm hi').getD rs.length).toNat - ((oint tm lo').getD 0).toNat:=by simp;omega
  have hm:((oint tm hi').getD rs.length).toNat≤((oint tm mx').getD cap).toNat:=by
   cases e:oint tm mx' with
   | none=>simp;omega
   | some m=>have:=h3 m e;simp only[Option.getD_some];omega
  have hs:=aPG (m:=((oint tm mx').getD cap).toNat) hv (l:=((oint tm lo').getD 0).toNat) (k:=((oint tm hi').getD rs.length).toNat) (by omega) (by omega) hm;refine⟨_,_,by rw[run_sliceAt_slice hu hsz _ _ _ _ _ _ _ _ _ hb,hlen],by rw[hlen];exact hs,fun m e1 e2=>?_,rfl⟩;rw[hlen,e1];simp only[Option.getD_some];omega
 unfold D.aMS at hok;split at hok
 ·rename_i sz' rs;obtain⟨rfl,h0,h1,h2,h3⟩:=hok;obtain⟨b,cap,rfl,hcap,_⟩:=lX hv;obtain⟨b',cap',g1,g2,g3,_⟩:=tree rs b cap hv hcap h0 h1 h2 h3;refine⟨_,g1,?_⟩;simp only[D.sl];split
  ·rename_i m k e1 e2;rw[e2]at g2 g3;simp only[Option.getD_some]at g2 g3;split
   ·rename_i e3;subst e3;refine⟨by simpa[e2]using g2,b',?_⟩;rw[e2];simp only[Option.getD_some];rw[g3 m e1 rfl]
   ·simpa[e2,VD,VA]using g2
  ·exact g2
 ·rename_i sz' rs;obtain⟨rfl,h0,h1,h2,h3⟩:=hok;obtain⟨hv,b,rfl⟩:=hv;obtain⟨b',cap',g1,g2,g3,g4⟩:=tree rs b rs.length hv (Nat.le_refl _) h0 h1 h2 h3;refine⟨_,g1,?_⟩;simp only[D.sl];split
  ·rename_i m k e1 e2;rw[e2]at g2 g3;simp only[Option.getD_some]at g2 g3;split
   ·rename_i e3;subst e3;refine⟨by simpa[e2]using g2,b',?_⟩;rw[e2];simp only[Option.getD_some];rw[g3 m e1 rfl]
   ·simpa[e2,VD,VA]using g2
  ·rename_i e1;split
   ·rename_i e2;have e3:rs.take ((oint tm hi').getD rs.length).toNat=rs:=by rw[e2];simp
    rw[e3]at g2 ⊢;refine⟨g2,b',?_⟩;rw[g4,e1];simp
   ·exact g2
  ·exact g2
 ·rename_i id ver off len sz' tight;obtain⟨rfl,ha,hmx,h0,h1,h2⟩:=hok;obtain⟨b,ver',h3,h4⟩:=hv;obtain⟨b',e',m,h5,_⟩:=hs.obj _ _ (gU ha);rw[h3]at h5;simp only[sI9,Prod.mk.injEq]at h5;obtain⟨rfl,rfl⟩:=h5;rcases h4 with⟨h4,_⟩ | ⟨_,cap,e1,n,rfl,h6,h7,h8,h9⟩
  ·omega
  ·have hb:=bounds len cap h7 h0 (by omega) h2 (fun m e=>by rw[hmx]at e;simp at e)
   by_cases heq:(oint tm lo').getD 0=(oint tm hi').getD len
   ·refine⟨_,run_sliceAt_slice hu hsz _ _ _ _ _ _ _ _ _ hb,?_⟩;have e0:((oint tm hi').getD len).toNat - ((oint tm lo').getD 0).toNat=0:=by omega
    rw[e0];simp only[D.sl];rw[if_pos heq];exact .nils _ _ _
   have hm:¬ ((oint tm mx').getD cap).toNat=((oint tm lo').getD 0).toNat:=by rw[hmx];simp;omega
   simp only[D.sl];rw[if_neg heq];refine⟨_,run_sliceAt_slice hu hsz _ _ _ _ _ _ _ _ _ hb,b,ver',h3,.inr ⟨rfl,cap - ((oint tm lo').getD 0).toNat,e1,n,?_,by simp,by omega,h8,?_⟩⟩
   ·rw[if_neg hm,hmx];simp[Addr.add_mid,Nat.add_mul]
   ·have:off+((oint tm lo').getD 0).toNat+(cap - ((oint tm lo').getD 0).toNat)=off+cap:=by omega
    rw[this];exact h9
 ·exact hok.elim
end
section
open Go
variable {P:Program} {w:World} {F:Fix} {ν:Nu} {h:Hp} {nx:Nat} {tm:Nat→D} {a:Act}
theorem qK(off:Nat):∀ (l:List Value) (j0:Nat) (cells:Array Value),off+j0+l.length≤cells.size→
  ((l.zipIdx j0).foldl (fun(cs:Array Value) (x:Value×Nat)=>cs.setIfInBounds (off+x.2) x.1) cells).size=cells.size∧
  ∀k,((l.zipIdx j0).foldl (fun(cs:Array Value) (x:Value×Nat)=>cs.setIfInBounds (off+x.2) x.1) cells)[k]? =if off+j0≤k∧k<off+j0+l.length then l[k - (off+j0)]? else cells[k]?
 | [],j0,cells,_=>⟨rfl,fun k=>by simp;intro h1 h2;omega⟩
 | v::l,j0,cells,hl=>by
  simp only[List.length_cons]at hl;obtain⟨h1,h2⟩:=qK off l (j0+1) (cells.setIfInBounds (off+j0) v) (by simp;omega);simp only[List.zipIdx_cons,List.foldl_cons];refine⟨by rw[h1];simp,fun k=>?_⟩;rw[h2 k];simp only[List.length_cons]
  by_cases e:k=off+j0
  ·subst e;have hlt:off+j0<cells.size:=by omega
   rw[if_neg (by omega),if_pos (by omega),Nat.sub_self];simp[hlt]
  ·by_cases e2:off+j0≤k∧k<off+j0+(l.length+1)
   ·rw[if_pos (by omega),if_pos e2];obtain⟨q,rfl⟩:∃ q,k=off+j0+1+q:=⟨k - (off+j0+1),by omega⟩;rw[show off+j0+1+q - (off+(j0+1))=q by omega,show off+j0+1+q - (off+j0)=q+1 by omega];simp
   ·rw[if_neg (by omega),if_neg e2,Array.getElem?_setIfInBounds_ne (by omega)]
theorem jT{zs cs:List A}{off:Nat}(hl:off+cs.length≤zs.length):(splice zs off cs).length=zs.length:=by
 simp[splice];omega
theorem vX{zs cs:List A}{off:Nat}(hl:off+cs.length≤zs.length)(k:Nat):(splice zs off cs)[k]? =if off≤k∧k<off+cs.length then cs[k - off]? else zs[k]? :=by
 unfold splice
 by_cases h1:k<off
 ·rw[if_neg (by omega),List.append_assoc,List.getElem?_append_left (by simp;omega),List.getElem?_take,if_pos h1]
 ·by_cases h2:k<off+cs.length
  ·rw[if_pos (by omega),List.getElem?_append_left (by simp;omega),List.getElem?_append_right (by simp;omega)];congr 1;simp;omega
  ·rw[if_neg (by omega),List.getElem?_append_right (by simp;omega),List.getElem?_drop];congr 1;simp;omega
theorem aFA{p:A→Bool}{zs cs:List A}{off:Nat}(h1:zs.all p=true)(h2:cs.all p=true):(splice zs off cs).all p=true:=by
 simp only[splice,List.all_append,Bool.and_eq_true,h2,and_true];simp only[List.all_eq_true]at*;exact⟨fun x hx=>h1 x (List.mem_of_mem_take hx),fun x hx=>h1 x (List.mem_of_mem_drop hx)⟩
theorem vY{d:D}{v:Value}(hv:VD w F ν d v)(ht:d.rP=false)(hg:d.cells.all A.good=true):VL (VA w F ν) d.cells v.cells.toList∧∀u∈v.cells,u.oneCell'=true:=by
 have key:VL (VA w F ν) d.cells v.cells.toList:=by
  cases d with
  | one x=>
   have hx:x.good=true:=by simpa[D.cells]using hg
   have h1:=VA.jS hv hx;have h2:v.cells= #[v]:=by cases v<;>simp[Value.oneCell']at h1<;>rfl
   rw[h2];exact aPE hv
  | agg cs=>obtain⟨us,rfl,h1⟩:=hv;exact h1
  | tup xs=>simp[D.rP]at ht
 refine⟨key,fun u hu=>?_⟩;obtain⟨k,hk,hk2⟩:=Array.getElem_of_mem hu;have hk3:k<d.cells.length:=by have:=key.1;simp at this;omega
 have h3:d.cells[k]? =some d.cells[k]:=gE9 hk3;have h4:=key.2 k _ u h3 (by simp[hk,hk2]);exact VA.jS h4 (List.all_eq_true.1 hg _ (gL9 hk3))
theorem aHT{zs cs:List A}{us:Array Value}{vs:Array Value}{off:Nat}(hz:VL (VA w F ν) zs us.toList)(hc:VL (VA w F ν) cs vs.toList)(hl:off+cs.length≤zs.length):
  VL (VA w F ν) (splice zs off cs) (vs.zipIdx.foldl (fun cs (c,j)=>cs.setIfInBounds (off+j) c) us).toList:=by
 have e1:us.size=zs.length:=by have:=hz.1;simpa using this.symm
 have e2:vs.size=cs.length:=by have:=hc.1;simpa using this.symm
 have h1:=qK off vs.toList 0 us (by simp;omega)
 have h2:vs.zipIdx.foldl (fun cs (c,j)=>cs.setIfInBounds (off+j) c) us=(vs.toList.zipIdx 0).foldl (fun(cs:Array Value) (x:Value×Nat)=>cs.setIfInBounds (off+x.2) x.1) us:=by
  rw[←Array.foldl_toList];simp
 rw[h2];refine⟨by rw[jT hl];simp[h1.1,e1],fun k x u hx hu=>?_⟩;rw[Array.getElem?_toList,h1.2 k]at hu;rw[vX hl]at hx;simp only[Nat.add_zero,Array.length_toList,e2]at hu;split at hx
 ·rename_i hk;rw[if_pos hk]at hu;exact hc.2 _ x u hx hu
 ·rename_i hk;rw[if_neg hk]at hu;exact hz.2 k x u hx (by simpa using hu)
theorem qY{place:Nat→Option (Nat×Nat)}:∀ {ps:List (Nat×Operand)} {qs:List (Nat×Nat×X)} {pl:Nat→Option (Nat×Nat×TypeId)} (zs:List A) (us:Array Value),
  (∀t,VD w F ν (tm t) (a.tmps.getD t undef))→mJ P pl ps=some qs→(∀i o s t,pl i=some (o,s,t)→place i=some (o,s))→VL (VA w F ν) zs us.toList→zs.all A.good=true→
  jA zs.length (qs.map fun(o,s,x)=>(o,s,x.ev tm))→
  ∃us',Instr.fill place us (ps.map fun(i,x)=>(i,a.eval x))=some us'∧VL (VA w F ν) (iZ zs (qs.map fun(o,_,x)=>(o,(x.ev tm).cells))) us'.toList∧
   (iZ zs (qs.map fun(o,_,x)=>(o,(x.ev tm).cells))).all A.good=true∧(iZ zs (qs.map fun(o,_,x)=>(o,(x.ev tm).cells))).length=zs.length
 | [],qs,pl,zs,us,ht,hc,hp,hz,hg,hok=>by
  simp only[mJ,sI9]at hc;subst hc;exact⟨us,rfl,hz,hg,rfl⟩
 | (i,x)::ps,qs,pl,zs,us,ht,hc,hp,hz,hg,hok=>by
  simp only[mJ,Option.bind_eq_bind,oB9,sI9]at hc;obtain⟨⟨o,s,t⟩,h1,x',h2,rest,h3,rfl⟩:=hc;simp only[List.map_cons,jA]at hok;obtain⟨⟨g1,g2,g3,g4⟩,hok⟩:=hok;have hx:=aN ht h2;obtain⟨c1,c2⟩:=vY hx g1 g4;have e1:us.size=zs.length:=by have:=hz.1;simpa using this.symm
  have e2:(a.eval x).cells.size=s:=by have:=c1.1;simp at this;omega
  have hl:o+(x'.ev tm).cells.length≤zs.length:=by omega
  obtain⟨us',f1,f2,f3,f4⟩:=qY (place:=place) (ps:=ps) (splice zs o (x'.ev tm).cells) ((a.eval x).cells.zipIdx.foldl (fun cs (c,j)=>cs.setIfInBounds (o+j) c) us) ht h3 hp
   (aHT hz c1 hl) (aFA hg g4) (by rw[jT hl];exact hok)
  refine⟨us',?_,f2,f3,by rw[←jT hl];exact f4⟩;simp only[List.map_cons,Instr.fill,hp _ _ _ _ h1];rw[if_neg (by simp;omega)];exact f1
theorem iR{t:TypeId}{zs:List A}(hz:jY P t=some zs):∃ i z,P.info? t=some i∧i.zero=some z∧VL (VA w F ν) zs z.cells.toList∧zs.all A.good=true:=by
 simp only[jY,Option.bind_eq_bind,oB9]at hz;obtain⟨i,hi,z,hz1,ts,_,hz2⟩:=hz;obtain⟨h1,h2⟩:=nL hz2;exact⟨i,z,hi,hz1,h1,h2⟩
theorem aFB{fs:Array Field}(hall:(fs.all fun f=>(szP P f.type).isSome)=true)(w:World):∃ pl:Array (Nat×Nat),(fs.mapM (m:=Sem) fun f=>Prod.mk f.offset<$> sizeOf f.type).run P w= .ok pl w∧
  ∀(i o s:Nat) (t:TypeId) (f:Field),fs[i]? =some f→o=f.offset→szP P f.type=some s→t=f.type→pl[i]? =some (o,s):=by
 have key:∀ l:List Field,(∀f∈l,(szP P f.type).isSome=true)→∃pl:List (Nat×Nat),(l.mapM (m:=Sem) fun f=>Prod.mk f.offset<$> sizeOf f.type).run P w= .ok pl w∧
   ∀(i:Nat) f s,l[i]? =some f→szP P f.type=some s→pl[i]? =some (f.offset,s):=by
  intro l
  induction l with
  | nil=>intro _;exact⟨[],by simp,fun i f s h=>by simp at h⟩
  | cons f l ih=>
   intro hl;obtain⟨pl,h1,h2⟩:=ih fun f hf=>hl f (List.mem_cons_of_mem _ hf)
   obtain⟨s,hs⟩:=Option.isSome_iff_exists.1 (hl f List.mem_cons_self);refine⟨(f.offset,s)::pl,by simp[List.mapM_cons,dB hs,h1],fun i g s' hg hs'=>?_⟩;cases i with
   | zero=>simp only[List.getElem?_cons_zero,sI9]at hg ⊢;subst hg;rw[hs]at hs';simp only[sI9]at hs';subst hs';rfl
   | succ i=>simp only[List.getElem?_cons_succ]at hg ⊢;exact h2 i g s' hg hs'
 obtain⟨pl,h1,h2⟩:=key fs.toList fun f hf=>by
  have:=Array.all_eq_true_iff_forall_mem.1 hall f (by simpa using hf);simpa using this
 refine⟨pl.toArray,?_,fun i o s t f hf ho hs ht=>by subst ho;subst ht;simpa using h2 i f s (by simpa using hf) hs⟩;rw[Array.mapM_eq_mapM_toList,Sem.run_map,h1];rfl
theorem aMU{t:TypeId}{fs:Array Field}{zs:List A}(hu:P.underlying t=some (.struct fs))(hz:jY P t=some zs)(hall:(fs.all fun f=>(szP P f.type).isSome)=true)
  {ps:Array (Nat×Operand)} {qs:List (Nat×Nat×X)} (ht:∀ t,VD w F ν (tm t) (a.tmps.getD t undef))
  (hc:mJ P (fun i=>do let f ←fs[i]?;some (f.offset,←szP P f.type,f.type)) ps.toList=some qs) (hok:jA zs.length (qs.map fun(o,s,x)=>(o,s,x.ev tm))):
  ∃r,(Instr.build t (ps.map fun(i,x)=>(i,a.eval x))).run P w= .ok r w∧VD w F ν (.agg (iZ zs (qs.map fun(o,_,x)=>(o,(x.ev tm).cells)))) r:=by
 obtain⟨i,z,h1,h2,h3,h4⟩:=iR (w:=w) (F:=F) (ν:=ν) hz;obtain⟨pl,h5,h6⟩:=aFB hall w
 obtain⟨us,f1,f2,_,_⟩:=qY (place:=(pl[·]?)) zs z.cells ht hc (fun j o s t hj=>by
  simp only[Option.bind_eq_bind,oB9,sI9,Prod.mk.injEq]at hj;obtain⟨f,g1,s',g2,rfl,rfl,rfl⟩:=hj
  exact h6 j _ _ _ f g1 rfl g2 rfl) h3 h4 hok
 refine⟨.agg us,?_,us,rfl,f2⟩;have f1':Instr.fill (pl[·]?) z.cells (ps.toList.map fun(i,x)=>(i,a.eval x))=some us:=f1;simp[Instr.build,zeroValue,typeInfo,h1,h2,run_underlying hu,h5,f1']
theorem aPH{f:FuncId}{caps:Array Operand}{cs:List X}(_hs:Sim w F ν h nx)(ht:∀ t,VD w F ν (tm t) (a.tmps.getD t undef))(hc:jZ P [] caps.toList=some cs)(hok:∀ x∈cs,(x.ev tm).cR h):
  VD w F ν (.one (.fn f (cs.map fun x=>(x.ev tm).pt))) (.func (.func f) #[] (caps.map a.eval)):=by
 have key:∀ (l:List Operand) (cs:List X),jZ P [] l=some cs→l.length=cs.length∧∀(k:Nat) x y,l[k]? =some x→cs[k]? =some y→VD w F ν (y.ev tm) (a.eval x):=by
  intro l
  induction l with
  | nil=>intro cs hc;simp only[jZ,sI9]at hc;subst hc;exact⟨rfl,fun k x y h=>by simp at h⟩
  | cons x l ih=>
   intro cs hc;simp only[jZ,Option.bind_eq_bind,oB9,sI9]at hc;obtain⟨x',h1,cs',h2,rfl⟩:=hc;obtain⟨h3,h4⟩:=ih _ h2;refine⟨by simp[h3],fun k y z hy hz=>?_⟩;cases k with
   | zero=>simp only[List.getElem?_cons_zero,sI9]at hy hz;subst hy;subst hz;exact aN ht h1
   | succ k=>simp only[List.getElem?_cons_succ]at hy hz;exact h4 k y z hy hz
 obtain⟨h1,h2⟩:=key _ _ hc;refine⟨_,rfl,by simp at h1 ⊢;exact h1,fun k p u hp hu=>?_⟩;simp only[List.getElem?_map,oM9]at hp;obtain⟨y,hy,rfl⟩:=hp;simp only[Array.getElem?_map,oM9]at hu;obtain⟨x,hx,rfl⟩:=hu;have h3:=h2 k x y (by simpa using hx) hy;have h4:=hok y (gM9 hy);unfold D.cR at h4;split at h4
 ·rename_i p e;rw[e]at h3;rw[e];exact h3
 ·exact h4.elim
end
section
open Go
variable {P:Program} {w w':World} {F F':Fix} {ν:Nu} {h:Hp} {nx:Nat} {tm:Nat→D} {a:Act}
theorem cell?_block{b o:Nat}(hb:w'.heap[b]? =w.heap[b]?):w'.cell? ⟨b,o,none⟩=w.cell? ⟨b,o,none⟩:=by simp[World.cell?,hb]
theorem frozen?_block{b o:Nat}(hb:w'.heap[b]? =w.heap[b]?):w'.frozen? ⟨b,o,none⟩=w.frozen? ⟨b,o,none⟩:=by simp[World.frozen?,hb]
theorem shape?_block{b:Nat}(hb:w'.heap[b]? =w.heap[b]?):w'.shape? b=w.shape? b:=by simp[World.shape?,hb]
theorem shape?_lt{b:Nat}{s:TypeId×Nat}(hb:w.shape? b=some s):b<w.heap.size:=by
 unfold World.shape? at hb;rcases Nat.lt_or_ge b w.heap.size with h' | h'
 ·exact h'
 ·simp[Array.getElem?_eq_none h']at hb
structure Calm (w w':World):Prop where
 os:w'.os=w.os
 tape:w'.tape=w.tape
 output:w'.output=w.output
theorem Sim.fY(hs:Sim w F ν h nx){id b ver:Nat}(hn:ν id=some (b,ver)):b<w.heap.size:=(hs.dom _ _ hn).2.1
theorem Sim.ext(hs:Sim w F ν h nx)(hc:Calm w w')(hsz:w.heap.size≤w'.heap.size)(hk:∀ b,b<w.heap.size→w'.heap[b]? =w.heap[b]?)
  (hF:∀ b o,F b o→F' b o) (hF1:∀ b o,F' b o→F b o∨(w.heap.size≤b∧b<w'.heap.size)):Sim w' F' ν h nx∧Frame w F ν w' F' ν:=by
 have fr:Frame w F ν w' F' ν:=
  {os:=hc.os,tape:=hc.tape,output:=hc.output,size:=hsz,keep:=fun b hb _=>hk b hb
   cell:=fun b o hFo=>cell?_block (hk b (hs.fixed b o hFo)),sub:=hF
   new:=fun b o h1=>(hF1 b o h1).imp id fun h2=> .inl h2.1
   shape:=fun b s h1=>by rw[shape?_block (hk b (shape?_lt h1))];exact h1
   nu:=fun id b ver h1=>⟨b,ver,h1,Nat.le_refl _,fun _=>rfl,.inl rfl⟩
   nu':=fun id b ver h1=> .inl ⟨b,ver,h1⟩ }
 refine⟨⟨fun b o h1=>?_,fun id o ho=>?_,fun id bv h1=>?_,hs.inj,fr.glob hs.glob⟩,fr⟩
 ·rcases hF1 b o h1 with h2 | h2
  ·exact Nat.lt_of_lt_of_le (hs.fixed b o h2) hsz
  ·exact h2.2
 ·have h1:=hs.obj id o ho;cases o with
  | arr ver shut sz rs=>
   obtain⟨b,e,n,g1,g2,g3,g4,g5,g6,g7⟩:=h1;have hb:=hs.fY g1;refine⟨b,e,n,g1,by rw[shape?_block (hk b hb)];exact g2,fun o ho=>by rw[frozen?_block (hk b hb)];exact g3 o ho,g4,g5,fun i j r x hi hj=>?_,fun o hFo=>?_⟩
   ·obtain⟨k1,u,k2,k3⟩:=g6 i j r x hi hj;exact⟨k1,u,by rw[cell?_block (hk b hb)];exact k2,k3.mono fr⟩
   ·rcases hF1 b o hFo with h2 | h2
    ·exact g7 o h2
    ·omega
 ·obtain⟨g1,g2,g3⟩:=hs.dom id bv h1;exact⟨g1,Nat.lt_of_lt_of_le g2 hsz,g3⟩
def Nu.set(ν:Nu)(id:Nat)(x:Nat×Nat):Nu:=fun j=>if j=id then some x else ν j
theorem Nu.cK(ν:Nu)(id:Nat)(x:Nat×Nat):ν.set id x id=some x:=by simp[Nu.set]
theorem Nu.bO(ν:Nu){id j:Nat}(x:Nat×Nat)(hj:j≠id):ν.set id x j=ν j:=by simp[Nu.set,hj]
theorem Hp.cK(h:Hp)(id:Nat)(o:O):h.set id o id=some o:=by simp[Hp.set]
theorem Hp.bO(h:Hp){id j:Nat}(o:O)(hj:j≠id):h.set id o j=h j:=by simp[Hp.set,hj]
theorem Sim.newObj(hs:Sim w F ν h nx)(hc:Calm w w')(hsz:w'.heap.size=w.heap.size+1)(hk:∀ b,b<w.heap.size→w'.heap[b]? =w.heap[b]?)
  {new sz:Nat} {rs:List (List A)} {e:TypeId} {n:Nat} (hnew:h new=none) (hnx:new<nx) (h1:w'.shape? w.heap.size=some (e,n)) (h2:∀ o,o<n→w'.frozen? ⟨w.heap.size,o,none⟩=false)
  (h3:∀ r∈rs,r.length=sz) (h4:rs.length*sz≤n)
  (h5:∀ (i j:Nat) r x,rs[i]? =some r→r[j]? =some x→x.good=true∧∃u,w'.cell? ⟨w.heap.size,i*sz+j,none⟩=some u∧VA w F ν x u):
  Sim w' F (ν.set new (w.heap.size,0)) (h.set new (.arr 0 false sz rs)) nx∧Frame w F ν w' F (ν.set new (w.heap.size,0)):=by
 have hν:ν new=none:=by
  cases hn:ν new with
  | none=>rfl
  | some bv=>obtain⟨_,_,o,ho⟩:=hs.dom _ _ hn;rw[hnew]at ho;cases ho
 have fr:Frame w F ν w' F (ν.set new (w.heap.size,0)):=
  {os:=hc.os,tape:=hc.tape,output:=hc.output,size:=by omega,keep:=fun b hb _=>hk b hb
   cell:=fun b o hFo=>cell?_block (hk b (hs.fixed b o hFo)),sub:=fun b o h=>h
   new:=fun b o h=> .inl h
   shape:=fun b s h1=>by rw[shape?_block (hk b (shape?_lt h1))];exact h1
   nu:=fun id b ver h1=>⟨b,ver,(Nu.bO _ _ (fun e=>by subst e;rw[hν]at h1;cases h1)).trans h1,Nat.le_refl _,fun _=>rfl,.inl rfl⟩
   nu':=fun id b ver h1=>by
    by_cases e:id=new
    ·subst e;rw[Nu.cK]at h1;simp only[sI9,Prod.mk.injEq]at h1;exact .inr (by omega)
    ·rw[Nu.bO _ _ e]at h1;exact .inl ⟨b,ver,h1⟩ }
 refine⟨⟨fun b o h=>by have:=hs.fixed b o h;omega,fun id o ho=>?_,fun id bv hn=>?_,fun i j b v v' hi hj=>?_,fr.glob hs.glob⟩,fr⟩
 ·by_cases e:id=new
  ·subst e;rw[Hp.cK]at ho;simp only[sI9]at ho;subst ho;refine⟨w.heap.size,_,n,Nu.cK _ _ _,h1,h2,h3,h4,fun i j r x hi hj=>?_,fun o hFo=>?_⟩
   ·obtain⟨k1,u,k2,k3⟩:=h5 i j r x hi hj;exact⟨k1,u,k2,k3.mono fr⟩
   ·have:=hs.fixed _ _ hFo;omega
  ·rw[Hp.bO _ _ e]at ho;have g:=hs.obj id o ho;cases o with
   | arr ver shut sz rs=>
    obtain⟨b,e',n,g1,g2,g3,g4,g5,g6,g7⟩:=g;have hb:=hs.fY g1;refine⟨b,e',n,by rw[Nu.bO _ _ e];exact g1,by rw[shape?_block (hk b hb)];exact g2,fun o ho=>by rw[frozen?_block (hk b hb)];exact g3 o ho,g4,g5,fun i j r x hi hj=>?_,g7⟩;obtain⟨k1,u,k2,k3⟩:=g6 i j r x hi hj;exact⟨k1,u,by rw[cell?_block (hk b hb)];exact k2,k3.mono fr⟩
 ·by_cases e:id=new
  ·subst e;rw[Nu.cK]at hn;simp only[sI9]at hn;subst hn;exact⟨hnx,by simp;omega,_,Hp.cK _ _ _⟩
  ·rw[Nu.bO _ _ e]at hn;obtain⟨g1,g2,o,g3⟩:=hs.dom id bv hn;exact⟨g1,by omega,o,by rw[Hp.bO _ _ e];exact g3⟩
 ·by_cases e1:i=new<;>by_cases e2:j=new
  ·rw[e1,e2]
  ·subst e1;rw[Nu.cK]at hi;rw[Nu.bO _ _ e2]at hj;simp only[sI9,Prod.mk.injEq]at hi;have:=hs.fY hj;omega
  ·subst e2;rw[Nu.cK]at hj;rw[Nu.bO _ _ e1]at hi;simp only[sI9,Prod.mk.injEq]at hj;have:=hs.fY hi;omega
  ·rw[Nu.bO _ _ e1]at hi;rw[Nu.bO _ _ e2]at hj;exact hs.inj i j b v v' hi hj
theorem Sim.touch(hs:Sim w F ν h nx)(hc:Calm w w'){id b ver b' ver' sz n:Nat}{shut:Bool}{rs:List (List A)}{e:TypeId}(hid:ν id=some (b,ver))(hsz:w.heap.size≤w'.heap.size)
  (hk:∀ c,c<w.heap.size→c≠b→w'.heap[c]? =w.heap[c]?) (hsh:∀ s,w.shape? b=some s→w'.shape? b=some s) (hcell:∀ o,F b o→w'.cell? ⟨b,o,none⟩=w.cell? ⟨b,o,none⟩)
  (hb':b'=b∨w.heap.size≤b') (hb2:b'<w'.heap.size) (hver:ver≤ver') (aRN:ver'=ver→b'=b)
  (h1:w'.shape? b'=some (e,n)) (h2:∀ o,o<n→w'.frozen? ⟨b',o,none⟩=false) (h3:∀ r∈rs,r.length=sz) (h4:rs.length*sz≤n)
  (h5:∀ (i j:Nat) r x,rs[i]? =some r→r[j]? =some x→x.good=true∧∃u,w'.cell? ⟨b',i*sz+j,none⟩=some u∧VA w F ν x u)
  (h6:∀ o,F b' o→shut=true∧o<rs.length*sz):
  Sim w' F (ν.set id (b',ver')) (h.set id (.arr ver' shut sz rs)) nx∧Frame w F ν w' F (ν.set id (b',ver')):=by
 have fr:Frame w F ν w' F (ν.set id (b',ver')):=
  {os:=hc.os,tape:=hc.tape,output:=hc.output,size:=hsz
   keep:=fun c hc' hn=>hk c hc' fun e=>hn id ver (by rw[e];exact hid)
   cell:=fun c o hFo=>by
    by_cases e:c=b
    ·rw[e];exact hcell o (e▸hFo)
    ·exact cell?_block (hk c (hs.fixed c o hFo) e)
   sub:=fun c o h=>h,new:=fun c o h=> .inl h
   shape:=fun c s hc'=>by
    by_cases e:c=b
    ·rw[e];exact hsh s (e▸hc')
    ·rw[shape?_block (hk c (shape?_lt hc') e)];exact hc'
   nu:=fun i c v hi=>by
    by_cases e:i=id
    ·subst e;rw[hid]at hi;simp only[sI9,Prod.mk.injEq]at hi;obtain⟨rfl,rfl⟩:=hi;exact⟨b',ver',Nu.cK _ _ _,hver,aRN,hb'⟩
    ·exact⟨c,v,by rw[Nu.bO _ _ e];exact hi,Nat.le_refl _,fun _=>rfl,.inl rfl⟩
   nu':=fun i c v hi=>by
    by_cases e:i=id
    ·subst e;exact .inl ⟨b,ver,hid⟩
    ·rw[Nu.bO _ _ e]at hi;exact .inl ⟨c,v,hi⟩ }
 refine⟨⟨fun c o hFo=>Nat.lt_of_lt_of_le (hs.fixed c o hFo) hsz,fun i o ho=>?_,fun i bv hn=>?_,fun i j c v v' hi hj=>?_,fr.glob hs.glob⟩,fr⟩
 ·by_cases e:i=id
  ·subst e;rw[Hp.cK]at ho;simp only[sI9]at ho;subst ho;refine⟨b',_,n,Nu.cK _ _ _,h1,h2,h3,h4,fun i j r x hi hj=>?_,h6⟩;obtain⟨k1,u,k2,k3⟩:=h5 i j r x hi hj;exact⟨k1,u,k2,k3.mono fr⟩
  ·rw[Hp.bO _ _ e]at ho;have g:=hs.obj i o ho;cases o with
   | arr aPC shut sz rs=>
    obtain⟨c,e',m,g1,g2,g3,g4,g5,g6,g7⟩:=g;have hb:=hs.fY g1;have hne:c≠b:=fun ee=>e (hs.inj _ _ _ _ _ g1 (ee▸hid))
    refine⟨c,e',m,by rw[Nu.bO _ _ e];exact g1,by rw[shape?_block (hk c hb hne)];exact g2,fun o ho=>by rw[frozen?_block (hk c hb hne)];exact g3 o ho,g4,g5,fun i j r x hi hj=>?_,g7⟩;obtain⟨k1,u,k2,k3⟩:=g6 i j r x hi hj;exact⟨k1,u,by rw[cell?_block (hk c hb hne)];exact k2,k3.mono fr⟩
 ·by_cases e:i=id
  ·subst e;rw[Nu.cK]at hn;simp only[sI9]at hn;subst hn;exact⟨(hs.dom _ _ hid).1,hb2,_,Hp.cK _ _ _⟩
  ·rw[Nu.bO _ _ e]at hn;obtain⟨g1,g2,o,g3⟩:=hs.dom i bv hn;exact⟨g1,Nat.lt_of_lt_of_le g2 hsz,o,by rw[Hp.bO _ _ e];exact g3⟩
 ·have main:∀ i c v,i≠id→ν i=some (c,v)→c≠b':=fun i c v hi hn ee=>by
   rcases hb' with rfl | hb'
   ·exact hi (hs.inj _ _ _ _ _ hn (ee▸hid))
   ·have:=hs.fY hn;omega
  by_cases e1:i=id<;>by_cases e2:j=id
  ·rw[e1,e2]
  ·subst e1;rw[Nu.cK]at hi;rw[Nu.bO _ _ e2]at hj;simp only[sI9,Prod.mk.injEq]at hi;exact absurd hi.1.symm (main j c _ e2 hj)
  ·subst e2;rw[Nu.cK]at hj;rw[Nu.bO _ _ e1]at hi;simp only[sI9,Prod.mk.injEq]at hj;exact absurd hj.1.symm (main i c _ e1 hi)
  ·rw[Nu.bO _ _ e1]at hi;rw[Nu.bO _ _ e2]at hj;exact hs.inj i j c v v' hi hj
end
section
open Go
variable {P:Program} {w w':World} {F F':Fix} {ν:Nu} {h:Hp} {nx:Nat} {tm:Nat→D} {a:Act}
theorem Calm.refl(w:World):Calm w w:=⟨rfl,rfl,rfl⟩
theorem nN(w:World)(o:Obj):Calm w (w.alloc o):=⟨rfl,rfl,rfl⟩
theorem iL(w:World)(o:Obj):Calm w (w.drew.alloc o):=⟨rfl,rfl,rfl⟩
theorem heap_alloc_old(w:World)(o:Obj){b:Nat}(hb:b<w.heap.size):(w.alloc o).heap[b]? =w.heap[b]? :=by
 show(w.heap.push o)[b]? =_;rw[Array.getElem?_push,if_neg (by omega)]
theorem heap_alloc_new(w:World)(o:Obj):(w.alloc o).heap[w.heap.size]? =some o:=by
 show(w.heap.push o)[w.heap.size]? =_;simp
theorem vZ(hs:Sim w F ν h nx){new:Nat}(hnew:h new=none)(hnx:new<nx){cs:List A}{us:Array Value}(hv:VL (VA w F ν) cs us.toList)(hg:cs.all A.good=true)(e:TypeId):
  Sim (w.alloc (.cells us e)) F (ν.set new (w.heap.size,0)) (h.set new (.arr 0 false cs.length [cs])) nx∧Frame w F ν (w.alloc (.cells us e)) F (ν.set new (w.heap.size,0))∧
   VD (w.alloc (.cells us e)) F (ν.set new (w.heap.size,0)) (.one (.ptr ⟨new,0,cs.length,0,0⟩)) (.pointer (some ⟨w.heap.size,0,none⟩)):=by
 have hl:us.size=cs.length:=by have:=hv.1;simpa using this.symm
 have h1:=Sim.newObj (w':=w.alloc (.cells us e)) hs (nN w _) (by simp) (fun b hb=>heap_alloc_old w _ hb) hnew hnx (sz:=cs.length) (rs:=[cs]) (e:=e) (n:=us.size)
  (by unfold World.shape?;rw[heap_alloc_new]) (fun o _=>by simp) (fun r hr=>by simp at hr;rw[hr]) (by simp[hl])
  (fun i j r x hi hj=>by
   cases i with
   | succ i=>simp at hi
   | zero=>
    simp only[List.getElem?_cons_zero,sI9]at hi;subst hi;have hj2:=(gS9.1 hj).1;refine⟨List.all_eq_true.1 hg _ (gM9 hj),us[j]'(by omega),?_,hv.2 j x _ hj (by simp)⟩
    simp)
 exact⟨h1.1,h1.2,w.heap.size,0,Nu.cK _ _ _,.inr ⟨rfl,by simp⟩⟩
theorem aMV(hs:Sim w F ν h nx){new:Nat}(hnew:h new=none)(hnx:new<nx){e:TypeId}{zs:List A}(hz:jY P e=some zs):
  ∃v w' ν',(Instr.alloc e true (.tuple #[])).run P w= .ok v w'∧Sim w' F ν' (h.set new (.arr 0 false zs.length [zs])) nx∧Frame w F ν w' F ν'∧VD w' F ν' (.one (.ptr ⟨new,0,zs.length,0,0⟩)) v:=by
 obtain⟨i,z,h1,h2,h3,h4⟩:=iR (w:=w) (F:=F) (ν:=ν) hz;obtain⟨g1,g2,g3⟩:=vZ hs hnew hnx h3 h4 e;exact⟨_,_,_,by simp[Instr.alloc,zeroValue,typeInfo,h1,h2,newVar,newRow],g1,g2,g3⟩
theorem aRO(hs:Sim w F ν h nx){new:Nat}(hnew:h new=none)(hnx:new<nx){e:TypeId}{n:Nat}{x:D}{v:Value}(hv:VD w F ν x v)(ht:x.rP=false)(hn:x.cells.length=n)(hg:x.cells.all A.good=true):
  ∃r w' ν',(Instr.box e v).run P w= .ok r w'∧Sim w' F ν' (h.set new (.arr 0 false n [x.cells])) nx∧Frame w F ν w' F ν'∧VD w' F ν' (.one (.ptr ⟨new,0,n,0,0⟩)) r:=by
 subst hn;obtain⟨g1,g2,g3⟩:=vZ hs hnew hnx (vY hv ht hg).1 hg e;exact⟨_,_,_,by simp[Instr.box,newVar,newRow],g1,g2,g3⟩
theorem iF(b:Nat):∀ (vs:List Value) (o:Nat) (w:World),(w.setCells b o vs).heap.size=w.heap.size
 | [],_,_=>rfl
 | v::r,o,w=>by rw[World.setCells,iF b r (o+1)];simp
theorem mL(b:Nat):∀ (vs:List Value) (o:Nat) (w:World),Calm w (w.setCells b o vs)
 | [],_,w=>Calm.refl w
 | v::r,o,w=>by
  rw[World.setCells];have:=mL b r (o+1) (w.setCell ⟨b,o,none⟩ v);exact⟨this.os,this.tape,this.output⟩
theorem iA(b:Nat):∀ (vs:List Value) (o:Nat) (w:World) (c:Nat),c≠b→(w.setCells b o vs).heap[c]? =w.heap[c]?
 | [],_,_,_,_=>rfl
 | v::r,o,w,c,hc=>by
  rw[World.setCells,iA b r (o+1) _ c hc];simp only[World.setCell,Array.getElem?_modify];rw[if_neg (by simpa using fun e=>hc e.symm)]
theorem yI(w:World)(ad:Addr)(v:Value)(c:Nat):(w.setCell ad v).shape? c=w.shape? c:=by
 simp only[World.setCell,World.shape?,Array.getElem?_modify]
 by_cases hb:ad.block=c
 ·simp only[hb,if_true];cases hh:w.heap[c]? with
  | none=>simp
  | some x=>cases x<;>simp;split<;>simp
 ·simp[hb]
theorem fS(b:Nat):∀ (vs:List Value) (o:Nat) (w:World) (c:Nat),(w.setCells b o vs).shape? c=w.shape? c
 | [],_,_,_=>rfl
 | v::r,o,w,c=>by rw[World.setCells,fS b r (o+1),yI]
theorem uH{b o:Nat}{e:TypeId}{n:Nat}(hsh:w.shape? b=some (e,n))(ho:o<n):(w.cell? ⟨b,o,none⟩).isSome=true:=by
 unfold World.shape? at hsh;unfold World.cell?;split at hsh
 ·rename_i c el fr hb;simp only[sI9,Prod.mk.injEq]at hsh;obtain⟨rfl,rfl⟩:=hsh;simp[hb,ho]
 ·cases hsh
theorem tH{t:TypeId}{b o:Nat}{v:Value}{n:Nat}(hsz:szP P t=some n)(hn:v.cells.size=n)(h1:∀ u∈v.cells,u.oneCell'=true)
  (hc:∀ j,j<n→(w.cell? ⟨b,o+j,none⟩).isSome=true∧w.frozen? ⟨b,o+j,none⟩=false):
  (storeVar t ⟨b,o,none⟩ v).run P w= .ok () (w.setCells b o v.cells.toList):=by
 have:=run_storeCells_cells (P:=P) b o v.cells.toList 0 w (fun j hj=>by simpa using(hc j (by simp at hj;omega)).1) (fun j hj=>by simpa using(hc j (by simp at hj;omega)).2)
  (fun u hu=>h1 u (by simpa using hu))
 simp only[Nat.add_zero]at this;simp[storeVar,dB hsz,hn,this]
theorem jU{b o k:Nat}{vs:List Value}(hc:∀ j,j<vs.length→(w.cell? ⟨b,o+j,none⟩).isSome=true):
  (w.setCells b o vs).cell? ⟨b,k,none⟩=if o≤k∧k<o+vs.length then vs[k - o]? else w.cell? ⟨b,k,none⟩:=by
 split
 ·rename_i hk;obtain⟨j,rfl⟩:∃ j,k=o+j:=⟨k - o,by omega⟩;rw[World.cell?_setCells_in b vs o w hc j (by omega),show o+j - o=j by omega,gE9]
 ·rename_i hk;exact World.cell?_setCells_out b vs o w ⟨b,k,none⟩ (fun _ _=>by simp only;omega)
theorem aMW(hs:Sim w F ν h nx){t:TypeId}{n:Nat}(hsz:szP P t=some n){x y:D}{u v:Value}(hx:VD w F ν x u)(hy:VD w F ν y v)(hok:x.vK h n y):
  ∃w' ν',(Instr.storeAt t u v).run P w= .ok () w'∧Sim w' F ν' (x.storeAt h y) nx∧Frame w F ν w' F ν':=by
 unfold D.vK at hok;split at hok
 ·rename_i p;obtain⟨ha,hsz',hi,hj,hshut,ht,hl,hg⟩:=hok;obtain⟨b,h1,rfl⟩:=VP.jS hs ha hx;obtain⟨b',e,m,h2,h3,h4,h5,h6,h7,h8⟩:=hs.obj _ _ (gU ha);rw[h1]at h2;simp only[sI9,Prod.mk.injEq]at h2;obtain⟨rfl,-⟩:=h2;obtain⟨c1,c2⟩:=vY hy ht hg;have e1:v.cells.size=n:=by have:=c1.1;simp at this;omega
  rw[hsz']at h5 h6 h7 h8
  have hrange:p.i*p.sz+p.j+n≤m:=by
   have:(p.i+1)*p.sz≤(h.rows p.id).length*p.sz:=Nat.mul_le_mul_right _ hi;rw[Nat.add_mul]at this;omega
  have hcells:∀ j,j<n→(w.cell? ⟨b,p.i*p.sz+p.j+j,none⟩).isSome=true∧w.frozen? ⟨b,p.i*p.sz+p.j+j,none⟩=false:=fun j hjn=>
   ⟨uH h3 (by omega),h4 _ (by omega)⟩
  have hrow:(h.rows p.id)[p.i]? =some (h.rows p.id)[p.i]:=gE9 hi;have hrl:(h.rows p.id)[p.i].length=p.sz:=h5 _ (gL9 hi);have he:(h.rows p.id).getD p.i []=(h.rows p.id)[p.i]:=by simp[List.getD,hrow]
  have hb:=hs.fY h1;have hlen:v.cells.toList.length=n:=by simpa using e1
  have hF:∀ o,¬F b o:=fun o hFo=>by have:=(h8 o hFo).1;rw[hshut]at this;cases this
  obtain⟨g1,g2⟩:=Sim.touch (w':=w.setCells b (p.i*p.sz+p.j) v.cells.toList) hs (mL b _ _ _) (b':=b) (ver':=p.ver) (sz:=p.sz) (n:=m) (shut:=false)
   (rs:=(h.rows p.id).set p.i (splice ((h.rows p.id).getD p.i []) p.j y.cells)) (e:=e) h1 (by rw[iF];exact Nat.le_refl _)
   (fun c _ hc=>iA b _ _ _ c hc) (fun s hs'=>by rw[fS];exact hs') (fun o hFo=>(hF o hFo).elim) (.inl rfl) (by rw[iF];exact hb) (Nat.le_refl _) (fun _=>rfl)
   (by rw[fS];exact h3) (fun o ho=>by rw[World.frozen?_setCells];exact h4 o ho)
   (fun r hr=>by
    rcases List.mem_or_eq_of_mem_set hr with hr | hr
    ·exact h5 r hr
    ·rw[hr,he,jT (by omega)];exact hrl)
   (by simpa using h6)
   (fun i j r z hri hrj=>by
    rw[List.getElem?_set]at hri
    by_cases ei:p.i=i
    ·subst ei;rw[if_pos rfl,if_pos hi]at hri;simp only[sI9]at hri;subst hri;rw[he,vX (by omega)]at hrj;rw[jU (fun j hj=>(hcells j (by omega)).1)];split at hrj
     ·rename_i hk;rw[if_pos (by omega),show p.i*p.sz+j - (p.i*p.sz+p.j)=j - p.j by omega];have hz:(y.cells[j - p.j]?)=some z:=hrj;have hu:j - p.j<v.cells.toList.length:=by omega
      exact⟨List.all_eq_true.1 hg _ (gM9 hz),v.cells.toList[j - p.j],gE9 hu,c1.2 _ z _ hz (gE9 hu)⟩
     ·rename_i hk;rw[if_neg (by omega)];exact h7 p.i j _ z hrow hrj
    ·rw[if_neg ei]at hri;have hjs:j<p.sz:=by rw[←h5 r (gM9 hri)];exact(gS9.1 hrj).1
     have hne:¬ (p.i*p.sz+p.j≤i*p.sz+j∧i*p.sz+j<p.i*p.sz+p.j+v.cells.toList.length):=by
      rcases Nat.lt_or_gt_of_ne ei with hlt | hlt
      ·have:(p.i+1)*p.sz≤i*p.sz:=Nat.mul_le_mul_right _ hlt;rw[Nat.add_mul]at this;omega
      ·have:(i+1)*p.sz≤p.i*p.sz:=Nat.mul_le_mul_right _ hlt;rw[Nat.add_mul]at this;omega
     rw[jU (fun j hj=>(hcells j (by omega)).1),if_neg hne]
     exact h7 i j r z hri hrj)
   (fun o hFo=>(hF o hFo).elim)
  refine⟨_,_,?_,g1,g2⟩;simp only[Instr.storeAt,Instr.sureAddr,Sem.run_bind,Sem.run_pure,Result.andThen_ok];exact tH hsz e1 c2 hcells
 ·exact hok.elim
end
section
open Go
variable {P:Program} {w w':World} {F F':Fix} {ν:Nu} {h:Hp} {nx:Nat} {tm:Nat→D} {a:Act}
theorem dY(sz:Nat):∀ (n:Nat) (cs:List A),(chunk sz n cs).length=n
 | 0,_=>rfl
 | n+1,cs=>by simp[chunk,dY sz n]
theorem pS(sz:Nat):∀ (n:Nat) (cs:List A) (i:Nat),i<n→(chunk sz n cs)[i]? =some ((cs.drop (i*sz)).take sz)
 | 0,_,_,h=>by omega
 | n+1,cs,0,_=>by simp[chunk]
 | n+1,cs,i+1,h=>by
  simp only[chunk,List.getElem?_cons_succ];rw[pS sz n _ i (by omega),List.drop_drop,Nat.add_mul,Nat.one_mul,Nat.add_comm]
theorem jH{α:Type}(l:List α):∀ (n k:Nat),k<n*l.length→((List.replicate n l).flatten)[k]? =l[k % l.length]?
 | 0,k,h=>by omega
 | n+1,k,h=>by
  rw[List.replicate_succ,List.flatten_cons]
  by_cases hk:k<l.length
  ·rw[List.getElem?_append_left hk,Nat.mod_eq_of_lt hk]
  ·rw[List.getElem?_append_right (by omega),jH l n (k - l.length) (by rw[Nat.add_mul]at h;omega)];congr 1;exact(Nat.mod_eq_sub_mod (by omega)).symm
theorem iG{α:Type}(l:List α)(n:Nat):((List.replicate n l).flatten).length=n*l.length:=by
 simp
theorem wG{x:A}{u:Value}(hv:VA w F ν x u)(ht:x.mI=true):VT w F x.tree u:=by
 cases x with
 | t x=>exact hv
 | tt sz rs=>exact hv.1
 | _=>simp[A.mI,A.tree?]at ht
theorem fresh(hs:Sim w F ν h nx)(hc:Calm w w')(hsz:w'.heap.size=w.heap.size+1)(hk:∀ b,b<w.heap.size→w'.heap[b]? =w.heap[b]?):
  Sim w' (fun b o=>F b o∨b=w.heap.size) ν h nx∧Frame w F ν w' (fun b o=>F b o∨b=w.heap.size) ν:=
 hs.ext hc (by omega) hk (fun _ _ h=> .inl h) (fun b o h=>by rcases h with h | h;exact .inl h;exact .inr ⟨by omega,by omega⟩)
theorem yJ{sz n:Nat}{cs:List A}{us:Nat→Value}{b cap:Nat}(hcap:n≤cap)(hl:cs.length=sz*n)(hc:∀ k,k<sz*n→w'.cell? ⟨b,k,none⟩=some (us k))(hF:∀ k,F' b k)
  (hv:∀ (k:Nat) x,cs[k]? =some x→x.mI=true∧VA w' F' ν x (us k)):
  VT w' F' (.rows sz ((chunk sz n cs).map (·.map A.tree))) (.slice (some ⟨b,0,none⟩) n cap):=by
 have hn:n=((chunk sz n cs).map (·.map A.tree)).length:=by simp[dY]
 have key:∀ i,i<n→(chunk sz n cs)[i]? =some ((cs.drop (i*sz)).take sz)∧((cs.drop (i*sz)).take sz).length=sz:=fun i hi=>by
  refine⟨pS sz n cs i hi,?_⟩;simp only[List.length_take,List.length_drop,hl];have:(i+1)*sz≤n*sz:=Nat.mul_le_mul_right _ hi;rw[Nat.add_mul,Nat.mul_comm n]at this;omega
 have hres:VT w' F' (.rows sz ((chunk sz n cs).map (·.map A.tree))) (.slice (some ⟨b,0,none⟩) ((chunk sz n cs).map (·.map A.tree)).length cap):=by
  refine lH (by rw[←hn];exact hcap) (fun r hr=>?_) fun i j r x hi hj=>?_
  ·obtain⟨r0,hr0,rfl⟩:=List.mem_map.1 hr;obtain⟨i,hi,hi2⟩:=List.getElem_of_mem hr0;rw[dY]at hi;have:=key i hi;rw[gE9 (by rw[dY];exact hi),hi2]at this;simp only[sI9]at this;rw[List.length_map,this.1];exact this.2
  ·rw[List.getElem?_map]at hi;simp only[oM9]at hi;obtain⟨r0,hi,rfl⟩:=hi;have hin:i<n:=by have:=(gS9.1 hi).1;rwa [dY]at this
   rw[(key i hin).1]at hi;simp only[sI9]at hi;subst hi;rw[List.getElem?_map]at hj;simp only[oM9]at hj;obtain⟨y,hy,rfl⟩:=hj;rw[List.getElem?_take]at hy;split at hy
   ·rename_i hjs;rw[List.getElem?_drop]at hy;have hk:i*sz+j<sz*n:=by rw[←hl];exact(gS9.1 hy).1
    obtain⟨h1,h2⟩:=hv _ _ hy;exact⟨us (i*sz+j),by rw[Nat.zero_add];exact hc _ hk,hF _,wG h2 h1⟩
   ·cases hy
 rw[←hn]at hres;exact hres
theorem wH(_hs:Sim w F ν h nx){t e:TypeId}{sz n:Nat}(hu:P.underlying t=some (.slice e))(hsz:szP P e=some sz){z:List A}(hz:jY P e=some z)(hzl:z.length=sz)(h0:0<sz)(hbig:n*sz≤16777216)
  {ps:Array (Nat×Operand)} {qs:List (Nat×Nat×X)} (ht:∀ t,VD w F ν (tm t) (a.tmps.getD t undef)) (hc:mJ P (fun i=>some (i*sz,sz,e)) ps.toList=some qs)
  (hok:jA ((List.replicate n z).flatten).length (qs.map fun(o,s,x)=>(o,s,x.ev tm))):
  ∃us:Array Value,(Instr.buildSlice t n (ps.map fun(i,x)=>(i,a.eval x))).run P w= .ok (.slice (some ⟨w.heap.size,0,none⟩) n n) (w.alloc (.cells us e))∧
   VL (VA w F ν) (iZ (List.replicate n z).flatten (qs.map fun(o,_,x)=>(o,(x.ev tm).cells))) us.toList∧
   (iZ (List.replicate n z).flatten (qs.map fun(o,_,x)=>(o,(x.ev tm).cells))).all A.good=true∧us.size=n*sz∧
   (iZ (List.replicate n z).flatten (qs.map fun(o,_,x)=>(o,(x.ev tm).cells))).length=n*sz:=by
 obtain⟨i,zv,h1,h2,h3,h4⟩:=iR (w:=w) (F:=F) (ν:=ν) hz;have hzs:zv.cells.size=sz:=by have:=h3.1;simp at this;omega
 have hbase:VL (VA w F ν) (List.replicate n z).flatten ((Array.range (n*sz)).map (zv.cells[· % zv.cells.size]!)).toList:=by
  refine⟨by simp[hzl],fun k x u hx hu=>?_⟩;have hk:k<n*z.length:=by have:=(gS9.1 hx).1;rwa [iG]at this
  rw[jH z n k hk]at hx;rw[Array.getElem?_toList,Array.getElem?_map,Array.getElem?_range,if_pos (by rw[hzl]at hk;exact hk)]at hu;simp only[Option.map_some,sI9]at hu;have hlt:k % sz<zv.cells.size:=by rw[hzs];exact Nat.mod_lt _ h0
  refine h3.2 (k % z.length) x u hx ?_;rw[hzl,←hu,hzs];simp[hlt]
 have hall:((List.replicate n z).flatten).all A.good=true:=by
  simp only[List.all_eq_true,List.mem_flatten,List.mem_replicate]at*;rintro x ⟨l,⟨_,rfl⟩,hx⟩;exact h4 x hx
 obtain⟨us,f1,f2,f3,f4⟩:=qY (place:=fun i=>some (i*sz,sz)) _ _ ht hc (fun j o s t hj=>by simp only[sI9,Prod.mk.injEq]at hj ⊢;exact⟨hj.1,hj.2.1⟩) hbase hall hok
 have hrun:(Instr.buildSlice t n (ps.map fun(i,x)=>(i,a.eval x))).run P w= .ok (.slice (some ⟨w.heap.size,0,none⟩) n n) (w.alloc (.cells us e)):=by
  have hb:¬ (16777216<n*sz):=by omega
  have f1':Instr.fill (fun i=>some (i*sz,sz)) ((Array.range (n*sz)).map (zv.cells[· % zv.cells.size]!)) (ps.toList.map fun(i,x)=>(i,a.eval x))=some us:=f1
  by_cases hn:n*sz=0
  ·have hn0:n=0:=by rcases Nat.mul_eq_zero.1 hn with h | h<;>omega
   subst hn0;simp only[Nat.zero_mul,Array.range_zero',Array.map_empty]at f1';simp[Instr.buildSlice,run_underlying hu,dB hsz,newRow,Array.range_zero',f1']
  ·simp[Instr.buildSlice,run_underlying hu,dB hsz,hb,hn,zeroValue,typeInfo,h1,h2,f1',newRow]
 have hl2:(iZ (List.replicate n z).flatten (qs.map fun(o,_,x)=>(o,(x.ev tm).cells))).length=n*sz:=by rw[f4,iG,hzl]
 refine⟨us,hrun,f2,f3,?_,hl2⟩;have:=f2.1;rw[hl2]at this;simpa using this.symm
theorem aJV(hs:Sim w F ν h nx){t e:TypeId}{sz n:Nat}(hu:P.underlying t=some (.slice e))(hsz:szP P e=some sz){z:List A}(hz:jY P e=some z)(hzl:z.length=sz)(h0:0<sz)(hbig:n*sz≤16777216)
  {ps:Array (Nat×Operand)} {qs:List (Nat×Nat×X)} (ht:∀ t,VD w F ν (tm t) (a.tmps.getD t undef)) (hc:mJ P (fun i=>some (i*sz,sz,e)) ps.toList=some qs)
  (hok:jA ((List.replicate n z).flatten).length (qs.map fun(o,s,x)=>(o,s,x.ev tm))) (htree:(iZ (List.replicate n z).flatten (qs.map fun(o,_,x)=>(o,(x.ev tm).cells))).all A.mI=true):
  ∃r w' F',(Instr.buildSlice t n (ps.map fun(i,x)=>(i,a.eval x))).run P w= .ok r w'∧Sim w' F' ν h nx∧Frame w F ν w' F' ν∧
   VD w' F' ν (.one (.tt sz ((chunk sz n (iZ (List.replicate n z).flatten (qs.map fun(o,_,x)=>(o,(x.ev tm).cells)))).map (·.map A.tree)))) r:=by
 obtain⟨us,hrun,f2,f3,aRP,f4⟩:=wH hs hu hsz hz hzl h0 hbig ht hc hok;obtain⟨g1,g2⟩:=fresh (w':=w.alloc (.cells us e)) hs (nN w _) (by simp) (fun b hb=>heap_alloc_old w _ hb);have hlen:us.size=sz*n:=by rw[aRP,Nat.mul_comm]
 refine⟨_,_,_,hrun,g1,g2,?_,_,by simp[dY];rfl⟩;refine yJ (ν:=ν) (us:=fun k=>us.getD k undef) (Nat.le_refl _) (by rw[f4,Nat.mul_comm]) (fun k hk=>?_) (fun k=> .inr rfl) (fun k x hx=>⟨List.all_eq_true.1 htree x (gM9 hx),?_⟩)
 ·rw[World.cell?_alloc_new];simp[hlen,hk]
 ·have hk:k<us.size:=by
   have:=(gS9.1 hx).1;rw[f4]at this;rw[hlen,Nat.mul_comm];exact this
  refine(f2.2 k x _ hx ?_).mono g2;simp[hk]
theorem aRQ(hs:Sim w F ν h nx){new:Nat}(hnew:h new=none)(hnx:new<nx){t e:TypeId}{sz bytes:Nat}(hu:P.underlying t=some (.slice e))(hsz:szP P e=some sz)(hby:byP P e=some bytes){z:List A}
  (hz:jY P e=some z) (hzl:z.length=sz) {x y:D} {u v:Value} (hx:VD w F ν x u) (hy:VD w F ν y v) (hg:z.all A.good=true) (h1:x.isInt) (h2:y.isInt) (h3:0≤x.int?.getD 0) (h4:x.int?.getD 0≤y.int?.getD 0)
  (h5:(bytes:Int)*y.int?.getD 0≤281474976710656) (h6:y.int?.getD 0≤9223372036854775807):
  ∃r w' ν',(Instr.makeSlice t u v).run P w= .ok r w'∧Sim w' F ν' (h.set new (.arr 0 false sz (List.replicate (x.int?.getD 0).toNat z))) nx∧Frame w F ν w' F ν'∧
   VD w' F ν' (.one (.ref new 0 0 (x.int?.getD 0).toNat sz (decide (x.int?.getD 0=y.int?.getD 0)))) r:=by
 obtain⟨kl,l,rfl,rfl⟩:=jL h1 hx;obtain⟨kc,c,rfl,rfl⟩:=jL h2 hy;simp only[D.int?,Option.getD_some]at*;obtain⟨i,zv,g1,g2,g3,g4⟩:=iR (w:=w) (F:=F) (ν:=ν) hz;obtain⟨i',hi',hi2⟩:=qW hsz;rw[g1]at hi';simp only[sI9]at hi';subst hi';have hby':i.bytes=bytes:=by unfold byP at hby;rw[g1]at hby;simpa using hby
 have hzs:zv.cells.size=sz:=by have:=g3.1;simp at this;omega
 have hrun:=run_make (P:=P) w t e i zv hu g1 g2 kl kc l c h3 h4 (by rw[hby'];exact h5) h6;rw[hi2]at hrun;have hsize:(madeCells zv.cells (c.toNat*sz)).size=c.toNat*sz:=size_madeCells _ _;have hlc:l.toNat*sz≤c.toNat*sz:=Nat.mul_le_mul_right _ (by omega)
 obtain⟨k1,k2⟩:=Sim.newObj (w':=w.alloc (.cells (madeCells zv.cells (c.toNat*sz)) e)) hs (nN w _) (by simp) (fun b hb=>heap_alloc_old w _ hb) hnew hnx (sz:=sz) (rs:=List.replicate l.toNat z) (e:=e)
  (n:=c.toNat*sz) (by unfold World.shape?;rw[heap_alloc_new];simp[hsize]) (fun o _=>by simp) (fun r hr=>by rw[List.eq_of_mem_replicate hr];exact hzl) (by simpa using hlc)
  (fun i j r q hi hj=>by
   have hr:r=z:=List.eq_of_mem_replicate (gM9 hi);subst hr;have hil:i<l.toNat:=by have:=(gS9.1 hi).1;simpa using this
   have hjs:j<sz:=by rw[←hzl];exact(gS9.1 hj).1
   have hk:i*sz+j<c.toNat*sz:=by
    have:(i+1)*sz≤c.toNat*sz:=Nat.mul_le_mul_right _ (by omega);rw[Nat.add_mul]at this;omega
   refine⟨List.all_eq_true.1 hg _ (gM9 hj),zv.cells[j]'(by omega),?_,g3.2 j q _ hj (by simp)⟩;rw[World.cell?_alloc_new,madeCells,Array.getElem?_map,Array.getElem?_range,if_pos hk];have hmod:(i*sz+j) % zv.cells.size=j:=by rw[hzs,Nat.add_comm,Nat.add_mul_mod_self_right];exact Nat.mod_eq_of_lt hjs
   have hjz:j<zv.cells.size:=by omega
   simp[hmod,hjz])
 refine⟨_,_,_,hrun,k1,k2,w.heap.size,0,Nu.cK _ _ _,.inr ⟨rfl,c.toNat,e,c.toNat*sz,by simp,fun hd=>?_,by omega,by unfold World.shape?;rw[heap_alloc_new];simp[hsize],by simp⟩⟩;have:=of_decide_eq_true hd;omega
theorem aMX(hs:Sim w F ν h nx){new:Nat}(hnew:h new=none)(hnx:new<nx){t e:TypeId}{sz n:Nat}(hu:P.underlying t=some (.slice e))(hsz:szP P e=some sz){z:List A}(hz:jY P e=some z)(hzl:z.length=sz)(h0:0<sz)(hbig:n*sz≤16777216)
  {ps:Array (Nat×Operand)} {qs:List (Nat×Nat×X)} (ht:∀ t,VD w F ν (tm t) (a.tmps.getD t undef)) (hc:mJ P (fun i=>some (i*sz,sz,e)) ps.toList=some qs)
  (hok:jA ((List.replicate n z).flatten).length (qs.map fun(o,s,x)=>(o,s,x.ev tm))):
  ∃r w' ν',(Instr.buildSlice t n (ps.map fun(i,x)=>(i,a.eval x))).run P w= .ok r w'∧Sim w' F ν' (h.set new (.arr 0 false sz (chunk sz n (iZ (List.replicate n z).flatten (qs.map fun(o,_,x)=>(o,(x.ev tm).cells)))))) nx∧Frame w F ν w' F ν'∧
   VD w' F ν' (.one (.ref new 0 0 n sz true)) r:=by
 obtain⟨us,hrun,hv,hg,hlen,hlz⟩:=wH hs hu hsz hz hzl h0 hbig ht hc hok;have hlz:(iZ (List.replicate n z).flatten (qs.map fun(o,_,x)=>(o,(x.ev tm).cells))).length=n*sz:=hlz;generalize (iZ (List.replicate n z).flatten (qs.map fun(o,_,x)=>(o,(x.ev tm).cells)))=cs at*
 have key:∀ i,i<n→((cs.drop (i*sz)).take sz).length=sz:=fun i hi=>by
  simp only[List.length_take,List.length_drop,hlz];have:(i+1)*sz≤n*sz:=Nat.mul_le_mul_right _ hi;rw[Nat.add_mul]at this;omega
 obtain⟨k1,k2⟩:=Sim.newObj (w':=w.alloc (.cells us e)) hs (nN w _) (by simp) (fun b hb=>heap_alloc_old w _ hb) hnew hnx (sz:=sz) (rs:=chunk sz n cs) (e:=e)
  (n:=n*sz) (by unfold World.shape?;rw[heap_alloc_new];simp[hlen]) (fun o _=>by simp) (fun r hr=>by
   obtain⟨i,hi,rfl⟩:=List.getElem_of_mem hr;rw[dY]at hi;have h:=pS sz n cs i hi;rw[gE9 (by rw[dY];exact hi),sI9]at h
   rw[h];exact key i hi) (by rw[dY];exact Nat.le_refl _)
  (fun i j r q hi hj=>by
   have hin:i<n:=by have:=(gS9.1 hi).1;rwa [dY]at this
   rw[pS sz n cs i hin]at hi;simp only[sI9]at hi;subst hi;rw[List.getElem?_take]at hj;split at hj
   ·rename_i hjs;rw[List.getElem?_drop]at hj;have hk:i*sz+j<us.size:=by rw[hlen,←hlz];exact(gS9.1 hj).1
    exact⟨List.all_eq_true.1 hg _ (gM9 hj),us[i*sz+j],by rw[World.cell?_alloc_new];simp[hk],hv.2 _ q _ hj (by simp)⟩
   ·cases hj)
 exact⟨_,_,_,hrun,k1,k2,w.heap.size,0,Nu.cK _ _ _,.inr ⟨rfl,n,e,n*sz,by simp,fun _=>rfl,by omega,by unfold World.shape?;rw[heap_alloc_new];simp[hlen],by simp⟩⟩
end
section
open Go
variable {P:Program} {w w':World} {F F':Fix} {ν:Nu} {h:Hp} {nx:Nat} {tm:Nat→D} {a:Act}
theorem rT(w:World)(ad:Addr)(n c:Nat)(hc:c≠ad.block):(w.freeze ad n).heap[c]? =w.heap[c]? :=by
 unfold World.freeze;split
 ·rfl
 ·simp only[Array.getElem?_modify];rw[if_neg (fun e=>hc e.symm)]
theorem aCR(w:World)(ad:Addr)(n:Nat)(x:Addr):(w.freeze ad n).cell? x=w.cell? x:=by
 unfold World.freeze;split
 ·rfl
 ·unfold World.cell?;simp only[Array.getElem?_modify]
  by_cases e:ad.block=x.block
  ·rw[if_pos e];cases hh:w.heap[x.block]? with
   | none=>simp
   | some o=>cases o<;>simp
  ·rw[if_neg e]
theorem aCS(w:World)(ad:Addr)(n:Nat):(w.freeze ad n).heap.size=w.heap.size:=by
 unfold World.freeze;split<;>simp
theorem yK(n m:Nat)(e:TypeId)(k:Nat):n≤(Question.appendCap n m e).cut k:=by
 simp[Question.cut]
theorem aHU(hs:Sim w F ν h nx){src dst e:TypeId}(hu1:P.underlying src=some .string)(hu2:P.underlying dst=some (.slice e))(hu3:P.underlying e=some (.int .u8)){x:D}{v:Value}(hv:VD w F ν x v)(hok:x.isStr):
  ∃r w' F',(convert src dst v).run P w= .ok r w'∧Sim w' F' ν h nx∧Frame w F ν w' F' ν∧VD w' F' ν (.one (.t (.rows 1 (eO x.str)))) r:=by
 obtain⟨s,rfl,rfl⟩:=tG hok hv;have hcap:=yK s.size 0 e (w.tape w.drawn (.appendCap s.size 0 e));generalize hcp:(Question.appendCap s.size 0 e).cut (w.tape w.drawn (.appendCap s.size 0 e))=cap at hcap
 let c:Array Value:=(s.data.map fun b=>Value.int .u8 b.toNat)++Array.replicate (cap - s.size) (Value.int .u8 0)
 have hsize:s.data.size=s.size:=rfl
 have hrun:(convert src dst (.string s)).run P w= .ok (.slice (some ⟨w.heap.size,0,none⟩) s.size cap) ((w.drew.alloc (.cells c e)).freeze ⟨w.heap.size,c.size,none⟩ 1):=by
  have hsh:(w.drew.alloc (.cells c e)).shape? w.heap.size=some (e,c.size):=by
   unfold World.shape?;have:=heap_alloc_new w.drew (.cells c e);rw[show w.drew.heap.size=w.heap.size from rfl]at this;rw[this]
  simp only[convert,Sem.run_bind,run_underlying hu1,run_underlying hu2,Result.andThen_ok,run_underlying hu3,Conv.stringToBytes,run_choose,Question.forced,Bool.false_eq_true,if_false,hcp,newRow,run_newObj,markStringish,run_shape,
   Sem.run_pure,World.drew_eq,World.alloc_eq]
  rw[show w.drew.heap.size=w.heap.size from rfl,hsh];simp[c]
 have hold:∀ b,b<w.heap.size→((w.drew.alloc (.cells c e)).freeze ⟨w.heap.size,c.size,none⟩ 1).heap[b]? =w.heap[b]? :=fun b hb=>by
  rw[rT _ _ _ _ (by simp;omega)];exact heap_alloc_old w.drew _ hb
 obtain⟨g1,g2⟩:=fresh (w':=(w.drew.alloc (.cells c e)).freeze ⟨w.heap.size,c.size,none⟩ 1) hs ⟨by simp[World.freeze];rfl,by simp[World.freeze],by simp[World.freeze];rfl⟩ (by rw[aCS];simp) hold;refine⟨_,_,_,hrun,g1,g2,?_⟩;have hlen:(eO s).length=s.size:=by simp[eO]
 show VT _ _ (.rows 1 (eO s)) _;rw[←hlen];refine lH (by rw[hlen];exact hcap) (fun r hr=>?_) fun i j r y hi hj=>?_
 ·obtain⟨b,_,rfl⟩:=List.mem_map.1 hr;rfl
 ·simp only[eO,List.getElem?_map,oM9]at hi;obtain⟨b,hb,rfl⟩:=hi;cases j with
  | succ j=>simp at hj
  | zero=>
   simp only[List.getElem?_cons_zero,sI9]at hj;subst hj;refine⟨.int .u8 b.toNat,?_,.inr rfl,.int _ _⟩;rw[aCR];have:=World.cell?_alloc_new w.drew c e (0+i*1+0);rw[show w.drew.heap.size=w.heap.size from rfl]at this;rw[this];have hi2:i<s.size:=by have:=(gS9.1 hb).1;simpa using this
   have hb2:s.data[i]? =some b:=by simpa using hb
   have hb3:s.data[i]'hi2=b:=by
    have h0:s.data[i]? =some (s.data[i]'hi2):=Array.getElem?_eq_getElem hi2;rw[h0]at hb2;exact Option.some.inj hb2
   simp[c,Array.getElem?_append,hi2];rw[hb3]
theorem pT(hs:Sim w F ν h nx){sz:Nat}{x:D}{v:Value}(hv:VD w F ν x v)(hok:x.lF h sz):
  (x.rowsOf h).length=x.len∧(∀r∈x.rowsOf h,r.length=sz)∧∃news:List Value,news.length=x.len*sz∧(∀w2:World,w2.heap=w.heap→(Builtin.lenOf v).run P w2= .ok x.len w2∧(Builtin.firstCells sz x.len v).run P w2= .ok news.toArray w2)∧
   ∀(i j:Nat) r y,(x.rowsOf h)[i]? =some r→r[j]? =some y→y.good=true∧∃u,news[i*sz+j]? =some u∧VA w F ν y u:=by
 have core:∀ (rows:List (List A)) (b off:Nat) (cap:Nat),(∀r∈rows,r.length=sz)→(∀(i j:Nat) r y,rows[i]? =some r→r[j]? =some y→y.good=true∧∃u,w.cell? ⟨b,off+i*sz+j,none⟩=some u∧VA w F ν y u)→
   ∃news:List Value,news.length=rows.length*sz∧(∀w2:World,w2.heap=w.heap→(Builtin.lenOf (.slice (some ⟨b,off,none⟩) rows.length cap)).run P w2= .ok rows.length w2∧(Builtin.firstCells sz rows.length (.slice (some ⟨b,off,none⟩) rows.length cap)).run P w2= .ok news.toArray w2)∧
   ∀(i j:Nat) r y,rows[i]? =some r→r[j]? =some y→y.good=true∧∃u,news[i*sz+j]? =some u∧VA w F ν y u:=by
  intro rows b off cap h1 h2
  obtain⟨news,n1,n2⟩:=vW (n:=rows.length*sz) (Q:=fun k u=>w.cell? ⟨b,off+k,none⟩=some u) fun k hk=>by
   have hsz:0<sz:=by
    rcases Nat.eq_zero_or_pos sz with e | e
    ·rw[e,Nat.mul_zero]at hk;omega
    ·exact e
   have hi:k / sz<rows.length:=by rw[Nat.div_lt_iff_lt_mul hsz];exact hk
   have hr:rows[k / sz]? =some rows[k / sz]:=gE9 hi;have hj:k % sz<rows[k / sz].length:=by rw[h1 _ (gL9 hi)];exact Nat.mod_lt _ hsz
   obtain⟨_,u,h3,_⟩:=h2 _ _ _ _ hr (gE9 hj);refine⟨u,?_⟩;rw[Nat.add_assoc,Nat.mul_comm,Nat.div_add_mod]at h3;exact h3
  refine⟨news,n1,fun w2 hw2=>⟨rfl,?_⟩,fun i j r y hi hj=>?_⟩
  ·refine run_firstCells_some (P:=P) w2 sz rows.length ⟨b,off,none⟩ _ _ news n1 fun j u hu=>?_
   rw[Addr.add_mid];have:=n2 j u hu;unfold World.cell? at this ⊢;rw[hw2];exact this
  ·obtain⟨h3,u,h4,h5⟩:=h2 i j r y hi hj;have hjs:j<sz:=by rw[←h1 r (gM9 hi)];exact(gS9.1 hj).1
   have hil:=(gS9.1 hi).1
   have hk:i*sz+j<news.length:=by
    rw[n1];have:(i+1)*sz≤rows.length*sz:=Nat.mul_le_mul_right _ hil;rw[Nat.add_mul]at this;omega
   have h6:=n2 _ _ (gE9 hk);rw[←Nat.add_assoc,h4]at h6;simp only[sI9]at h6;exact⟨h3,news[i*sz+j],gE9 hk,h6▸h5⟩
 have empty:∀ (b:Option Addr) (cap:Nat) (w2:World),(Builtin.lenOf (.slice b 0 cap)).run P w2= .ok 0 w2∧(Builtin.firstCells sz 0 (.slice b 0 cap)).run P w2= .ok (([]:List Value)).toArray w2:=fun b cap w2=>by
  refine⟨rfl,?_⟩;cases b with
  | none=>rfl
  | some b=>exact run_firstCells_some (P:=P) w2 sz 0 b 0 cap [] (by simp) (fun j u hu=>by simp at hu)
 have tree:∀ (rs:List (List T)) (v:Value),VT w F (.rows sz rs) v→(rs.map (·.map A.t)).length=rs.length∧(∀r∈rs.map (·.map A.t),r.length=sz)∧∃news:List Value,news.length=rs.length*sz∧
   (∀w2:World,w2.heap=w.heap→(Builtin.lenOf v).run P w2= .ok rs.length w2∧(Builtin.firstCells sz rs.length v).run P w2= .ok news.toArray w2)∧
   ∀(i j:Nat) r y,(rs.map (·.map A.t))[i]? =some r→r[j]? =some y→y.good=true∧∃u,news[i*sz+j]? =some u∧VA w F ν y u:=by
  intro rs v hv;obtain⟨b,cap,rfl,hcap,h1,h2⟩:=lX hv
  have hl:∀ r∈rs.map (·.map A.t),r.length=sz:=fun r hr=>by
   obtain⟨r0,hr0,rfl⟩:=List.mem_map.1 hr;simpa using h1 r0 hr0
  refine⟨by simp,hl,?_⟩
  by_cases e:rs=[]
  ·subst e;exact⟨[],by simp,fun w2 _=>empty b cap w2,fun i j r y hi=>by simp at hi⟩
  ·obtain⟨bb,off,rfl,h3⟩:=h2 e
   have:=core (rs.map (·.map A.t)) bb off cap hl (fun i j r y hi hj=>by
    rw[List.getElem?_map]at hi;simp only[oM9]at hi;obtain⟨r0,hi,rfl⟩:=hi;rw[List.getElem?_map]at hj;simp only[oM9]at hj;obtain⟨z,hj,rfl⟩:=hj;obtain⟨u,h4,_,h5⟩:=h3 i j r0 z hi hj
    exact⟨rfl,u,h4,h5⟩)
   simpa using this
 unfold D.lF at hok;split at hok
 ·rename_i sz' rs;subst hok;exact tree rs v hv
 ·rename_i sz' rs;subst hok;exact tree rs v hv.1
 ·rename_i id ver off len sz' tight;obtain⟨rfl,ha,hsz,hlen⟩:=hok;obtain⟨b,ver',h1,h2⟩:=hv;obtain⟨b',e',m,h3,h4,h5,h6,h7,h8,h9⟩:=hs.obj _ _ (gU ha);rw[h1]at h3;simp only[sI9,Prod.mk.injEq]at h3;obtain⟨rfl,rfl⟩:=h3;rcases h2 with⟨h2,_⟩ | ⟨_,cap,e1,n,rfl,_,hcap,_⟩
  ·omega
  ·have hl:(((h.rows id).drop off).take len).length=len:=by simp;omega
   have hr:∀ r∈((h.rows id).drop off).take len,r.length=sz:=fun r hr=>by rw[h6 r (List.mem_of_mem_drop (List.mem_of_mem_take hr)),hsz]
   refine⟨hl,hr,?_⟩
   have:=core (((h.rows id).drop off).take len) b (off*sz) cap hr (fun i j r y hi hj=>by
    rw[List.getElem?_take]at hi;split at hi
    ·rw[List.getElem?_drop]at hi;obtain⟨g1,u,g2,g3⟩:=h8 _ j r y hi hj;rw[hsz,Nat.add_mul]at g2;exact⟨g1,u,g2,g3⟩
    ·cases hi)
   rw[hl]at this;exact this
 ·rename_i s;subst hok;simp only[VD,VA,qV]at hv;subst hv;have hl:(eO s).length=s.size:=by simp[eO]
  refine⟨by simpa[D.rowsOf,D.len]using hl,fun r hr=>?_,(s.data.toList.map fun b=>Value.int .u8 b.toNat),by simp[D.len],fun w2 _=>⟨rfl,?_⟩,fun i j r y hi hj=>?_⟩
  ·simp only[D.rowsOf,eO,List.map_map,List.mem_map]at hr;obtain⟨b,_,rfl⟩:=hr;rfl
  ·have hx:s.extract 0 s.size=s:=by simp
   simp only[Builtin.firstCells,D.len,hx,Sem.run_pure];congr 1;apply Array.ext';simp
  ·simp only[D.rowsOf,eO,List.map_map,List.getElem?_map,oM9]at hi;obtain⟨b,hb,rfl⟩:=hi;cases j with
   | succ j=>simp at hj
   | zero=>
    simp at hj;subst hj;exact⟨rfl,.int .u8 b.toNat,by simp[hb],.int _ _⟩
 ·exact hok.elim
end
section
open Go
variable {P:Program} {w w':World} {F F':Fix} {ν:Nu} {h:Hp} {nx:Nat} {tm:Nat→D} {a:Act}
theorem oR{t t2 ty e:TypeId}{sz:Nat}(hu:P.underlying t=some (.slice e))(hu2:P.underlying t2=some .string∨∃e',P.underlying t2=some (.slice e'))(hsz:szP P e=some sz){x:Value}{n:Nat}{news:List Value}
  (hl:(Builtin.lenOf x).run P w= .ok n w) (hf:(Builtin.firstCells sz n x).run P w= .ok news.toArray w) (base:Option Addr) (oS vG:Nat) (hfit:oS+n≤vG) (w':World)
  (hst:(match base with | some b=>storeCells (b.add (oS*sz)) news | none=>pure ()).run P w= .ok () w'):
  (Builtin.append_ #[t,t2] ty #[.slice base oS vG,x]).run P w= .ok (.slice base (oS+n) vG) w':=by
 rcases hu2 with hd | ⟨e',hd⟩<;>cases base with
 | none=>
  simp only[Sem.run_pure,Result.ok.injEq,true_and]at hst;subst hst;simp[Builtin.append_,run_underlying hu,run_underlying hd,dB hsz,hl,hfit,hf]
 | some b=>
  simp[Builtin.append_,run_underlying hu,run_underlying hd,dB hsz,hl,hfit,hf,hst]
theorem oI{t t2 ty e:TypeId}{sz:Nat}{i:TypeInfo}{z:Value}(hu:P.underlying t=some (.slice e))(hu2:P.underlying t2=some .string∨∃e',P.underlying t2=some (.slice e'))(hsz:szP P e=some sz)(hi:P.info? e=some i)(hz0:i.zero=some z)
  {x:Value} {n:Nat} {news olds:List Value} (hl:(Builtin.lenOf x).run P w= .ok n w) (base:Option Addr) (oS vG:Nat) (hf:(Builtin.firstCells sz n x).run P w.drew= .ok news.toArray w.drew)
  (hfo:(Builtin.firstCells sz oS (.slice base oS vG)).run P w.drew= .ok olds.toArray w.drew) (hmore:vG<oS+n) (hb0:0<i.bytes) (hb:(oS+n)*i.bytes≤140737488355328):
  (Builtin.append_ #[t,t2] ty #[.slice base oS vG,x]).run P w= .ok (.slice (some ⟨w.heap.size,0,none⟩) (oS+n) (grownCap w (oS+n) vG e))
   (w.drew.alloc (.cells (olds.toArray++news.toArray++Builtin.zeroCells z.cells (grownCap w (oS+n) vG e - (oS+n))) e)):=by
 have h1:¬ (oS+n≤vG):=by omega
 have h48:¬ (281474976710656<Builtin.nextslicecap (oS+n) vG*i.bytes):=by have:=growslice_fits (need:=oS+n) (old:=vG) (bytes:=i.bytes) (by omega) hb;omega
 have hb1:¬ i.bytes=0:=by omega
 rcases hu2 with hd | ⟨e',hd⟩<;>simp[Builtin.append_,run_underlying hu,run_underlying hd,dB hsz,hl,h1,typeInfo,hi,hz0,zeroValue,h48,hb1,Question.forced,hf,hfo,newRow,grownCap]<;>
  (congr 2;apply Array.ext';simp[List.append_assoc])
theorem nO(w:World)(n m:Nat)(e:TypeId):n≤grownCap w n m e:=by simp[grownCap,Question.cut]
theorem rU{sz:Nat}{R:A→Value→Prop}{r1 r2:List (List A)}{c1 c2:List Value}(h1:c1.length=r1.length*sz)
  (k1:∀ (i j:Nat) r y,r1[i]? =some r→r[j]? =some y→y.good=true∧∃u,c1[i*sz+j]? =some u∧R y u)
  (k2:∀ (i j:Nat) r y,r2[i]? =some r→r[j]? =some y→y.good=true∧∃u,c2[i*sz+j]? =some u∧R y u):
  ∀(i j:Nat) r y,(r1++r2)[i]? =some r→r[j]? =some y→y.good=true∧∃u,(c1++c2)[i*sz+j]? =some u∧R y u:=by
 intro i j r y hi hj;rw[List.getElem?_append]at hi;split at hi
 ·rename_i hlt;obtain⟨g1,u,g2,g3⟩:=k1 i j r y hi hj;exact⟨g1,u,by rw[List.getElem?_append_left (gS9.1 g2).1];exact g2,g3⟩
 ·rename_i hge;obtain⟨g1,u,g2,g3⟩:=k2 _ j r y hi hj;refine⟨g1,u,?_,g3⟩;have:i*sz=r1.length*sz+(i - r1.length)*sz:=by rw[←Nat.add_mul];congr 1;omega
  rw[List.getElem?_append_right (by omega),h1,this,Nat.add_assoc,Nat.add_sub_cancel_left];exact g2
theorem aRR(hs:Sim w F ν h nx){new:Nat}(hnew:h new=none)(hnx:new<nx){grow:Bool}{t t2 ty e:TypeId}{sz bytes:Nat}(hu:P.underlying t=some (.slice e))(hu2:P.underlying t2=some .string∨∃e',P.underlying t2=some (.slice e'))
  (hsz:szP P e=some sz) (hby:byP P e=some bytes) {zz:Value} {ii:TypeInfo} (hi:P.info? e=some ii) (hz:ii.zero=some zz) (hzz:zz.cells.size=sz) (aJW:0<sz) {x y:D} {u v:Value} (hx:VD w F ν x u) (hy:VD w F ν y v)
  (h1:y.lF h sz) (h2:0<bytes) (h3:(x.len+y.len)*bytes≤140737488355328)
  (h4:x.aH3 h sz) (h5:x.vV y h grow):
  ∃r w' F' ν',(Builtin.append_ #[t,t2] ty #[u,v]).run P w= .ok r w'∧Sim w' F' ν' (x.qS y h new sz grow) nx∧Frame w F ν w' F' ν'∧VD w' F' ν' (x.tF y h new sz grow) r:=by
 have hby':ii.bytes=bytes:=by unfold byP at hby;rw[hi]at hby;simpa using hby
 obtain⟨c1,c2,news,c3,c4,c5⟩:=pT (P:=P) hs hy h1;obtain⟨d1,d2⟩:=c4 w rfl;obtain⟨_,d4⟩:=c4 w.drew rfl
 have hform:(∃rs,x= .one (.tt sz rs))∨(∃id ver,x= .one (.ref id ver 0 (h.rows id).length sz false)∧alive h id ver∧h.sz id=sz):=by
  unfold D.aH3 at h4;split at h4
  ·subst h4;exact .inl ⟨_,rfl⟩
  ·obtain⟨rfl,ha,hosz,rfl,rfl,rfl⟩:=h4;exact .inr ⟨_,_,rfl,ha,hosz⟩
  ·exact h4.elim
 clear h4;rcases hform with⟨rs,rfl⟩ | ⟨id,aPC,rfl,ha,hosz⟩
 ·-- onto a tree that is full
  simp only[D.vV]at h5;simp only[D.tF,D.qS];have hxt:VD w F ν (.one (.t (.rows sz rs))) u:=hx.1;obtain⟨_,b,rfl⟩:=hx;obtain⟨e1,e2,olds,e3,e4,e5⟩:=pT (P:=P) hs hxt (sz:=sz) rfl;have h3:(rs.length+y.len)*bytes≤140737488355328:=h3;simp only[D.len]at e3 e4;have e2:∀ r∈rs.map (·.map A.t),r.length=sz:=e2;have e5:∀ (i j:Nat) r y,(rs.map (·.map A.t))[i]? =some r→r[j]? =some y→y.good=true∧∃u,olds[i*sz+j]? =some u∧VA w F ν y u:=e5;obtain⟨_,e6⟩:=e4 w.drew rfl
  by_cases hn:y.len=0
  ·-- nothing is appended
   have hrows:y.rowsOf h=[]:=List.eq_nil_of_length_eq_zero (by omega);have hnews:news=[]:=List.eq_nil_of_length_eq_zero (by rw[c3,hn,Nat.zero_mul]);rw[hn]at d1 d2;refine⟨.slice b (rs.length+0) rs.length,w,F,ν,?_,by cases grow<;>simpa[hn]using hs,Frame.refl _ _ _,?_⟩
   ·refine oR hu hu2 hsz d1 d2 b _ _ (by omega) w ?_;rw[hnews];cases b<;>simp[storeCells]
   ·cases grow with
    | true=>simp only[hn,if_true,Nat.add_zero];exact⟨hxt,b,rfl⟩
    | false=>simp only[hrows,Bool.false_eq_true,if_false,List.map_nil,List.append_nil,Nat.add_zero];exact hxt
  ·have hrun:=oI (ty:=ty) hu hu2 hsz hi hz d1 b rs.length rs.length d4 e6 (by omega) (by omega) (by rw[hby'];exact h3);have hcap:=nO w (rs.length+y.len) rs.length e;generalize hgc:grownCap w (rs.length+y.len) rs.length e=cap at hrun hcap;obtain⟨cells,hcs⟩:∃ cells,olds.toArray++news.toArray++Builtin.zeroCells zz.cells (cap - (rs.length+y.len))=cells:=⟨_,rfl⟩;rw[hcs]at hrun
   have hcsz:(rs.length+y.len)*sz+(cap - (rs.length+y.len))*zz.cells.size=cells.size:=by
    rw[←hcs];simp[Builtin.zeroCells,e3,c3,Nat.add_mul]
   have hcell:∀ k u,(olds++news)[k]? =some u→(w.drew.alloc (.cells cells e)).cell? ⟨w.heap.size,k,none⟩=some u:=fun k u hk=>by
    have:=World.cell?_alloc_new w.drew cells e k;rw[show w.drew.heap.size=w.heap.size from rfl]at this;rw[this,←hcs,Array.getElem?_append_left]
    ·simpa using hk
    ·have:=(gS9.1 hk).1;simpa using this
   have hall:=rU (sz:=sz) (by rw[e3,List.length_map]) e5 c5;cases grow with
   | true=>
    simp only[hn,if_true,if_false]
    obtain⟨k1,k2⟩:=Sim.newObj (w':=w.drew.alloc (.cells cells e)) hs (iL w _) (by simp) (fun b hb=>heap_alloc_old w.drew _ hb) hnew hnx (sz:=sz) (rs:=rs.map (·.map .t)++y.rowsOf h) (e:=e)
     (n:=cells.size) (by unfold World.shape?;have:=heap_alloc_new w.drew (.cells cells e);rw[show w.drew.heap.size=w.heap.size from rfl]at this;rw[this])
     (fun o _=>by have:=World.frozen?_alloc_new w.drew cells e o;rw[show w.drew.heap.size=w.heap.size from rfl]at this;exact this)
     (fun r hr=>by rcases List.mem_append.1 hr with hr | hr;exact e2 r hr;exact c2 r hr)
     (by rw[←hcs];simp[e3,c3,c1];rw[Nat.add_mul];omega)
     (fun i j r q hi hj=>by
      obtain⟨g1,u,g2,g3⟩:=hall i j r q hi hj
      exact⟨g1,u,hcell _ _ g2,g3⟩)
    refine⟨_,_,F,_,hrun,k1,k2,w.heap.size,0,Nu.cK _ _ _,.inr ⟨rfl,cap,e,cells.size,by simp,by simp,hcap,?_,?_⟩⟩
    ·unfold World.shape?;have:=heap_alloc_new w.drew (.cells cells e);rw[show w.drew.heap.size=w.heap.size from rfl]at this;rw[this]
    ·rw[←hcsz,hzz,←Nat.add_mul];exact Nat.le_of_eq (by congr 1;omega)
   | false=>
    simp only[Bool.false_eq_true,if_false]at h5;obtain⟨k1,k2⟩:=fresh (w':=w.drew.alloc (.cells cells e)) hs (iL w _) (by simp) (fun b hb=>heap_alloc_old w.drew _ hb);refine⟨_,_,_,ν,hrun,by simpa using k1,k2,?_⟩;simp only[Bool.false_eq_true,if_false];show VT _ _ (.rows sz (rs++(y.rowsOf h).map (·.map A.tree))) _;have hlen:rs.length+y.len=(rs++(y.rowsOf h).map (·.map A.tree)).length:=by simp[c1]
    rw[hlen]at hcap ⊢;obtain⟨_,_,_,_,hrl,_⟩:=lX (hxt:VT w F (.rows sz rs) _);refine lH hcap (fun r hr=>?_) fun i j r q hi hj=>?_
    ·rcases List.mem_append.1 hr with hr | hr
     ·exact hrl r hr
     ·obtain⟨r0,hr0,rfl⟩:=List.mem_map.1 hr;rw[List.length_map];exact c2 r0 hr0
    ·have hmap:(rs++(y.rowsOf h).map (·.map A.tree))=(rs.map (·.map A.t)++y.rowsOf h).map (·.map A.tree):=by
      simp only[List.map_append,List.map_map];congr 1;rw[List.map_congr_left (g:=id)]
      ·simp
      ·intro r _;simp only[Function.comp_apply,List.map_map,id];rw[List.map_congr_left (g:=id)]
       ·simp
       ·intro x _;rfl
     rw[hmap,List.getElem?_map]at hi;simp only[oM9]at hi;obtain⟨r0,hi,rfl⟩:=hi;rw[List.getElem?_map]at hj;simp only[oM9]at hj;obtain⟨q0,hj,rfl⟩:=hj;obtain⟨g1,u,g2,g3⟩:=hall i j r0 q0 hi hj;refine⟨u,by rw[Nat.zero_add];exact hcell _ _ g2,.inr rfl,wG (g3.mono k2) ?_⟩;have hr0:=gM9 hi;rcases List.mem_append.1 hr0 with hr0 | hr0
     ·obtain⟨r1,_,rfl⟩:=List.mem_map.1 hr0;rw[List.getElem?_map]at hj;simp only[oM9]at hj;obtain⟨q1,_,rfl⟩:=hj;rfl
     ·exact List.all_eq_true.1 (h5 r0 hr0) q0 (gM9 hj)
 ·-- onto a slice of the call's own
  simp only[D.tF,D.qS];obtain⟨b,ver,g1,g2⟩:=hx;obtain⟨b',e',m,g3,g4,g5,g6,g7,g8,g9⟩:=hs.obj _ _ (gU ha);rw[g1]at g3;simp only[sI9,Prod.mk.injEq]at g3;obtain⟨rfl,rfl⟩:=g3;rw[hosz]at g6 g7 g8 g9;rcases g2 with⟨g2,_⟩ | ⟨_,cap,e1,n,rfl,_,hcap,hsh,hn⟩
  ·omega
  rw[g4]at hsh;simp only[sI9,Prod.mk.injEq]at hsh;obtain⟨rfl,rfl⟩:=hsh;simp only[Nat.zero_add]at hn;simp only[Nat.zero_mul];have h3:((h.rows id).length+y.len)*bytes≤140737488355328:=h3;have hb:=hs.fY g1
  by_cases hfit:(h.rows id).length+y.len≤cap
  ·-- in place
   have hroom:(h.rows id).length*sz+y.len*sz≤m:=by
    have:((h.rows id).length+y.len)*sz≤cap*sz:=Nat.mul_le_mul_right _ hfit;rw[Nat.add_mul]at this;omega
   have hcells:∀ j,j<news.length→(w.cell? ⟨b,(h.rows id).length*sz+j,none⟩).isSome=true∧w.frozen? ⟨b,(h.rows id).length*sz+j,none⟩=false:=fun j hj=>
    ⟨uH g4 (by omega),g5 _ (by omega)⟩
   have hone:∀ u∈news,u.oneCell'=true:=fun u hu=>by
    obtain⟨k,hk,rfl⟩:=List.getElem_of_mem hu;rw[c3]at hk;have hi1:k / sz<(y.rowsOf h).length:=by rw[c1,Nat.div_lt_iff_lt_mul aJW];exact hk
    have hr:(y.rowsOf h)[k / sz]? =some (y.rowsOf h)[k / sz]:=gE9 hi1;have hj1:k % sz<(y.rowsOf h)[k / sz].length:=by rw[c2 _ (gL9 hi1)];exact Nat.mod_lt _ aJW
    obtain⟨q1,u,q2,q3⟩:=c5 _ _ _ _ hr (gE9 hj1);rw[Nat.mul_comm,Nat.div_add_mod,gE9 (by omega)]at q2;simp only[sI9]at q2;rw[q2];exact VA.jS q3 q1
   have hrun:=oR (P:=P) (ty:=ty) hu hu2 hsz d1 d2 (some ⟨b,0,none⟩) (h.rows id).length cap hfit (w.setCells b ((h.rows id).length*sz) news) (by
    simp only[Addr.add_mid,Nat.zero_add];have:=run_storeCells_cells (P:=P) b ((h.rows id).length*sz) news 0 w (fun j hj=>by simpa using(hcells j hj).1) (fun j hj=>by simpa using(hcells j hj).2) hone
    simpa using this)
   have hkeep:∀ k,k<(h.rows id).length*sz→(w.setCells b ((h.rows id).length*sz) news).cell? ⟨b,k,none⟩=w.cell? ⟨b,k,none⟩:=fun k hk=>by
    rw[jU (fun j hj=>(hcells j hj).1),if_neg (by omega)]
   obtain⟨k1,k2⟩:=Sim.touch (w':=w.setCells b ((h.rows id).length*sz) news) hs (mL b _ _ _) (b':=b) (ver':=ver+1) (sz:=sz) (n:=m) (shut:=h.shut id)
    (rs:=h.rows id++y.rowsOf h) (e:=e') g1 (by rw[iF];exact Nat.le_refl _) (fun c _ hc=>iA b _ _ _ c hc) (fun s hs'=>by rw[fS];exact hs')
    (fun o hFo=>hkeep o (g9 o hFo).2) (.inl rfl) (by rw[iF];exact hb) (by omega) (fun e=>by omega) (by rw[fS];exact g4) (fun o ho=>by rw[World.frozen?_setCells];exact g5 o ho)
    (fun r hr=>by rcases List.mem_append.1 hr with hr | hr;exact g6 r hr;exact c2 r hr)
    (by rw[List.length_append,c1,Nat.add_mul];exact hroom)
    (fun i j r q hi hj=>by
     rw[List.getElem?_append]at hi;split at hi
     ·rename_i hlt;obtain⟨q1,u,q2,q3⟩:=g8 i j r q hi hj;have hjs:j<sz:=by rw[←g6 r (gM9 hi)];exact(gS9.1 hj).1
      have:(i+1)*sz≤(h.rows id).length*sz:=Nat.mul_le_mul_right _ hlt;rw[Nat.add_mul]at this;exact⟨q1,u,by rw[hkeep _ (by omega)];exact q2,q3⟩
     ·obtain⟨q1,u,q2,q3⟩:=c5 _ j r q hi hj;refine⟨q1,u,?_,q3⟩;have hlt:=(gS9.1 q2).1;have:i*sz=(h.rows id).length*sz+(i - (h.rows id).length)*sz:=by rw[←Nat.add_mul];congr 1;omega
      rw[jU (fun j hj=>(hcells j hj).1),if_pos (by omega),this,Nat.add_assoc,Nat.add_sub_cancel_left]
      exact q2)
    (fun o hFo=>⟨(g9 o hFo).1,by have:=(g9 o hFo).2;rw[List.length_append,Nat.add_mul];omega⟩)
   exact⟨_,_,F,_,hrun,k1,k2,b,ver+1,Nu.cK _ _ _,.inr ⟨rfl,cap,e',m,by simp,by simp,hfit,by rw[fS];exact g4,by simpa using hn⟩⟩
  ·-- moved
   have hxv:VD w F ν (.one (.ref id ver 0 (h.rows id).length sz false)) (.slice (some ⟨b,0,none⟩) (h.rows id).length cap):=
    ⟨b,ver,g1,.inr ⟨rfl,cap,e',m,by simp,by simp,hcap,g4,by simpa using hn⟩⟩
   obtain⟨e1,e2,olds,e3,e4,e5⟩:=pT (P:=P) hs hxv (sz:=sz) ⟨rfl,ha,hosz,by simp⟩;simp only[D.len]at e1 e3 e4;simp only[D.rowsOf,List.drop_zero,List.take_length]at e1 e2 e5;obtain⟨_,e6⟩:=e4 w.drew rfl;have hrun:=oI (ty:=ty) hu hu2 hsz hi hz d1 (some ⟨b,0,none⟩) (h.rows id).length cap d4 e6 (by omega) (by omega) (by rw[hby'];exact h3);have aOY:=nO w ((h.rows id).length+y.len) cap e;generalize hgc:grownCap w ((h.rows id).length+y.len) cap e=aPI at hrun aOY;obtain⟨cells,hcs⟩:∃ cells,olds.toArray++news.toArray++Builtin.zeroCells zz.cells (aPI - ((h.rows id).length+y.len))=cells:=⟨_,rfl⟩;rw[hcs]at hrun
   have hcsz:((h.rows id).length+y.len)*sz+(aPI - ((h.rows id).length+y.len))*zz.cells.size=cells.size:=by
    rw[←hcs];simp[Builtin.zeroCells,e3,c3,Nat.add_mul]
   have hcell:∀ k u,(olds++news)[k]? =some u→(w.drew.alloc (.cells cells e)).cell? ⟨w.heap.size,k,none⟩=some u:=fun k u hk=>by
    have:=World.cell?_alloc_new w.drew cells e k;rw[show w.drew.heap.size=w.heap.size from rfl]at this;rw[this,←hcs,Array.getElem?_append_left]
    ·simpa using hk
    ·have:=(gS9.1 hk).1;simpa using this
   have hall:=rU (sz:=sz) e3 e5 c5;have hold:∀ c,c<w.heap.size→(w.drew.alloc (.cells cells e)).heap[c]? =w.heap[c]? :=fun c hc=>heap_alloc_old w.drew _ hc
   have hshn:(w.drew.alloc (.cells cells e)).shape? w.heap.size=some (e,cells.size):=by
    unfold World.shape?;have:=heap_alloc_new w.drew (.cells cells e);rw[show w.drew.heap.size=w.heap.size from rfl]at this;rw[this]
   obtain⟨k1,k2⟩:=Sim.touch (w':=w.drew.alloc (.cells cells e)) hs (iL w _) (b':=w.heap.size) (ver':=ver+1) (sz:=sz) (n:=cells.size) (shut:=h.shut id)
    (rs:=h.rows id++y.rowsOf h) (e:=e) g1 (by simp) (fun c hc _=>hold c hc) (fun s hs'=>by rw[shape?_block (hold b hb)];exact hs') (fun o _=>cell?_block (hold b hb)) (.inr (Nat.le_refl _)) (by simp) (by omega) (fun e=>by omega)
    hshn (fun o _=>by have:=World.frozen?_alloc_new w.drew cells e o;rw[show w.drew.heap.size=w.heap.size from rfl]at this;exact this)
    (fun r hr=>by rcases List.mem_append.1 hr with hr | hr;exact g6 r hr;exact c2 r hr)
    (by rw[List.length_append,c1,←hcsz];omega)
    (fun i j r q hi hj=>by
     obtain⟨q1,u,q2,q3⟩:=hall i j r q hi hj
     exact⟨q1,u,hcell _ _ q2,q3⟩)
    (fun o hFo=>by have:=hs.fixed _ _ hFo;omega)
   refine⟨_,_,F,_,hrun,k1,k2,w.heap.size,ver+1,Nu.cK _ _ _,.inr ⟨rfl,aPI,e,cells.size,by simp,by simp,aOY,hshn,?_⟩⟩;rw[←hcsz,hzz,←Nat.add_mul];exact Nat.le_of_eq (by congr 1;omega)
theorem tI{t t2 ty e:TypeId}{sz:Nat}{kk kv:IntKind}{i:TypeInfo}{z:Value}(hu:P.underlying t=some (.slice e))(hd:P.underlying t2=some (.int kk))(hsz:szP P e=some sz)(aJW:0<sz)(hi:P.info? e=some i)(hz0:i.zero=some z)
  (b:Option Addr) {n:Nat} (h0:0<n) (h63:(n:Int)≤9223372036854775807) (hb0:0<i.bytes) (hb:n*i.bytes≤140737488355328):
  (Builtin.append_ #[t,t2] ty #[.slice b 0 0,.int kv n]).run P w= .ok (.slice (some ⟨w.heap.size,0,none⟩) n (grownCap w n 0 e)) (w.drew.alloc (.cells (Builtin.zeroCells z.cells n++Builtin.zeroCells z.cells (grownCap w n 0 e - n)) e)):=by
 have hw:IntKind.i64.wrap (n:Int)=n:=by simp[IntKind.wrap,IntKind.signed,IntKind.bits];omega
 have hn:n≠0:=by omega
 have hb1:¬ i.bytes=0:=by omega
 have hns:¬ n*sz=0:=by rw[Nat.mul_eq_zero];omega
 have hs1:¬ sz=0:=by omega
 have aUO:¬ (9223372036854775807<(n:Int)):=by omega
 have hneg:¬ (n:Int)<0:=by omega
 have hbig:¬ (281474976710656:Int)<(n:Int)*i.bytes:=by
  have:((n*i.bytes:Nat):Int)≤140737488355328:=by omega
  rw[Int.natCast_mul]at this;omega
 have aUP:¬ (281474976710656<Builtin.nextslicecap n 0*i.bytes):=by rw[nextslicecap_zero h0];omega
 have hf:(Builtin.firstCells sz 0 (.slice b 0 0)).run P w.drew= .ok #[] w.drew:=by
  cases b with
  | none=>simp[Builtin.firstCells]
  | some b=>exact run_firstCells_some (P:=P) w.drew sz 0 b 0 0 [] (by simp) (by simp)
 simp[Builtin.append_,run_underlying hu,run_underlying hd,dB hsz,asInt,asIntOf,hw,hneg,hbig,typeInfo,zeroValue,hi,hz0,hn,aUO,hb1,aUP,Question.forced,hf,newRow,grownCap];exact fun h=>absurd h hns
theorem aPJ(hs:Sim w F ν h nx){new:Nat}(hnew:h new=none)(hnx:new<nx){t t2 ty e:TypeId}{sz bytes:Nat}{kk:IntKind}(hu:P.underlying t=some (.slice e))(hd:P.underlying t2=some (.int kk))(hsz:szP P e=some sz)(aJW:0<sz)(hby:byP P e=some bytes){z:List A}
  (hz:jY P e=some z) (hzl:z.length=sz) {x y:D} {u v:Value} (hx:VD w F ν x u) (hy:VD w F ν y v) (hg:z.all A.good=true) (h1:x.aH2) (h2:y.isInt) (h3:0<y.int?.getD 0) (h4:y.int?.getD 0≤9223372036854775807) (h5:0<bytes)
  (h6:y.int?.getD 0*bytes≤140737488355328):
  ∃r w' ν',(Builtin.append_ #[t,t2] ty #[u,v]).run P w= .ok r w'∧Sim w' F ν' (h.set new (.arr 0 false sz (List.replicate (y.int?.getD 0).toNat z))) nx∧Frame w F ν w' F ν'∧VD w' F ν' (.one (.ref new 0 0 (y.int?.getD 0).toNat sz false)) r:=by
 obtain⟨kv,l,rfl,rfl⟩:=jL h2 hy;simp only[D.int?,Option.getD_some]at*;obtain⟨n,rfl⟩:∃ n:Nat,l=(n:Int):=⟨l.toNat,by omega⟩;simp only[Int.toNat_natCast]
 obtain⟨b,rfl⟩:∃ b,u= .slice b 0 0:=by
  unfold D.aH2 at h1;split at h1
  ·obtain⟨_,b,rfl⟩:=hx;exact⟨b,rfl⟩
  ·exact h1.elim
 obtain⟨i,zv,g1,g2,g3,g4⟩:=iR (w:=w) (F:=F) (ν:=ν) hz;have hby':i.bytes=bytes:=by unfold byP at hby;rw[g1]at hby;simpa using hby
 have hzs:zv.cells.size=sz:=by have:=g3.1;simp at this;omega
 have hnb:n*bytes≤140737488355328:=by
  have:((n*bytes:Nat):Int)≤140737488355328:=by rw[Int.natCast_mul];exact h6
  omega
 have hrun:=tI (P:=P) (w:=w) (ty:=ty) (kv:=kv) hu hd hsz aJW g1 g2 b (n:=n) (by omega) h4 (by rw[hby'];exact h5) (by rw[hby'];exact hnb);have hcap:=nO w n 0 e;generalize grownCap w n 0 e=cap at hrun hcap;obtain⟨cells,hcs⟩:∃ cells,Builtin.zeroCells zv.cells n++Builtin.zeroCells zv.cells (cap - n)=cells:=⟨_,rfl⟩;rw[hcs]at hrun
 have hcsz:cells.size=cap*sz:=by
  rw[←hcs];simp[Builtin.zeroCells,hzs];rw[←Nat.add_mul];congr 1;omega
 have hcell:∀ k,k<n*sz→cells[k]? =some (zv.cells[k % zv.cells.size]!):=fun k hk=>by
  rw[←hcs,Array.getElem?_append_left (by simp[Builtin.zeroCells,hzs];exact hk)];simp[Builtin.zeroCells,hzs,hk]
 obtain⟨k1,k2⟩:=Sim.newObj (w':=w.drew.alloc (.cells cells e)) hs (iL w _) (by simp) (fun b hb=>heap_alloc_old w.drew _ hb) hnew hnx (sz:=sz) (rs:=List.replicate n z) (e:=e)
  (n:=cells.size) (by unfold World.shape?;have:=heap_alloc_new w.drew (.cells cells e);rw[show w.drew.heap.size=w.heap.size from rfl]at this;rw[this])
  (fun o _=>by have:=World.frozen?_alloc_new w.drew cells e o;rw[show w.drew.heap.size=w.heap.size from rfl]at this;exact this)
  (fun r hr=>by rw[List.eq_of_mem_replicate hr];exact hzl) (by rw[hcsz,List.length_replicate];exact Nat.mul_le_mul_right _ hcap)
  (fun i j r q hi hj=>by
   have hr:r=z:=List.eq_of_mem_replicate (gM9 hi);subst hr;have hil:i<n:=by have:=(gS9.1 hi).1;simpa using this
   have hjs:j<sz:=by rw[←hzl];exact(gS9.1 hj).1
   have hk:i*sz+j<n*sz:=by
    have:(i+1)*sz≤n*sz:=Nat.mul_le_mul_right _ (by omega);rw[Nat.add_mul]at this;omega
   refine⟨List.all_eq_true.1 hg _ (gM9 hj),zv.cells[j]'(by omega),?_,g3.2 j q _ hj (by simp)⟩;have:=World.cell?_alloc_new w.drew cells e (i*sz+j);rw[show w.drew.heap.size=w.heap.size from rfl]at this;rw[this,hcell _ hk];have hmod:(i*sz+j) % zv.cells.size=j:=by rw[hzs,Nat.add_comm,Nat.add_mul_mod_self_right];exact Nat.mod_eq_of_lt hjs
   have hjz:j<zv.cells.size:=by omega
   rw[hmod,getElem!_pos zv.cells j hjz])
 refine⟨_,_,_,hrun,k1,k2,w.heap.size,0,Nu.cK _ _ _,.inr ⟨rfl,cap,e,cells.size,by simp,by simp,hcap,?_,by rw[hcsz];simp⟩⟩;unfold World.shape?;have:=heap_alloc_new w.drew (.cells cells e);rw[show w.drew.heap.size=w.heap.size from rfl]at this;rw[this]
end
section
open Go
variable {P:Program} {w w':World} {F F':Fix} {ν:Nu} {h:Hp} {nx:Nat} {tm:Nat→D} {a:Act}
theorem uI{x y:A}(h:x.rQ y):∃ k a b,x= .t (.int k a)∧y= .t (.int k b)∧x.vL y=(a==b):=by
 unfold A.rQ at h;split at h
 ·subst h;exact⟨_,_,_,rfl,rfl,rfl⟩
 ·exact h.elim
theorem rV{cs:List A}{us:Array Value}(hv:VL (VA w F ν) cs us.toList){o:Nat}(ho:o<cs.length){k:IntKind}{n:Int}(e:cs.getD o .undef= .t (.int k n)):us[o]? =some (.int k n):=by
 have h1:cs[o]? =some (.t (.int k n)):=by rw[List.getD_eq_getElem?_getD,gE9 ho]at e;rw[gE9 ho];simpa using e
 have h2:o<us.toList.length:=by rw[←hv.1];exact ho
 have h3:=hv.2 o _ _ h1 (gE9 h2);simp only[VA,mK]at h3;have h4:us[o]? =some (us.toList[o]):=by rw[←Array.getElem?_toList];exact gE9 h2
 rw[h4,h3]
theorem kW{f:Field}(hf:iE P f=true){us:Array Value}{k:IntKind}{n:Int}(hu:us[f.offset]? =some (.int k n)):(part f.type us f.offset).run P w= .ok (.int k n) w:=by
 simp only[iE,Bool.and_eq_true]at hf;obtain⟨⟨_,h2⟩,_⟩:=hf;cases hd:P.underlying f.type with
 | none=>rw[hd]at h2;cases h2
 | some d=>
  rw[hd]at h2;cases d<;>simp at h2;simp[part,isAgg,run_underlying hd,hu]
theorem run_equalIn_int{f:Field}(hf:iE P f=true)(d:Nat)(k:IntKind)(m n:Int):(Op.equalIn (d+1) f.type (.int k m) (.int k n)).run P w= .ok (m==n) w:=by
 simp only[iE,Bool.and_eq_true]at hf;obtain⟨⟨_,h2⟩,_⟩:=hf;cases hd:P.underlying f.type with
 | none=>rw[hd]at h2;cases h2
 | some dd=>
  rw[hd]at h2;cases dd<;>simp at h2;simp[Op.equalIn,run_underlying hd]
theorem aRS{t:TypeId}{fs:Array Field}{f1 f2:Field}(hu:P.underlying t=some (.struct fs))(hfs:fs.toList=[f1,f2])(hst:P.stoodInHeld t=false)(h1:iE P f1=true)(h2:iE P f2=true)
  {x y:D} {u v:Value} (hx:VD w F ν x u) (hy:VD w F ν y v) (hok:x.aH1 f1.offset f2.offset y):
  (∃us vs,u= .agg us∧v= .agg vs)∧(Op.equal t u v).run P w= .ok (x.beq f1.offset f2.offset y) w:=by
 unfold D.aH1 at hok;split at hok
 ·rename_i cs ds;obtain⟨o1,o2,o3,o4,o5,o6⟩:=hok;obtain⟨us,rfl,hus⟩:=hx;obtain⟨vs,rfl,hvs⟩:=hy;obtain⟨k,a,b,e1,e2,e3⟩:=uI o5;obtain⟨k',a',b',e4,e5,e6⟩:=uI o6;have c1:=rV hus o1 e1;have c2:=rV hvs o3 e2;have c3:=rV hus o2 e4;have c4:=rV hvs o4 e5;refine⟨⟨_,_,rfl,rfl⟩,?_⟩;obtain rfl:fs= #[f1,f2]:=Array.toList_inj.1 (by simpa using hfs);have n1:f1.name≠ "_" :=by simp[iE]at h1;exact h1.1.1
  have n2:f2.name≠ "_" :=by simp[iE]at h2;exact h2.1.1
  simp only[D.beq,e3,e6];rw[Op.equal,show Op.maxDepth=9998+1+1 from rfl,Op.equalIn];simp[run_underlying hu,hst,n1,n2,kW h1 c1,kW h1 c2,kW h2 c3,kW h2 c4,run_equalIn_int h1,run_equalIn_int h2]
  by_cases q1:a=b<;>by_cases q2:a'=b'<;>simp[q1,q2]
 ·exact hok.elim
theorem aCT(op:BinOp){t:TypeId}(x y:Operand)(us vs:Array Value)(hg:P.eqGuardType P.depth t=false):(eqGuard op t x y (.agg us) (.agg vs)).run P w= .ok () w:=by
 cases op<;>simp[eqGuard,hg]
theorem aJX{x:D}{u:Value}(hx:VD w F ν x u)(hok:x.notNil):∃ b n c,u= .slice (some b) n c:=by
 unfold D.notNil at hok;split at hok
 ·simp only[VD,VA]at hx;cases hx with
  | rows=>exact⟨_,_,_,rfl⟩
 ·obtain⟨hx,_⟩:=hx;cases hx with
  | rows=>exact⟨_,_,_,rfl⟩
 ·exact hok.elim
theorem aPK{x:D}{u:Value}(hx:VD w F ν x u)(hok:x.aF5):∃ b:Option Addr,u= .pointer b∧b.isNone=x.aF6:=by
 unfold D.aF5 at hok;split at hok
 ·simp only[VD,VA]at hx;cases hx;exact⟨none,rfl,rfl⟩
 ·obtain⟨b,ver,_,h | h⟩:=hx
  ·obtain⟨_,y,rfl⟩:=h;exact⟨_,rfl,rfl⟩
  ·obtain⟨_,rfl⟩:=h;exact⟨_,rfl,rfl⟩
 ·obtain⟨b,off,rfl,_⟩:=hx;exact⟨_,rfl,rfl⟩
 ·exact hok.elim
theorem oJ{t e:TypeId}(hu:P.underlying t=some (.slice e))(b:Addr)(n c:Nat):(Op.equal t (.slice (some b) n c) (.slice none 0 0)).run P w= .ok false w:=by
 rw[Op.equal,show Op.maxDepth=9999+1 from rfl,Op.equalIn];simp[run_underlying hu]
theorem rW{t e:TypeId}(hu:P.underlying t=some (.pointer e))(b:Option Addr):(Op.equal t (.pointer b) (.pointer none)).run P w= .ok b.isNone w:=by
 rw[Op.equal,show Op.maxDepth=9999+1 from rfl,Op.equalIn];cases b<;>simp[run_underlying hu]
theorem aRT{x:D}{u:Value}(hx:VD w F ν x u)(hok:x.aJR):∃ b,u= .slice b x.len x.len:=by
 unfold D.aJR at hok;split at hok
 ·obtain⟨_,b,rfl⟩:=hx;exact⟨b,rfl⟩
 ·exact hok.elim
theorem aMY(hs:Sim w F ν h nx){t e:TypeId}{sz:Nat}(hu:P.underlying t=some (.slice e))(hsz:szP P e=some sz){x:D}{v:Value}(hv:VD w F ν x v){lo:Option Value}(hlo:lo=none∨lo=some (.int .i64 0)){k:IntKind}{n:Int}
  (hok:x.vM h sz (some n)):
  ∃r ν',(Instr.sliceAt t v lo (some (.int k n)) none).run P w= .ok r w∧VD w F ν' (x.trunc sz (some n)) r∧Sim w F ν' (x.rR h sz (some n)) nx∧Frame w F ν w F ν':=by
 unfold D.vM at hok;split at hok
 ·rename_i id ver off len sz' tight;obtain⟨rfl,ha,hz,rfl,hsh,hlen,h0,h1⟩:=hok;obtain⟨b,ver',h3,h4⟩:=hv;have hobj:=gU ha;obtain⟨b',e',m,h5,g1,g2,g3,g4,g5,g6⟩:=hs.obj _ _ hobj;rw[h3]at h5;simp only[sI9,Prod.mk.injEq]at h5;obtain⟨rfl,rfl⟩:=h5;rcases h4 with⟨h4,_⟩ | ⟨_,cap,e1,n',rfl,h6,h7,h8,h9⟩
  ·omega
  ·have hb:(Instr.sliceBounds true len cap lo (some (.int k n)) none).run P w= .ok (0,n.toNat,cap) w:=by
    have h4:=bD (P:=P) k n cap .sliceAcap w (by omega) (by omega);rcases hlo with rfl | rfl
    ·simp[Instr.sliceBounds,h4]
    ·have h5:=bD (P:=P) .i64 0 n.toNat .sliceB w (by omega) (by omega);simp[Instr.sliceBounds,h4,h5]
   have ht:=hs.touch (w':=w) ⟨rfl,rfl,rfl⟩ h3 (Nat.le_refl _) (fun _ _ _=>rfl) (fun _ h=>h) (fun _ _=>rfl) (.inl rfl) (hs.fY h3) (Nat.le_succ ver') (fun h=>by omega)
    g1 g2 (rs:=(h.rows id).take n.toNat) (sz:=sz) (shut:=false) (fun r hr=>by rw[g3 r (List.mem_of_mem_take hr),hz])
    (by rw[hz]at g4;refine Nat.le_trans (Nat.mul_le_mul_right _ ?_) g4;simp;omega) (fun i j r x hi hj=>by
     rw[List.getElem?_take]at hi;split at hi
     ·rw[←hz];exact g5 i j r x hi hj
     ·cases hi) (fun o ho=>by have:=(g6 o ho).1;rw[hsh]at this;cases this)
   refine⟨_,_,run_sliceAt_slice hu hsz _ _ _ _ _ _ _ _ _ hb,?_,ht.1,ht.2⟩;refine⟨_,_,Nu.cK _ _ _,.inr ⟨rfl,cap,e1,n',?_,by simp,by simp;omega,h8,?_⟩⟩
   ·simp[Addr.add]
   ·simpa using h9
 ·exact hok.elim
end
section
open Go
variable {P:Program} {w w':World} {F F':Fix} {ν:Nu} {h:Hp} {nx:Nat} {tm:Nat→D} {a:Act}
theorem uJ:∀ (l:List Value) (bs:List UInt8) (s:ByteArray),l.length=bs.length→(∀(k:Nat) u b,l[k]? =some u→bs[k]? =some b→∃n,u= .int .u8 n∧b=UInt8.ofNat n.toNat)→
  (forIn (m:=Sem) l s fun c r=>do
   let .int .u8 n:=c | stuck "bytesToString: byte expected"
   pure (.yield (r.push (UInt8.ofNat n.toNat)))).run P w= .ok (bs.foldl (fun r b=>r.push b) s) w
 | [],[],s,_,_=>by simp
 | [],_::_,_,h,_=>by simp at h
 | _::_,[],_,h,_=>by simp at h
 | u::l,b::bs,s,hl,hk=>by
  obtain⟨n,rfl,rfl⟩:=hk 0 _ _ rfl rfl;have ih:=uJ l bs (s.push (UInt8.ofNat n.toNat)) (by simpa using hl) (fun k u b hu hb=>hk (k+1) u b (by simpa using hu) (by simpa using hb));simp only[List.forIn_cons,List.foldl_cons,Sem.run_bind,Sem.run_pure,Result.andThen_ok];exact ih
theorem foldl_push(bs:List UInt8):∀ s:ByteArray,bs.foldl (fun r b=>r.push b) s=⟨s.data++bs.toArray⟩:=by
 induction bs with
 | nil=>intro s;simp
 | cons b bs ih=>
  intro s;rw[List.foldl_cons,ih];congr 1;simp[ByteArray.push]
theorem aFC{r:List A}(hr:isByte r):∃ n,r=[.t (.int .u8 n)]:=by
 unfold isByte at hr;split at hr
 ·exact⟨_,rfl⟩
 ·exact hr.elim
theorem aMZ(hs:Sim w F ν h nx){x:D}{v:Value}(hv:VD w F ν x v)(hok:x.lF h 1)(hby:∀ r∈x.rowsOf h,isByte r)(hns:¬ x.isStr):
  ∃r,(Conv.bytesToString v).run P w= .ok r w∧VD w F ν (.one (.t (.str ⟨((x.rowsOf h).map byteOf).toArray⟩))) r:=by
 obtain⟨c1,c2,news,c3,c4,c5⟩:=pT (P:=P) hs hv hok;obtain⟨d1,d2⟩:=c4 w rfl
 have hsl:∃ b cap,v= .slice b x.len cap:=by
  unfold D.lF at hok;split at hok
  ·obtain⟨b,cap,h1,_⟩:=lX hv;exact⟨_,_,h1⟩
  ·obtain⟨_,b,h1⟩:=hv;exact⟨_,_,h1⟩
  ·obtain⟨b,ver',_,h1⟩:=hv;rcases h1 with⟨_,_,_,h1⟩ | ⟨_,cap,_,_,h1,_⟩<;>exact⟨_,_,h1⟩
  ·exact absurd (by simp[D.isStr]) hns
  ·exact hok.elim
 obtain⟨b,cap,rfl⟩:=hsl;refine⟨.string ⟨((x.rowsOf h).map byteOf).toArray⟩,?_,by simp[VD,VA]⟩;cases b with
 | none=>
  simp only[Builtin.firstCells,Sem.run_pure,Result.ok.injEq,and_true]at d2;have hn:news=[]:=by simpa using congrArg Array.toList d2.symm
  have h0:x.len=0:=by have:=c3;rw[hn]at this;simp at this;omega
  have hr:x.rowsOf h=[]:=List.eq_nil_of_length_eq_zero (by omega);rw[hr];simp[Conv.bytesToString];rfl
 | some ad=>
  simp only[Builtin.firstCells,Nat.mul_one]at d2
  have key:=uJ (P:=P) (w:=w) news ((x.rowsOf h).map byteOf) .empty (by simp[c1,c3]) (fun k u bb hu hb=>by
   rw[List.getElem?_map]at hb;simp only[oM9]at hb;obtain⟨r,hr,rfl⟩:=hb;obtain⟨n,rfl⟩:=aFC (hby r (gM9 hr));obtain⟨_,u',h1,h2⟩:=c5 k 0 _ _ hr rfl;rw[Nat.mul_one,Nat.add_zero,hu]at h1;simp only[sI9]at h1;subst h1
   exact⟨n,mK.1 h2,rfl⟩)
  rw[foldl_push]at key;simp only[Conv.bytesToString,Sem.run_bind,d2,Result.andThen_ok];have e:(ByteArray.empty).data++((x.rowsOf h).map byteOf).toArray=((x.rowsOf h).map byteOf).toArray:=by show #[]++_=_;simp
  rw[e]at key;simp only[List.forIn_toArray];have aRU:=congrArg (fun r=>Result.andThen r fun s w'=>(Result.ok (Value.string s) w':Result Value)) key;simp only[Result.andThen_ok]at aRU;exact aRU
theorem lY(ht:∀ t,VD w F ν (tm t) (a.tmps.getD t undef)):∀ {ts:List TypeId} {l:List Operand} {cs:List X},jZ P ts l=some cs→l.length=cs.length∧∀(k:Nat) x y,l[k]? =some x→cs[k]? =some y→VD w F ν (y.ev tm) (a.eval x)
 | ts,[],cs,hc=>by
  have:cs=[]:=by cases ts<;>simpa[jZ]using hc.symm
  subst this;exact⟨rfl,fun k x y h=>by simp at h⟩
 | [],x::l,cs,hc=>by
  simp only[jZ,Option.bind_eq_bind,oB9,sI9]at hc;obtain⟨x',h1,cs',h2,rfl⟩:=hc;obtain⟨h3,h4⟩:=lY ht h2;refine⟨by simp[h3],fun k y z hy hz=>?_⟩;cases k with
  | zero=>simp only[List.getElem?_cons_zero,sI9]at hy hz;subst hy;subst hz;exact aN ht h1
  | succ k=>simp only[List.getElem?_cons_succ]at hy hz;exact h4 k y z hy hz
 | t::ts,x::l,cs,hc=>by
  simp only[jZ,Option.bind_eq_bind,oB9,sI9]at hc;obtain⟨x',h1,cs',h2,rfl⟩:=hc;obtain⟨h3,h4⟩:=lY ht h2;refine⟨by simp[h3],fun k y z hy hz=>?_⟩;cases k with
  | zero=>simp only[List.getElem?_cons_zero,sI9]at hy hz;subst hy;subst hz;exact aN ht h1
  | succ k=>simp only[List.getElem?_cons_succ]at hy hz;exact h4 k y z hy hz
theorem cF{b:Bool}{u:Unit}(h:ensure b=some u):b=true:=by unfold ensure at h;split at h<;>simp_all
theorem Done.fG{s:Sem Value}{d:D}{h':Hp}(hs:Sim w F ν h nx)(e:h'=h)(hr:∃ r,s.run P w= .ok r w∧VD w F ν d r):Done P (do pure (.value (←s)):Sem Next) w F ν d h' nx:=by
 obtain⟨r,h1,h2⟩:=hr;subst e;exact⟨r,w,F,ν,.inl (by simp[h1]),h2,hs,Frame.refl _ _ _⟩
theorem Done.of_run{s:Sem Value}{d:D}{h':Hp}{r:Value}(h1:s.run P w= .ok r w')(h2:VD w' F' ν d r)(hs:Sim w' F' ν h' nx){F0:Fix}{ν0:Nu}(hf:Frame w F0 ν0 w' F' ν):
  Done P (do pure (.value (←s)):Sem Next) w F0 ν0 d h' nx:=⟨r,w',F',ν,.inl (by simp[h1]),h2,hs,hf⟩
theorem aCU(op:BinOp)(t:TypeId)(x y:Operand)(k k':IntKind)(m n:Int):(eqGuard op t x y (.int k m) (.int k' n)).run P w= .ok () w:=by cases op<;>simp[eqGuard]
theorem aCV(op:BinOp)(t:TypeId)(x y:Operand)(m n:ByteArray):(eqGuard op t x y (.string m) (.string n)).run P w= .ok () w:=by cases op<;>simp[eqGuard]
theorem aBK(op:BinOp)(t:TypeId)(x y:Operand)(m n:Bool):(eqGuard op t x y (.bool m) (.bool n)).run P w= .ok () w:=by cases op<;>simp[eqGuard]
theorem aJY(hs:Sim w F ν h nx)(ht:∀ t,VD w F ν (tm t) (a.tmps.getD t undef)){new:Nat}(hnew:h new=none)(hnx:new<nx){o:Oper}{grow:Bool}{ao:AOp}(hc:mT P grow o=some ao)(hok:ao.ok tm h):
  Done P (execOp a.eval o) w F ν (ao.val tm h new) (ao.eff tm h new) nx:=by
 obtain⟨dst,op,ty,pos,after,guard⟩:=o;unfold mT at hc;simp only at hc;cases op with
 | move x=>
  simp only[Option.bind_eq_bind,oB9,sI9]at hc;obtain⟨x',h1,rfl⟩:=hc;exact Done.still hs (by simp[execOp]) (aN ht h1)
 | assign x=>
  simp only[Option.bind_eq_bind,oB9,sI9]at hc;obtain⟨x',h1,rfl⟩:=hc;exact Done.still hs (by simp[execOp]) (aN ht h1)
 | pick c x y=>
  simp only[Option.bind_eq_bind,oB9,sI9]at hc;obtain⟨c',h1,x',h2,y',h3,rfl⟩:=hc;obtain⟨b,e1,e2⟩:=aF8 hok (aN ht h1);refine Done.still (v:=if b then a.eval x else a.eval y) hs (by simp[execOp,e2,asBool]) ?_;simp only[AOp.val,e1,D.pick];cases b
  ·exact aN ht h3
  ·exact aN ht h2
 | alloc e=>
  simp only[Option.bind_eq_bind,oB9,sI9]at hc;obtain⟨zs,h1,rfl⟩:=hc;obtain⟨v,w',ν',g1,g2,g3,g4⟩:=aMV (P:=P) hs hnew hnx h1;exact Done.of_run g1 g4 g2 g3
 | box e x=>
  simp only[Option.bind_eq_bind,oB9,sI9]at hc;obtain⟨n,h0,x',h1,rfl⟩:=hc;obtain⟨v,w',ν',g1,g2,g3,g4⟩:=aRO (P:=P) (e:=e) hs hnew hnx (aN ht h1) hok.1 hok.2.1 hok.2.2;exact Done.of_run g1 g4 g2 g3
 | build t ps=>
  simp only at hc;split at hc
  ·rename_i fs hu;simp only[Option.bind_eq_bind,oB9,sI9]at hc;obtain⟨zs,h1,qs,h2,u,h3,rfl⟩:=hc;exact Done.fG hs rfl (aMU hu h1 (cF h3) ht (by simpa[Option.bind_eq_bind]using h2) hok)
  ·cases hc
 | buildSlice t n ps=>
  simp only at hc;split at hc
  ·rename_i e hu;simp only[Option.bind_eq_bind,oB9,sI9]at hc;obtain⟨sz,h1,z,h2,u,h3,qs,h4,rfl⟩:=hc;have h5:=cF h3;simp only[Bool.and_eq_true,decide_eq_true_eq]at h5;cases grow with
   | false=>
    obtain⟨r,w',ν',g1,g2,g3,g4⟩:=aMX (P:=P) hs hnew hnx hu h1 h2 h5.1.1 h5.1.2 h5.2 ht h4 hok.2;exact Done.of_run g1 g4 g2 g3
   | true=>
   obtain⟨r,w',F',g1,g2,g3,g4⟩:=aJV (P:=P) hs hu h1 h2 h5.1.1 h5.1.2 h5.2 ht h4 hok.2.1 hok.2.2;exact Done.of_run g1 g4 g2 g3
  ·cases hc
 | load t x=>
  simp only[Option.bind_eq_bind,oB9,sI9]at hc;obtain⟨n,h1,g,h2,u,h3,x',h4,rfl⟩:=hc;exact Done.fG hs rfl (aJT hs h1 h2 hok.2 (aN ht h4) hok.1)
 | store t x y=>
  simp only[Option.bind_eq_bind,oB9,sI9]at hc;obtain⟨n,h1,x',h2,y',h3,rfl⟩:=hc;obtain⟨w',ν',g1,g2,g3⟩:=aMW (P:=P) hs h1 (aN ht h2) (aN ht h3) hok;exact⟨undef,w',F,ν',.inr ⟨by simp[execOp,g1],rfl⟩,rfl,g2,g3⟩
 | nilCheck x=>
  simp only[Option.bind_eq_bind,oB9,sI9]at hc;obtain⟨x',h1,rfl⟩:=hc;have hv:=aN ht h1;simp only[AOp.ok]at hok
  have hrun:(execOp a.eval ⟨dst,.nilCheck x,ty,pos,after,guard⟩).run P w= .ok (.value (a.eval x)) w:=by
   unfold D.aF4 at hok;split at hok
   ·rename_i p e;rw[e]at hv;obtain⟨b,_,e2⟩:=VP.jS hs hok hv;simp[execOp,e2]
   ·rename_i cs e;rw[e]at hv;obtain⟨b,off,e2,_⟩:=hv;simp[execOp,e2]
   ·rename_i f caps e;rw[e]at hv;obtain⟨us,e2,_⟩:=hv;simp[execOp,e2]
   ·exact hok.elim
  exact Done.still hs hrun hv
 | binOp op t x y u=>
  have fin:∀ x' y',dA P t x=some x'→dA P u y=some y'→(X.ev tm x').uF op (X.ev tm y')→(∀b c,a.eval x= .bool b→a.eval y= .bool c→P.underlying t=some .bool)→
    Done P (execOp a.eval ⟨dst,.binOp op t x y u,ty,pos,after,guard⟩) w F ν ((X.ev tm x').bin op (X.ev tm y')) h nx:=by
   intro x' y' h1 h2 h3 h4;obtain⟨r,g1,g2⟩:=aRI (P:=P) (aN ht h1) (aN ht h2) h3 h4
   have hg:(eqGuard op t x y (a.eval x) (a.eval y)).run P w= .ok () w:=by
    have hx:=aN ht h1;have hy:=aN ht h2;unfold D.uF at h3;split at h3
    ·rename_i p q e1 e2;rw[e1]at hx;rw[e2]at hy;simp only[VD,VA]at hx hy;unfold aBI at h3;split at h3
     ·rw[mK]at hx hy;rw[hx,hy];exact aCU ..
     ·rw[qV]at hx hy;rw[hx,hy];exact aCV ..
     ·rw[pR]at hx hy;rw[hx,hy];exact aBK ..
     ·exact h3.elim
    ·exact h3.elim
   exact⟨r,w,F,ν,.inl (by simp[execOp,hg,g1]),g2,hs,Frame.refl _ _ _⟩
  simp only at hc
  have nob:∀ x',dA P t x=some x'→¬(X.ev tm x').isBool→∀y',(X.ev tm x').uF op (X.ev tm y')→∀b c,a.eval x= .bool b→a.eval y= .bool c→P.underlying t=some .bool:=by
   intro x' h1 hn y' h3 b c e1 e2;have hx:=aN ht h1;unfold D.uF at h3;split at h3
   ·rename_i p q e3 e4;rw[e3]at hx hn;simp only[VD,VA]at hx;rw[e1]at hx;cases hx;exact absurd trivial hn
   ·exact h3.elim
  split at hc
  ·simp only[Option.bind_eq_bind,oB9,sI9]at hc;obtain⟨x',h1,y',h2,rfl⟩:=hc;exact fin x' y' h1 h2 hok.1 (nob x' h1 (hok.2 rfl) y' hok.1)
  ·simp only[Option.bind_eq_bind,oB9,sI9]at hc;obtain⟨x',h1,y',h2,rfl⟩:=hc;exact fin x' y' h1 h2 hok.1 (nob x' h1 (hok.2 rfl) y' hok.1)
  ·rename_i hu;simp only[Option.bind_eq_bind,oB9,sI9]at hc;obtain⟨_,_,x',h1,y',h2,rfl⟩:=hc;exact fin x' y' h1 h2 hok.1 (fun _ _ _ _=>hu)
  ·rename_i fs hu;split at hc
   ·rename_i f1 f2 hfs;simp only[Option.bind_eq_bind,oB9,sI9]at hc;obtain⟨_,hen,x',h1,y',h2,rfl⟩:=hc;have hen:=cF hen;simp only[Bool.and_eq_true,Bool.or_eq_true,decide_eq_true_eq,Bool.not_eq_true']at hen;obtain⟨⟨⟨e0,e1⟩,e2⟩,e3,e4⟩:=hen;obtain⟨⟨us,vs,q1,q2⟩,q3⟩:=aRS (P:=P) (w:=w) hu hfs e1 e3 e4 (aN ht h1) (aN ht h2) hok;have hg:=aCT (P:=P) (w:=w) op x y us vs e2;rw[q1,q2]at q3;refine⟨_,w,F,ν,.inl (?_:_=Result.ok (Next.value (Value.bool (decide (op= .neq) != (X.ev tm x').beq f1.offset f2.offset (X.ev tm y')))) w),?_,hs,Frame.refl _ _ _⟩
    ·rcases e0 with rfl | rfl<;>simp[execOp,q1,q2,hg,binOp,q3]
    ·simp[AOp.val,VD,VA]
   ·cases hc
  ·rename_i e hu;simp only[Option.bind_eq_bind,oB9,sI9]at hc;obtain⟨_,hen,x',h1,rfl⟩:=hc;have hen:=cF hen;simp only[Bool.and_eq_true,Bool.or_eq_true,decide_eq_true_eq]at hen;obtain⟨e0,e1⟩:=hen
   have hy:a.eval y= .slice none 0 0:=by
    unfold qU at e1;split at e1
    ·rfl
    ·cases e1
   obtain⟨b,n,c,hx⟩:=aJX (aN ht h1) hok;refine⟨_,w,F,ν,.inl (?_:_=Result.ok (Next.value (Value.bool (decide (op= .neq)))) w),?_,hs,Frame.refl _ _ _⟩
   ·have q3:=oJ (P:=P) (w:=w) hu b n c;rcases e0 with rfl | rfl<;>simp[execOp,hx,hy,eqGuard,binOp,q3]
   ·simp[AOp.val,VD,VA]
  ·rename_i e hu;simp only[Option.bind_eq_bind,oB9,sI9]at hc;obtain⟨_,hen,x',h1,rfl⟩:=hc;have hen:=cF hen;simp only[Bool.and_eq_true,Bool.or_eq_true,decide_eq_true_eq]at hen;obtain⟨e0,e1⟩:=hen
   have hy:a.eval y= .pointer none:=by
    unfold rS at e1;split at e1
    ·rfl
    ·cases e1
   obtain⟨b,hx,hb⟩:=aPK (aN ht h1) hok;refine⟨_,w,F,ν,.inl (?_:_=Result.ok (Next.value (Value.bool (decide (op= .neq) != (X.ev tm x').aF6))) w),?_,hs,Frame.refl _ _ _⟩
   ·rw[←hb];have q3:=rW (P:=P) (w:=w) hu b;rcases e0 with rfl | rfl<;>simp[execOp,hx,hy,eqGuard,binOp,q3]
   ·simp[AOp.val,VD,VA]
  ·cases hc
 | unOp op t x=>
  simp only[Option.bind_eq_bind,oB9,sI9]at hc;obtain⟨x',h1,rfl⟩:=hc;exact Done.fG hs rfl (aUK (aN ht h1) hok)
 | convert src dst x=>
  simp only at hc;split at hc
  ·rename_i k hu1 hu2;simp only[Option.bind_eq_bind,oB9,sI9]at hc;obtain⟨x',h1,rfl⟩:=hc;obtain⟨kk,n,e1,e2⟩:=jL hok (aN ht h1);refine Done.fG hs rfl ⟨.int k (k.wrap n),?_,by simp[AOp.val,e1,D.dO,VD,VA]⟩;simp[convert,run_underlying hu1,run_underlying hu2,e2,Conv.intToInt]
  ·rename_i hu1 hu2;simp only[Option.bind_eq_bind,oB9,sI9]at hc;obtain⟨x',h1,rfl⟩:=hc;have hv:=aN ht h1;obtain⟨s,e1,e2⟩:=tG hok hv;refine Done.fG hs rfl ⟨.string s,?_,by simp[AOp.val,e1,VD,VA]⟩;simp[convert,run_underlying hu1,run_underlying hu2,e2]
  ·rename_i e hu1 hu2;split at hc
   ·rename_i hu3;simp only[Option.bind_eq_bind,oB9,sI9]at hc;obtain⟨x',h1,rfl⟩:=hc;obtain⟨r,w',F',g1,g2,g3,g4⟩:=aHU (P:=P) hs hu1 hu2 hu3 (aN ht h1) hok;exact Done.of_run g1 g4 g2 g3
   ·cases hc
  ·rename_i e hu1 hu2;split at hc
   ·rename_i hu3;simp only[Option.bind_eq_bind,oB9,sI9]at hc;obtain⟨x',h1,rfl⟩:=hc;have hv:=aN ht h1;obtain⟨r,g1,g2⟩:=aMZ (P:=P) hs hv hok.2.1 hok.2.2 hok.1
    have hsl:∃ b n c,a.eval x= .slice b n c:=by
     have h5:=hok.2.1;unfold D.lF at h5;split at h5
     ·rename_i e1;rw[e1]at hv;obtain⟨b,cap,h1,_⟩:=lX hv;exact⟨_,_,_,h1⟩
     ·rename_i e1;rw[e1]at hv;obtain⟨_,b,h1⟩:=hv;exact⟨_,_,_,h1⟩
     ·rename_i e1;rw[e1]at hv;obtain⟨b,ver',_,h1⟩:=hv;rcases h1 with⟨_,_,_,h1⟩ | ⟨_,cap,_,_,h1,_⟩<;>exact⟨_,_,_,h1⟩
     ·rename_i e1;exact absurd (by rw[e1];simp[D.isStr]) hok.1
     ·exact h5.elim
    obtain⟨b,n,c,e2⟩:=hsl;rw[e2]at g1;refine Done.fG hs rfl ⟨r,?_,g2⟩;simp[convert,run_underlying hu1,run_underlying hu2,run_underlying hu3,e2,g1]
   ·cases hc
  ·cases hc
 | makeFunc fn first caps=>
  cases fn with
  | func f=>
   simp only[Option.bind_eq_bind,oB9,sI9]at hc;obtain⟨_,h0,cs,h1,rfl⟩:=hc;have h2:=cF h0;have h3:first= #[]:=by simpa using h2
   subst h3;exact Done.fG hs rfl ⟨_,by simp[Instr.makeFunc],aPH hs ht h1 hok⟩
  | _=>cases hc
 | makeSlice t l c=>
  simp only at hc;split at hc
  ·rename_i e hu;simp only[Option.bind_eq_bind,oB9,sI9]at hc;obtain⟨sz,h1,z,h2,u,h3,by_,h4,l',h5,c',h6,rfl⟩:=hc;obtain⟨k1,k2,k3,k4,k5,k6,k7⟩:=hok;obtain⟨r,w',ν',g1,g2,g3,g4⟩:=aRQ (P:=P) hs hnew hnx hu h1 h4 h2 (of_decide_eq_true (cF h3)) (aN ht h5) (aN ht h6) k1 k2 k3 k4 k5 k6 k7;exact Done.of_run g1 g4 g2 g3
  ·cases hc
 | slice t x lo hi mx=>
  simp only at hc;split at hc
  ·rename_i hu;simp only[Option.bind_eq_bind,oB9,sI9]at hc;obtain⟨x',h1,lo',h2,hi',h3,mx',h4,rfl⟩:=hc;obtain⟨k1,k2,k3,k4⟩:=hok;subst k1;have hm:mx=none:=by cases mx with | none=>rfl | some m=>simp[qT]at h4
   subst hm;exact Done.fG hs rfl (aMT hu (aN ht h1) ht h2 h3 k2 k3 k4)
  ·rename_i e hu;split at hc
   ·rename_i hcond;simp only[Option.bind_eq_bind,oB9,sI9]at hc;obtain⟨sz,h0,x',h1,hi0,hhi,hi',h3,rfl⟩:=hc;subst hhi;simp only[Bool.and_eq_true]at hcond;obtain⟨⟨⟨c1,c2⟩,c3⟩,c4⟩:=hcond;have hmx:mx=none:=by simpa using c3
    subst hmx;obtain⟨k1,k2⟩:=hok
    obtain⟨kk,nn,hn1,hn2⟩:∃ kk nn,a.eval hi0= .int kk nn∧(X.ev tm hi').int? =some nn:=by
     have hv:=aN ht h3;unfold D.isInt at k1;split at k1
     ·rename_i kk nn e1;rw[e1]at hv ⊢;simp only[VD,VA,mK]at hv;exact⟨kk,nn,hv,rfl⟩
     ·exact k1.elim
    rw[hn2]at k2
    have hlo:lo.map a.eval=none∨lo.map a.eval=some (.int .i64 0):=by
     unfold isZero at c2;split at c2
     ·exact .inl rfl
     ·exact .inr rfl
     ·cases c2
    obtain⟨r,ν',g1,g2,g3,g4⟩:=aMY (P:=P) hs hu h0 (aN ht h1) hlo (k:=kk) k2;simp only[AOp.val,AOp.eff,hn2];exact⟨r,w,F,ν',.inl (by simp[execOp,hn1,g1]),g2,g3,g4⟩
   simp only[Option.bind_eq_bind,oB9,sI9]at hc;obtain⟨sz,h0,x',h1,lo',h2,hi',h3,mx',h4,rfl⟩:=hc;obtain⟨k1,k2,k3,k4⟩:=hok;exact Done.fG hs rfl (aUN hs hu h0 (aN ht h1) ht h2 h3 h4 k1 k2 k3 k4)
  ·cases hc
 | fieldAddr t x f=>
  simp only at hc;split at hc
  ·rename_i fs hu;simp only[Option.bind_eq_bind,oB9,sI9]at hc;obtain⟨fl,h1,s,h2,u,h3,x',h4,rfl⟩:=hc;exact Done.fG hs rfl (aUM hs hu h1 h2 (of_decide_eq_true (cF h3)) (aN ht h4) hok)
  ·cases hc
 | field t x f=>
  simp only at hc;split at hc
  ·rename_i fs hu;simp only[Option.bind_eq_bind,oB9,sI9]at hc;obtain⟨fl,h1,n,h2,g,h3,u,h4,x',h5,rfl⟩:=hc;exact Done.fG hs rfl (aRK hu h1 h2 h3 hok.2 (aN ht h5) hok.1)
  ·cases hc
 | indexAddr t x i=>
  simp only at hc;split at hc
  ·rename_i e hu;simp only[Option.bind_eq_bind,oB9,sI9]at hc;obtain⟨sz,h1,x',h2,i',h3,rfl⟩:=hc;exact Done.fG hs rfl (aUL hs hu h1 (aN ht h2) (aN ht h3) hok)
  ·cases hc
 | index t x i=>
  simp only at hc;split at hc
  ·rename_i hu;simp only[Option.bind_eq_bind,oB9,sI9]at hc;obtain⟨x',h2,i',h3,rfl⟩:=hc;exact Done.fG hs rfl (aRJ hu (aN ht h2) (aN ht h3) hok)
  ·cases hc
 | extract x i=>
  simp only[Option.bind_eq_bind,oB9,sI9]at hc;obtain⟨x',h1,rfl⟩:=hc;exact Done.fG hs rfl (aRL (aN ht h1) hok)
 | call c=>
  obtain⟨callee,args,argTypes⟩:=c;simp only at hc;cases callee with
  | builtin b=>
   have mm:∀ (mx:Bool) cs,jZ P [] args.toList=some cs→(AOp.mm mx cs).ok tm h→
     ∃r,(if mx then Builtin.max_ argTypes ty (args.map a.eval)else Builtin.min_ argTypes ty (args.map a.eval)).run P w= .ok r w∧VD w F ν ((AOp.mm mx cs).val tm h new) r:=by
    intro mx cs h1 hk;obtain⟨k1,k2⟩:=hk;obtain⟨g1,g2⟩:=lY ht h1;cases cs with
    | nil=>exact absurd rfl k1
    | cons y cs=>
     cases hl:args.toList with
     | nil=>rw[hl]at g1;simp at g1
     | cons x l=>
      rw[hl]at g1 g2;have ha:(args.map a.eval).toList=a.eval x::l.map a.eval:=by simp[hl]
      have:=aRM (P:=P) (mx:=mx) (xs:=cs.map fun y=>y.ev tm) (us:=l.map a.eval) (y.ev tm) (a.eval x) (k2 y List.mem_cons_self) (g2 0 x y rfl rfl)
       (fun d hd=>by obtain⟨z,hz,rfl⟩:=List.mem_map.1 hd;exact k2 z (List.mem_cons_of_mem _ hz)) (by simpa using g1.symm)
       (fun k d u hd hu=>by
        rw[List.getElem?_map]at hd hu;simp only[oM9]at hd hu;obtain⟨z,hz,rfl⟩:=hd;obtain⟨q,hq,rfl⟩:=hu
        exact g2 (k+1) q z (by simpa using hq) (by simpa using hz))
      rw[List.foldl_map]at this;obtain⟨r,q1,q2⟩:=this;refine⟨r,?_,q2⟩;cases mx
      ·simpa[Builtin.min_,hl]using q1
      ·simpa[Builtin.max_,hl]using q1
   cases b<;>simp only at hc<;>(try cases hc)
   case append=>
    split at hc
    ·rename_i s t x y e1 e2;have e3:argTypes= #[s,t]:=Array.toList_inj.1 (by simpa using e1);have e4:args= #[x,y]:=Array.toList_inj.1 (by simpa using e2);subst e3;subst e4
     have main:∀ e,P.underlying s=some (.slice e)→(P.underlying t=some .string∨∃e',P.underlying t=some (.slice e'))→∀z sz u by_ x' y',jY P e=some z→szP P e=some sz→ensure (decide (0<sz)&&decide (z.length=sz))=some u→byP P e=some by_→
       dA P s x=some x'→dA P t y=some y'→(AOp.app grow sz by_ x' y').ok tm h→
       Done P (execOp a.eval ⟨dst,.call ⟨.builtin .append,#[x,y],#[s,t]⟩,ty,pos,after,guard⟩) w F ν ((AOp.app grow sz by_ x' y').val tm h new) ((AOp.app grow sz by_ x' y').eff tm h new) nx:=by
      intro e hu hu2 z sz u by_ x' y' h1 h2 h3 h4 h5 h6 hk;obtain⟨k1,k2,k3,k4,k5⟩:=hk;obtain⟨ii,zz,q1,q2,q3,_⟩:=iR (w:=w) (F:=F) (ν:=ν) h1;have h7:=cF h3;simp only[Bool.and_eq_true,decide_eq_true_eq]at h7;have hzz:zz.cells.size=sz:=by have:=q3.1;simp at this;omega
      obtain⟨r,w',F',ν',g1,g2,g3,g4⟩:=aRR (P:=P) (ty:=ty) (grow:=grow) hs hnew hnx hu hu2 h2 h4 q1 q2 hzz h7.1 (aN ht h5) (aN ht h6) k1 k2 k3 k4 k5;exact⟨r,w',F',ν',.inl (by simp[execOp,resolve,invoke,builtin,g1]),g4,g2,g3⟩
     split at hc
     ·rename_i e e' hu1 hu2;simp only[Option.bind_eq_bind,oB9,sI9]at hc;obtain⟨z,h1,sz,h2,u,h3,by_,h4,x',h5,y',h6,rfl⟩:=hc;exact main e hu1 (.inr ⟨_,hu2⟩) z sz u by_ x' y' h1 h2 h3 h4 h5 h6 hok
     ·rename_i e hu1 hu2;simp only[Option.bind_eq_bind,oB9,sI9]at hc;obtain⟨z,h1,sz,h2,u,h3,by_,h4,x',h5,y',h6,rfl⟩:=hc;exact main e hu1 (.inl hu2) z sz u by_ x' y' h1 h2 h3 h4 h5 h6 hok
     ·rename_i e kk hu1 hu2;simp only[Option.bind_eq_bind,oB9,sI9]at hc;obtain⟨z,h1,sz,h2,u,h3,by_,h4,x',h5,y',h6,rfl⟩:=hc;obtain⟨k1,k2,k3,k4,k5,k6,k7⟩:=hok;have h7:=cF h3;simp only[Bool.and_eq_true,decide_eq_true_eq]at h7;obtain⟨r,w',ν',g1,g2,g3,g4⟩:=aPJ (P:=P) (ty:=ty) hs hnew hnx hu1 hu2 h2 h7.1 h4 h1 h7.2 (aN ht h5) (aN ht h6) k1 k2 k3 k4 k5 k6 k7;exact⟨r,w',F,ν',.inl (by simp[execOp,resolve,invoke,builtin,g1]),g4,g2,g3⟩
     ·cases hc
    ·cases hc
   case len=>
    split at hc
    ·rename_i t x e1 e2;have e3:argTypes= #[t]:=Array.toList_inj.1 (by simpa using e1);have e4:args= #[x]:=Array.toList_inj.1 (by simpa using e2);subst e3;subst e4;split at hc
     ·rename_i hu;simp only[Option.bind_eq_bind,oB9,sI9]at hc;obtain⟨x',h1,rfl⟩:=hc;obtain⟨r,g1,g2⟩:=aJU (P:=P) (ty:=ty) hu (aN ht h1) hok;exact Done.still hs (by simp[execOp,resolve,invoke,builtin,g1]) g2
     ·rename_i e hu;simp only[Option.bind_eq_bind,oB9,sI9]at hc;obtain⟨x',h1,rfl⟩:=hc;obtain⟨r,g1,g2⟩:=aF9 (P:=P) (ty:=ty) hu (aN ht h1) hok;exact Done.still hs (by simp[execOp,resolve,invoke,builtin,g1]) g2
     ·cases hc
    ·cases hc
   case cap=>
    split at hc
    ·rename_i t x e1 e2;have e3:argTypes= #[t]:=Array.toList_inj.1 (by simpa using e1);have e4:args= #[x]:=Array.toList_inj.1 (by simpa using e2);subst e3;subst e4;split at hc
     ·rename_i e hu;simp only[Option.bind_eq_bind,oB9,sI9]at hc;obtain⟨x',h1,rfl⟩:=hc;obtain⟨b,g1⟩:=aRT (aN ht h1) hok;exact Done.still (v:= .int .i64 ((x'.ev tm).len:Nat)) hs (by simp[execOp,resolve,invoke,builtin,Builtin.cap_,g1,run_underlying hu,goInt]) (by simp[AOp.val,VD,VA])
     ·cases hc
    ·cases hc
   case max=>
    simp only[Option.bind_eq_bind,oB9,sI9]at hc;obtain⟨cs,h1,rfl⟩:=hc;obtain⟨r,g1,g2⟩:=mm true cs h1 hok;simp only[if_true]at g1;exact Done.still hs (by simp[execOp,resolve,invoke,builtin,g1]) g2
   case min=>
    simp only[Option.bind_eq_bind,oB9,sI9]at hc;obtain⟨cs,h1,rfl⟩:=hc;obtain⟨r,g1,g2⟩:=mm false cs h1 hok;simp only[Bool.false_eq_true,if_false]at g1;exact Done.still hs (by simp[execOp,resolve,invoke,builtin,g1]) g2
  | value f=>cases hc
  | invoke r m=>cases hc
 | makeInterface t x=>simp only[sI9]at hc;subst hc;exact hok.elim
 | panic x=>simp only[sI9]at hc;subst hc;exact hok.elim
 | _=>cases hc
end
end Go.Ab
