/- Texts of this proof, laid one behind the other (Lb0, Lb1, Na, Nb, Cf). -/
import Derived.Shelf.Small.Strs
import Derived.Shelf.Strings.Prefix
import Derived.Shelf.Strings.Search3
import Derived.Shelf.Strings.SlTrimAscii
import Derived.Shelf.GgClosure.StringsIndexFuncTop
import Derived.Test.YtdpbobkcbakpfaaGreatDoorProg
import Derived.WalkKit
import Derived.Below
import Derived.Test.YtdpbobkcbakpfaaGreatDoorMrpD
namespace Go.Proofs
open Go.Shelf
def Tryz.aB9:Go.Shelf.Ren:=⟨fun | 106=>269 | 213=>285 | 265=>293 | n=>n,fun | 9=>9 | 3=>3 | n=>n,fun | n=>n⟩
theorem Tryz.aK4:Go.Proofs.Lays.n106 Tryz.prog Tryz.aB9:={
 mixed:=by kernel_rfl
 f106:=Tryz.func269.trans (congrArg some (by kernel_rfl))
 f213:=Tryz.func285.trans (congrArg some (by kernel_rfl))
 f265:=Tryz.func293.trans (congrArg some (by kernel_rfl))
 t3:=Tryz.underlying3
 a3:=Tryz.isAgg3
 z3:=Tryz.sizeOf3
 v3:=Tryz.zeroValue3
 t9:=Tryz.underlying9
 a9:=Tryz.isAgg9
 z9:=Tryz.sizeOf9
 v9:=Tryz.zeroValue9 }
def Tryz.aBA:Go.Shelf.Ren:=⟨fun | 144=>259 | 143=>282 | 219=>292 | 217=>295 | 225=>290 | 224=>289 | 267=>296 | 266=>297 | 314=>298 | n=>n,fun | 9=>9 | 4=>4 | 3=>3 | 5=>5 | 46=>207 | 146=>263 | 51=>232 | n=>n,fun | 1=>2 | n=>n⟩
theorem Tryz.aK5:Go.Proofs.Lays.n144 Tryz.prog Tryz.aBA:={
 mixed:=by kernel_rfl
 f143:=Tryz.func282.trans (congrArg some (by kernel_rfl))
 f144:=Tryz.func259.trans (congrArg some (by kernel_rfl))
 f217:=Tryz.func295.trans (congrArg some (by kernel_rfl))
 f219:=Tryz.func292.trans (congrArg some (by kernel_rfl))
 f224:=Tryz.func289.trans (congrArg some (by kernel_rfl))
 f225:=Tryz.func290.trans (congrArg some (by kernel_rfl))
 f266:=Tryz.func297.trans (congrArg some (by kernel_rfl))
 f267:=Tryz.func296.trans (congrArg some (by kernel_rfl))
 f314:=Tryz.func298.trans (congrArg some (by kernel_rfl))
 t3:=Tryz.underlying3
 a3:=Tryz.isAgg3
 z3:=Tryz.sizeOf3
 v3:=Tryz.zeroValue3
 t4:=Tryz.underlying4
 a4:=Tryz.isAgg4
 z4:=Tryz.sizeOf4
 v4:=Tryz.zeroValue4
 t5:=Tryz.underlying5
 a5:=Tryz.isAgg5
 z5:=Tryz.sizeOf5
 v5:=Tryz.zeroValue5
 t9:=Tryz.underlying9
 a9:=Tryz.isAgg9
 z9:=Tryz.sizeOf9
 v9:=Tryz.zeroValue9
 t46:=Tryz.underlying207
 a46:=Tryz.isAgg207
 z46:=Tryz.sizeOf207
 v46:=Tryz.zeroValue207
 t51:=Tryz.underlying232
 a51:=Tryz.isAgg232
 z51:=Tryz.sizeOf232
 v51:=Tryz.zeroValue232
 t146:=Tryz.underlying263
 a146:=Tryz.isAgg263
 z146:=Tryz.sizeOf263
 v146:=Tryz.zeroValue263
 g1:=by kernel_rfl }
def Tryz.aBB:Go.Shelf.Ren:=⟨fun | 160=>151 | 232=>188 | 231=>187 | 227=>189 | 234=>191 | 233=>190 | 236=>193 | 235=>192 | 228=>231 | 271=>234 | 151=>233 | 197=>232 | 120=>274 | 152=>273 | 260=>272 | 137=>287 | 119=>288 | 224=>289 | 225=>290 | 217=>295 | 266=>297 | n=>n,fun | 9=>9 | 4=>4 | 3=>3 | 5=>5 | 117=>198 | 116=>197 | 0=>0 | 124=>201 | 21=>21 | 105=>220 | 46=>207 | 119=>256 | 139=>259 | 138=>258 | n=>n,fun | 3=>0 | 4=>1 | n=>n⟩
theorem Tryz.aK6:Go.Proofs.Lays.n160 Tryz.prog Tryz.aBB:={
 mixed:=by kernel_rfl
 f119:=Tryz.func288.trans (congrArg some (by kernel_rfl))
 f120:=Tryz.func274.trans (congrArg some (by kernel_rfl))
 f137:=Tryz.func287.trans (congrArg some (by kernel_rfl))
 f151:=Tryz.func233.trans (congrArg some (by kernel_rfl))
 f152:=Tryz.func273.trans (congrArg some (by kernel_rfl))
 f160:=Tryz.func151.trans (congrArg some (by kernel_rfl))
 f197:=Tryz.func232.trans (congrArg some (by kernel_rfl))
 f217:=Tryz.func295.trans (congrArg some (by kernel_rfl))
 f224:=Tryz.func289.trans (congrArg some (by kernel_rfl))
 f225:=Tryz.func290.trans (congrArg some (by kernel_rfl))
 f227:=Tryz.func189.trans (congrArg some (by kernel_rfl))
 f228:=Tryz.func231.trans (congrArg some (by kernel_rfl))
 f231:=Tryz.func187.trans (congrArg some (by kernel_rfl))
 f232:=Tryz.func188.trans (congrArg some (by kernel_rfl))
 f233:=Tryz.func190.trans (congrArg some (by kernel_rfl))
 f234:=Tryz.func191.trans (congrArg some (by kernel_rfl))
 f235:=Tryz.func192.trans (congrArg some (by kernel_rfl))
 f236:=Tryz.func193.trans (congrArg some (by kernel_rfl))
 f260:=Tryz.func272.trans (congrArg some (by kernel_rfl))
 f266:=Tryz.func297.trans (congrArg some (by kernel_rfl))
 f271:=Tryz.func234.trans (congrArg some (by kernel_rfl))
 t0:=Tryz.underlying0
 a0:=Tryz.isAgg0
 z0:=Tryz.sizeOf0
 v0:=Tryz.zeroValue0
 t3:=Tryz.underlying3
 a3:=Tryz.isAgg3
 z3:=Tryz.sizeOf3
 v3:=Tryz.zeroValue3
 t4:=Tryz.underlying4
 a4:=Tryz.isAgg4
 z4:=Tryz.sizeOf4
 v4:=Tryz.zeroValue4
 t5:=Tryz.underlying5
 a5:=Tryz.isAgg5
 z5:=Tryz.sizeOf5
 v5:=Tryz.zeroValue5
 t9:=Tryz.underlying9
 a9:=Tryz.isAgg9
 z9:=Tryz.sizeOf9
 v9:=Tryz.zeroValue9
 t21:=Tryz.underlying21
 a21:=Tryz.isAgg21
 z21:=Tryz.sizeOf21
 v21:=Tryz.zeroValue21
 t46:=Tryz.underlying207
 a46:=Tryz.isAgg207
 z46:=Tryz.sizeOf207
 v46:=Tryz.zeroValue207
 t105:=Tryz.underlying220
 a105:=Tryz.isAgg220
 z105:=Tryz.sizeOf220
 v105:=Tryz.zeroValue220
 t116:=Tryz.underlying197
 a116:=Tryz.isAgg197
 z116:=Tryz.sizeOf197
 t117:=Tryz.underlying198
 a117:=Tryz.isAgg198
 z117:=Tryz.sizeOf198
 v117:=Tryz.zeroValue198
 t119:=Tryz.underlying256
 a119:=Tryz.isAgg256
 z119:=Tryz.sizeOf256
 t124:=Tryz.underlying201
 a124:=Tryz.isAgg201
 z124:=Tryz.sizeOf201
 v124:=Tryz.zeroValue201
 t138:=Tryz.underlying258
 a138:=Tryz.isAgg258
 z138:=Tryz.sizeOf258
 v138:=Tryz.zeroValue258
 t139:=Tryz.underlying259
 a139:=Tryz.isAgg259
 z139:=Tryz.sizeOf259
 v139:=Tryz.zeroValue259
 g3:=by kernel_rfl
 g4:=by kernel_rfl }
def Tryz.aBC:Go.Shelf.Ren:=⟨fun | 15=>225 | 20=>265 | n=>n,fun | 9=>9 | 23=>217 | 3=>3 | 4=>4 | 0=>0 | 21=>21 | n=>n,fun | n=>n⟩
theorem Tryz.aK7:Go.Proofs.LaysGw.n15 Tryz.prog Tryz.aBC:={
 mixed:=by kernel_rfl
 f15:=Tryz.func225.trans (congrArg some (by kernel_rfl))
 f20:=Tryz.func265.trans (congrArg some (by kernel_rfl))
 t0:=Tryz.underlying0
 a0:=Tryz.isAgg0
 z0:=Tryz.sizeOf0
 v0:=Tryz.zeroValue0
 i0:=by kernel_rfl
 t3:=Tryz.underlying3
 a3:=Tryz.isAgg3
 z3:=Tryz.sizeOf3
 v3:=Tryz.zeroValue3
 i3:=by kernel_rfl
 t4:=Tryz.underlying4
 a4:=Tryz.isAgg4
 z4:=Tryz.sizeOf4
 v4:=Tryz.zeroValue4
 i4:=by kernel_rfl
 t9:=Tryz.underlying9
 a9:=Tryz.isAgg9
 z9:=Tryz.sizeOf9
 v9:=Tryz.zeroValue9
 i9:=by kernel_rfl
 t21:=Tryz.underlying21
 a21:=Tryz.isAgg21
 z21:=Tryz.sizeOf21
 v21:=Tryz.zeroValue21
 i21:=by kernel_rfl
 t23:=Tryz.underlying217
 a23:=Tryz.isAgg217
 z23:=Tryz.sizeOf217
 v23:=Tryz.zeroValue217
 i23:=by kernel_rfl }
def Tryz.aBD:Go.Shelf.Ren:=⟨fun | 100=>258 | 207=>281 | n=>n,fun | 9=>9 | 4=>4 | 3=>3 | n=>n,fun | n=>n⟩
theorem Tryz.aK8:Go.Proofs.Lays.n100 Tryz.prog Tryz.aBD:={
 mixed:=by kernel_rfl
 f100:=Tryz.func258.trans (congrArg some (by kernel_rfl))
 f207:=Tryz.func281.trans (congrArg some (by kernel_rfl))
 t3:=Tryz.underlying3
 a3:=Tryz.isAgg3
 z3:=Tryz.sizeOf3
 v3:=Tryz.zeroValue3
 t4:=Tryz.underlying4
 a4:=Tryz.isAgg4
 z4:=Tryz.sizeOf4
 v4:=Tryz.zeroValue4
 t9:=Tryz.underlying9
 a9:=Tryz.isAgg9
 z9:=Tryz.sizeOf9
 v9:=Tryz.zeroValue9 }
end Go.Proofs

namespace Go.Ab
open Go Go.Proofs Go.RowKit
theorem PSp.lib {P:Program} {f:FuncId} {xs:List D} {r:D} {vs:Array Value} {v:Value} (hvs:∀ w F ν us,oQ w F ν xs us→us=vs) (hv:∀ w F ν,VD w F ν r v)
  (hC:∀ w:World,(∃m,w.cell? ⟨aAK,0,none⟩=some (.int .i64 m))→Calls P f vs w fun e w'=>e= .returned v∧Below w.heap.size w w'):PSp P f xs r:=by
 intro h n w F ν us hs ha
 rw[hvs _ _ _ _ ha]
 refine(hC w hs.glob.2).mono ?_
 rintro e w' ⟨rfl,hB⟩
 obtain⟨g1,g2⟩:=hs.ext (F':=F) ⟨hB.os,hB.tape,hB.output⟩ hB.size hB.block (fun _ _ h=>h) fun _ _ h=> .inl h
 exact⟨r,v,h,F,ν,rfl,⟨rfl,rfl⟩,g1.more (Nat.le_add_right _ _),hv _ _ _,g2⟩
theorem mF {w:World} {F:Fix} {ν:Nu} {a b:ByteArray} {us:Array Value} (h:oQ w F ν [.one (.t (.str a)),.one (.t (.str b))] us):us= #[.string a,.string b]:=by
 obtain⟨h1,h2⟩:=h
 obtain⟨l⟩:=us
 match l,h1 with
 | [u,v],_=>
  have k0:VT w F (.str a) u:=h2 0 _ u rfl rfl
  have k1:VT w F (.str b) v:=h2 1 _ v rfl rfl
  cases k0;cases k1;rfl
theorem aBE {w:World} {F:Fix} {ν:Nu} {a:ByteArray} {f:FuncId} {us:Array Value} (h:oQ w F ν [.one (.t (.str a)),.one (.fn f [])] us):us= #[.string a,.func (.func f) #[] #[]]:=by
 obtain⟨h1,h2⟩:=h
 obtain⟨l⟩:=us
 match l,h1 with
 | [u,v],_=>
  have k0:VT w F (.str a) u:=h2 0 _ u rfl rfl
  obtain⟨us,k1,k2,_⟩:VA w F ν (.fn f []) v:=h2 1 _ v rfl rfl
  cases k0
  have:us= #[]:=by simpa using k2
  rw[k1,this]
end Go.Ab
namespace Go.Proofs.YtdpbobkcbakpfaaGreatDoor
open Go Go.Ab Go.Proofs Go.Shelf Go.RowKit
theorem aHN (s:ByteArray) (hs:s.size≤9223372036854775807):PSp Tryz.prog 151 [.one (.t (.str s)),.one (.t (.str (bs [48,49])))] (.one (.t (.str ⟨(Lib.trimS s.data.toList [48,49]).toArray⟩))):=
 PSp.lib (fun _ _ _ _ h=>mF h) (fun _ _ _=> .str _) fun w _=>by
  have h:=Any.strings_Trim_laid Tryz.aK6 (by kernel_rfl) s ⟨#[48,49]⟩ w hs (by decide) (ascii_of_all (by decide))
  exact h
theorem aHO (a b:ByteArray):PSp Tryz.prog 269 [.one (.t (.str a)),.one (.t (.str b))] (.one (.t (.int .i64 (Lib.compareBytes a.data.toList b.data.toList)))):=
 PSp.lib (fun _ _ _ _ h=>mF h) (fun _ _ _=> .int _ _) fun w _=>(Any.strings_Compare Tryz.aK4 a b w).mono fun e w' h=>⟨h.1,by rw[h.2];exact Below.refl _ _⟩
theorem aFK (s t:ByteArray) (hs:s.size<4294967281):PSp Tryz.prog 259 [.one (.t (.str s)),.one (.t (.str t))] (.one (.t (.bool (Lib.contains s.data.toList t.data.toList)))):=
 PSp.lib (fun _ _ _ _ h=>mF h) (fun _ _ _=> .bool _) fun w hg=>by
  obtain⟨m,hm⟩:=hg
  exact(Any.strings_Contains Tryz.aK5 s t m w hs hm).mono fun e w' h=>⟨h.1,by rw[h.2];exact Below.refl _ _⟩
theorem aHP (x:Nat) (w:World):Calls Tryz.prog 226 #[.int .i32 x] w fun e w'=>e= .returned (.bool (decide (127<x)))∧w'=w:=by
 go_enter Tryz.func226,Tryz.ntmps226
 go_wp2
 go_ret
 refine⟨?_,rfl⟩
 congr 2
 simp
 try omega
theorem aD9 (s:ByteArray):PSp Tryz.prog 225 [.one (.t (.str s)),.one (.fn 226 [])] (.one (.t (.int .i64 (Lib.idxFunc (fun x=>decide (127<x)) true s)))):=
 PSp.lib (fun _ _ _ _ h=>aBE h) (fun _ _ _=> .int _ _) fun w _=>by
  have h:=Any.strings_IndexFunc Tryz.aK7 226 #[] (enters_of Tryz.func226 (by kernel_rfl) rfl) (fun x=>decide (127<x)) s w (fun W x _=>(aHP x W).mono fun e w' h=>⟨h.1,0,by rw[h.2];rfl⟩)
  exact h
end Go.Proofs.YtdpbobkcbakpfaaGreatDoor
namespace Go.Proofs.YtdpbobkcbakpfaaGreatDoor
open Go Go.Ab Go.Proofs Go.Shelf Go.RowKit
theorem aDA (s t:ByteArray) (hs:s.size≤9223372036854775807):PSp Tryz.prog 258 [.one (.t (.str s)),.one (.t (.str t))] (.one (.t (.bool (Lib.hasSuffix s.data.toList t.data.toList)))):=
 PSp.lib (fun _ _ _ _ h=>mF h) (fun _ _ _=> .bool _) fun w hg=>
  (Any.strings_HasSuffix Tryz.aK8 s t w hs).mono fun e w' h=>⟨h.1,by rw[h.2];exact Below.refl _ _⟩
end Go.Proofs.YtdpbobkcbakpfaaGreatDoor

namespace Go.Proofs.YtdpbobkcbakpfaaGreatDoor
open Go Go.Ab
set_option maxRecDepth 100000
set_option maxHeartbeats 4000000
theorem eqCases (a b:Int):a=b∨((a==b)=false∧¬a=b∧¬b=a∧(b==a)=false∧(a != b)=true∧(b != a)=true):=by
 by_cases h:a=b
 ·exact .inl h
 ·have h':¬ b=a:=fun e=>h e.symm
  exact .inr ⟨by simp[h],h,h',by simp[h'],by simp[h],by simp[h']⟩
def bJ (a b:ByteArray):Bool:=a.toList==b.toList
def tQ (l:List ByteArray) (s:ByteArray):Int:=match l.findIdx? (fun x=>bJ x s)with | some i=>(i:Int) | none=> -1
def aFL (l:List ByteArray) (s:ByteArray):Bool:=l.any fun x=>bJ x s
section
variable {P:Program} {n:Nat} {A:Exit→St→Prop} {ks:List KF} {st:St} {x:aC}
theorem mG {α:Type} (l:List α) (p:α→Bool) (kt kh:List Nat) (X:Nat→St→Prop) (hs:short l) (h0:X 0 st∧cP kt st.tmps st.tmps∧eK kh st.heap st.heap st.nx)
  (round:∀ i y st',i<l.length→(i:Int)<(l.length:Int)→IntKind.i64.wrap ((i:Int)+1)=((i+1:Nat):Int)→l[i]? =some y→y∈l→(p y=true→l.findIdx? p=some i)→
   X i st'→cP kt st.tmps st'.tmps→eK kh st.heap st'.heap st'.nx→aX P n A x (.post (fun st''=>p y=false∧X (i+1) st''∧cP kt st.tmps st''.tmps∧eK kh st.heap st''.heap st''.nx)::ks) st')
  (last:∀ st',l.findIdx? p=none→X l.length st'→cP kt st.tmps st'.tmps→eK kh st.heap st'.heap st'.nx→aX P n A x (.post (fun _=>False)::ks) st'):W P n (.loop x) (kont P n A ks) st:=by
 refine W.loop (fun k st'=>∃ i,k=l.length - i∧i≤l.length∧(∀y∈l.take i,p y=false)∧X i st'∧cP kt st.tmps st'.tmps∧eK kh st.heap st'.heap st'.nx) l.length ⟨0,by omega,by omega,by simp,h0⟩ ?_
 rintro k st' ⟨i,rfl,hi,ha,hJ,hT,hH⟩
 rcases Nat.lt_or_ge i l.length with h | h
 ·have hy:l[i]? =some l[i]:=List.getElem?_eq_getElem h
  have e:List.take (i+1) l=List.take i l++[l[i]]:=by rw[List.take_add_one,hy];rfl
  refine eB (round i _ st' h (by omega) (nK h hs) hy (List.getElem_mem h) (fun hr=>?_) hJ hT hH) fun st'' hq=>⟨l.length - (i+1),by omega,i+1,rfl,by omega,?_,hq.2⟩
  ·rw[List.findIdx?_eq_some_iff_getElem]
   refine⟨h,hr,fun j hj=>?_⟩
   have:=ha l[j] (List.mem_take_iff_getElem.2 ⟨j,by omega,rfl⟩)
   simp[this]
  ·rw[e]
   intro y hy
   rcases List.mem_append.1 hy with hy | hy
   ·exact ha y hy
   ·simp at hy;rw[hy];exact hq.1
 ·have:i=l.length:=by omega
  subst this
  rw[List.take_length]at ha
  exact eB (last st' (by rw[List.findIdx?_eq_none_iff];exact ha) hJ hT hH) fun st'' h=>h.elim
end
theorem bD {P:Program} {n:Nat} {A:Exit→St→Prop} {ks:List KF} {st:St} {x:aC} {α:Type} (l:List α) (p:α→Bool) (kt kh:List Nat) (X:Nat→St→Prop) (hs:short l) (h0:X 0 st∧cP kt st.tmps st.tmps∧eK kh st.heap st.heap st.nx)
  (round:∀ i y st',i<l.length→(i:Int)<(l.length:Int)→IntKind.i64.wrap ((i:Int)+1)=((i+1:Nat):Int)→l[i]? =some y→y∈l→(p y=true→l.any p=true)→
   X i st'→cP kt st.tmps st'.tmps→eK kh st.heap st'.heap st'.nx→aX P n A x (.post (fun st''=>p y=false∧X (i+1) st''∧cP kt st.tmps st''.tmps∧eK kh st.heap st''.heap st''.nx)::ks) st')
  (last:∀ st',l.any p=false→X l.length st'→cP kt st.tmps st'.tmps→eK kh st.heap st'.heap st'.nx→aX P n A x (.post (fun _=>False)::ks) st'):W P n (.loop x) (kont P n A ks) st:=
 mG l p kt kh X hs h0 (fun i y st' hi hiI hw hg hy _ hx hk hh=>round i y st' hi hiI hw hg hy (fun e=>List.any_eq_true.2 ⟨y,hy,e⟩) hx hk hh)
  fun st' h=>last st' (by rw[List.findIdx?_eq_none_iff]at h;rw[List.any_eq_false];exact fun x hx=>by simp[h x hx])
attribute [local simp] c243b6 c243 in
theorem aRN (l:List ByteArray) (s:ByteArray) (hl:short l):PSp Tryz.prog 243 [.one (.t (aN l)),.one (.t (.str s))] (.one (.t (I (tQ l s)))):=by
 refine k243.aH (by simp) rfl rfl ?_
 simp -implicitDefEqProofs [-aA,-gval,aN]
 refine mG l (fun x=>bJ x s) [0,1] [] (fun i st=>st.tmps 5= .one (.t (I i))) hl ⟨by simp,by simp,by simp⟩ ?_ ?_
 ·intro i y st hi hiI hw hg hy hany hx hk hh
  simp at hk
  simp -implicitDefEqProofs [-aA,-gval,hx,hk,hiI,hi,aE hg,hw,aB]
  exact⟨fun e=>by simp[tQ,hany (by simp[bJ,e])],fun e=>by simp[bJ,e]⟩
 ·intro st hany hx hk hh
  simp at hk
  simp -implicitDefEqProofs [-aA,-gval,hx,hk,aB,tQ,hany]
attribute [local simp] c206 in
theorem aOP (l:List ByteArray) (s:ByteArray) (hl:short l):PSp Tryz.prog 206 [.one (.t (aN l)),.one (.t (.str s))] (.one (.t (.bool (aFL l s)))):=by
 refine k206.aH (by simp) rfl rfl ?_
 simp -implicitDefEqProofs [-aA,-gval,aN]
 refine aD.tree (aRN l s hl) rfl ?_
 simp -implicitDefEqProofs [-aA,-gval,aB,tQ,aFL]
 cases h:l.findIdx? fun x=>bJ x s with
 | none=>
  rw[List.findIdx?_eq_none_iff]at h
  simp
  exact fun x hx=>h x hx
 | some i=>
  rw[List.findIdx?_eq_some_iff_getElem]at h
  obtain⟨h1,h2,_⟩:=h
  have e:(l.any fun x=>bJ x s)=true:=List.any_eq_true.2 ⟨_,List.getElem_mem h1,h2⟩
  rw[e]
  simp
def ints (l:List Int):T:= .rows 1 (l.map fun a=>[I a])
attribute [local simp] c46b6 c46 in
theorem P46 (l:List Int) (n:Int) (hl:short l):PSp Tryz.prog 46 [.one (.t (ints l)),.one (.t (I n))] (.one (.t (.bool (l.any fun x=>x==n)))):=by
 refine k46.aH (by simp) rfl rfl ?_
 simp -implicitDefEqProofs [-aA,-gval,ints]
 refine bD l (fun x=>x==n) [0,1] [] (fun i st=>st.tmps 5= .one (.t (I i))) hl ⟨by simp,by simp,by simp⟩ ?_ ?_
 ·intro i y st hi hiI hw hg hy hany hx hk hh
  simp at hk
  simp -implicitDefEqProofs [-aA,-gval,hx,hk,hiI,hi,aE hg,hw,aB]
  simpa using hany
 ·intro st hany hx hk hh
  simp at hk hany
  simp -implicitDefEqProofs [-aA,-gval,hx,hk,aB]
  exact hany
def chars (s:ByteArray):List Int:=s.data.toList.map fun b=>(b.toNat:Int)
theorem cI (s:ByteArray):(chars s).length=s.size:=by simp[chars]
theorem gW {s:ByteArray} {c:Int} (h:c∈chars s):0≤c∧c<256:=by
 simp only[chars,List.mem_map]at h
 obtain⟨b,_,rfl⟩:=h
 have:=b.toNat_lt
 omega
def aFM (c:Int):Bool:=decide (97≤c)&&decide (c≤122)
def aFN (c:Int):Bool:=decide (65≤c)&&decide (c≤90)
def isLet (c:Int):Bool:=aFM c||aFN c
def sR (c:Int):Bool:=decide (48≤c)&&decide (c≤57)
theorem aRO (c:Int):PSp Tryz.prog 242 [.one (.t (.int .u8 c))] (.one (.t (.bool (sR c)))):=aRE c
theorem aOQ (c:Int):PSp Tryz.prog 240 [.one (.t (.int .u8 c))] (.one (.t (.bool (aFM c)))):=aRC c
theorem aOR (c:Int):PSp Tryz.prog 241 [.one (.t (.int .u8 c))] (.one (.t (.bool (aFN c)))):=aRD c
def kH (l:List Int) (i:Nat):Bool:=let c:=l.getD i 0;sR c||isLet c||c==95||(c==45&& !(l.getD (i - 1) 0==45))
def aZ (s:ByteArray):Bool:=let l:=chars s
 decide (1≤l.length)&&decide (l.length≤32)&&isLet (l.getD 0 0)&& !(l.getD (l.length - 1) 0==45)&&(List.range (l.length - 1)).all fun i=>kH l (i+1)
theorem pO (s:ByteArray) (k:Int):D.ixs (some k) (.one (.t (.str s)))= .one (.t (.int .u8 ((chars s).getD k.toNat 0))):=by
 simp only[D.ixs,Option.getD_some,chars,List.getD_eq_getElem?_getD,List.getElem?_map]
 cases s.data.toList[k.toNat]? <;>rfl
attribute [local simp] pO D.mZ
theorem gL {n i y:Nat} (h:(List.range n)[i]? =some y):y=i:=by
 rw[List.getElem?_range]at h
 ·simpa using h.symm
 ·rcases Nat.lt_or_ge i n with g | g
  ·exact g
  ·rw[List.getElem?_eq_none (by simpa using g)]at h;cases h
attribute [local simp] c205t3 c205t6 c205t10 c205t11 c205t13 c205b14 c205t15 c205t17 c205t18 c205 in
theorem aMQ (s:ByteArray) (h1:0<s.size) (h2:s.size≤32) (h3:isLet ((chars s).getD 0 0)=true) (h4:((chars s).getD (s.size - 1) 0==45)=false) (st:St) (h0:st.tmps 0= .one (.t (.str s))):
  aX Tryz.prog 66 (aB [.tmp 2] (.one (.t (.bool (aZ s))))) c205t17 [] st:=by
 have e0:aZ s= !(List.range (s.size - 1)).any fun i=> !kH (chars s) (i+1):=by
  simp only[aZ,cI,h3,h4]
  simp[show 1≤s.size by omega,h2,List.not_any_eq_all_not]
 simp -implicitDefEqProofs [-aA,-gval]
 refine bD (List.range (s.size - 1)) (fun i=> !kH (chars s) (i+1)) [0] [] (fun i st=>st.tmps 3= .one (.t (I (i+1)))) (by simp[short];omega) ⟨by simp,by simp,by simp⟩ ?_ ?_
 ·intro i y st hi hiI hw hg hy hany hx hk hh
  obtain rfl:=gL hg
  simp[h0]at hk hi
  have hi':(y:Int)+1<(s.size:Int):=by omega
  have hw2:IntKind.i64.wrap (y:Int)=(y:Int):=aG y (by omega) (by omega)
  have hw3:IntKind.i64.wrap ((y:Int)+1+1)=(y:Int)+1+1:=by have:=aG (x:=(y:Int)+1+1) (y+2) (by omega) (by omega);rw[this];omega
  have e1:((y:Int)+1).toNat=y+1:=by omega
  have e3:(0:Int)≤(y:Int)+1:=by omega
  have e4:y<s.size:=by omega
  have e5:(y:Int)<(s.size:Int):=by omega
  obtain⟨c,hc⟩:∃ c,(chars s)[y+1]?.getD 0=c:=⟨_,rfl⟩
  obtain⟨d,hd⟩:∃ c,(chars s)[y]?.getD 0=c:=⟨_,rfl⟩
  have e2:kH (chars s) (y+1)=(sR c||aFM c||aFN c||c==95||(c==45&& !(d==45))):=by simp[kH,hc,hd,isLet,Bool.or_assoc]
  rw[e0]
  rw[e2]at hany ⊢
  simp -implicitDefEqProofs [-aA,-gval,h0,hx,hk,hi',e1,hc,e3]
  refine aD.tree (aRO _) rfl ?_
  cases d1:sR c with
  | true=>simp -implicitDefEqProofs [-aA,-gval,hx,hk,hw3]
  | false=>
   simp -implicitDefEqProofs [-aA,-gval,hx,hk]
   refine aD.tree (aOQ _) rfl ?_
   cases d2:aFM c with
   | true=>simp -implicitDefEqProofs [-aA,-gval,hx,hk,hw3]
   | false=>
    simp -implicitDefEqProofs [-aA,-gval,hx,hk]
    refine aD.tree (aOR _) rfl ?_
    cases d3:aFN c with
    | true=>simp -implicitDefEqProofs [-aA,-gval,hx,hk,hw3]
    | false=>
     rw[d1,d2,d3]at hany
     rcases eqCases c 95 with rfl | q1
     ·simp -implicitDefEqProofs [-aA,-gval,hx,hk,hw3]
     ·rcases eqCases c 45 with rfl | q2
      ·rcases eqCases d 45 with rfl | q3
       ·simp -implicitDefEqProofs [-aA,-gval,hx,hk,hw2,hd,e5,aB]
        simpa using hany
       ·simp -implicitDefEqProofs [-aA,-gval,hx,hk,hw2,hw3,hd,e5,q3]
      ·simp -implicitDefEqProofs [-aA,-gval,hx,hk,q1,q2,aB]
       simpa[q1,q2]using hany
 ·intro st hany hx hk hh
  simp[h0]at hk
  rw[e0,hany]
  have e5:¬ ((s.size - 1:Nat):Int)+1<(s.size:Int):=by omega
  simp at hx
  simp -implicitDefEqProofs [-aA,-gval,hx,hk,e5,aB]
attribute [local simp] c205t3 c205t6 c205t10 c205t11 c205t13 c205b14 c205t15 c205t18 c205 in
theorem aK9 (s:ByteArray) (hs:s.size≤9223372036854775807):PSp Tryz.prog 205 [.one (.t (.str s))] (.one (.t (.bool (aZ s)))):=by
 refine k205.aH (by simp) rfl rfl ?_
 simp -implicitDefEqProofs [-aA,-gval]
 refine aD.tree (cW _ _ _) rfl ?_
 cases h1:(decide ((1:Int)≤(s.size:Int))&&decide ((s.size:Int)≤32))with
 | false=>
  simp -implicitDefEqProofs [-aA,-gval,aB]
  simp at h1
  simp[aZ,cI]
  omega
 | true=>
  simp at h1
  have h1':0<s.size∧s.size≤32:=by omega
  have hw1:IntKind.i64.wrap ((s.size:Int) - 1)=((s.size - 1:Nat):Int):=aG _ (by omega) (by omega)
  simp -implicitDefEqProofs [-aA,-gval,h1'.1]
  refine aD.tree (aOQ _) rfl ?_
  obtain⟨c0,hc0⟩:∃ c,(chars s)[0]?.getD 0=c:=⟨_,rfl⟩
  obtain⟨cl,hcl⟩:∃ c,(chars s)[s.size - 1]?.getD 0=c:=⟨_,rfl⟩
  have key:isLet c0=false∨(cl==45)=true→aZ s=false:=fun h=>by
   simp only[aZ,cI,List.getD_eq_getElem?_getD,hc0,hcl]
   rcases h with h | h<;>simp[h]
  have main:isLet c0=true→¬cl=45→∀st:St,st.tmps 0= .one (.t (.str s))→aX Tryz.prog 66 (aB [.tmp 2] (.one (.t (.bool (aZ s))))) c205t17 [] st:=fun h h'=>aMQ s h1'.1 h1'.2 (by simpa[hc0]using h) (by simpa[hcl]using h')
  rw[hc0]
  cases h2:aFM c0 with
  | true=>
   simp -implicitDefEqProofs [-aA,-gval,hw1,hcl]
   refine⟨by omega,fun h=>?_,fun h=>main (by simp[isLet,h2]) h _ (by simp)⟩
   simp -implicitDefEqProofs [-aA,-gval,aB,key (.inr (by simpa using h))]
  | false=>
   simp -implicitDefEqProofs [-aA,-gval,hw1,hc0,h1'.1]
   refine aD.tree (aOR _) rfl ?_
   cases h3:aFN c0 with
   | true=>
    simp -implicitDefEqProofs [-aA,-gval,hw1,hcl]
    refine⟨by omega,fun h=>?_,fun h=>main (by simp[isLet,h3]) h _ (by simp)⟩
    simp -implicitDefEqProofs [-aA,-gval,aB,key (.inr (by simpa using h))]
   | false=>simp -implicitDefEqProofs [-aA,-gval,aB,key (.inl (by simp[isLet,h2,h3]))]
end Go.Proofs.YtdpbobkcbakpfaaGreatDoor

namespace Go.Proofs.YtdpbobkcbakpfaaGreatDoor
open Go Go.Ab
set_option maxRecDepth 100000
set_option maxHeartbeats 4000000
attribute [local simp] pO D.mZ
def hZ (c:Int):Bool:=isLet c||sR c||c==95||c==45
def kZ (s:ByteArray):Bool:=decide (1≤s.size)&&decide (s.size≤32)&&isLet ((chars s).getD 0 0)&& !Lib.hasSuffix s.data.toList [45]&& !Lib.contains s.data.toList [45,45]&& !(chars s).any fun c=> !hZ c
theorem aOS (c:Int):PSp Tryz.prog 257 [.one (.t (.int .u8 c))] (.one (.t (.bool (isLet c)))):=aRG c
theorem aRP (c:Int):PSp Tryz.prog 260 [.one (.t (.int .u8 c))] (.one (.t (.bool (sR c)))):=aRF c
theorem xP (s:ByteArray) (i:Nat):(chars s).getD i 0=((s.data.toList.getD i 0).toNat:Int):=by
 simp only[chars,List.getD_eq_getElem?_getD,List.getElem?_map]
 cases s.data.toList[i]? <;>rfl
theorem dsize (s:ByteArray):s.data.toList.length=s.size:=by simp
theorem aLY (b:UInt8):(b==45)=(((b.toNat:Int))==45):=by
 rw[Bool.eq_iff_iff];simp only[beq_iff_eq]
 constructor
 ·rintro rfl;rfl
 ·intro h;apply UInt8.toNat_inj.1;simpa using(by omega:b.toNat=45)
theorem aHQ (s:ByteArray) (h:1≤s.size):Lib.hasSuffix s.data.toList [45]=((chars s).getD (s.size - 1) 0==45):=by
 rw[xP]
 have hl:=dsize s
 generalize s.data.toList=l at hl ⊢
 rw[←hl]
 obtain⟨r,b,rfl⟩:∃ r b,l=r++[b]:=by
  rcases List.eq_nil_or_concat l with h' | ⟨r,b,h'⟩
  ·subst h';simp at hl;omega
  ·exact⟨r,b,by simpa using h'⟩
 have e:(r++[b]).getD ((r++[b]).length - 1) 0=b:=by simp[List.getD_eq_getElem?_getD]
 rw[e,←aLY]
 rw[Bool.eq_iff_iff,Lib.hasSuffix,List.isSuffixOf_iff_suffix]
 constructor
 ·rintro⟨t,ht⟩
  have:=congrArg List.getLast? ht
  simp at this
  simp[this]
 ·intro hb
  simp at hb
  exact⟨r,by rw[hb]⟩
theorem aA2 (l:List UInt8):Lib.contains l [45,45]=true↔∃i:Nat,l[i]? =some (45:UInt8)∧l[i+1]? =some (45:UInt8):=by
 have occ:∀ j,Lib.occAt l [45,45] j=true↔l[j]? =some 45∧l[j+1]? =some 45:=fun j=>by
  simp only[Lib.occAt]
  rw[List.isPrefixOf_iff_prefix]
  constructor
  ·rintro⟨t,ht⟩
   have h0:=congrArg (fun x=>x[0]?) ht
   have h1:=congrArg (fun x=>x[1]?) ht
   simp[List.getElem?_drop]at h0 h1
   exact⟨h0.symm,h1.symm⟩
  ·rintro⟨h0,h1⟩
   have e0:l.drop j=45::l.drop (j+1):=by
    obtain⟨hj,e⟩:=List.getElem?_eq_some_iff.1 h0
    rw[List.drop_eq_getElem_cons hj,e]
   have e1:l.drop (j+1)=45::l.drop (j+1+1):=by
    obtain⟨hj,e⟩:=List.getElem?_eq_some_iff.1 h1
    rw[List.drop_eq_getElem_cons hj,e]
   exact⟨l.drop (j+1+1),by rw[e0,e1];rfl⟩
 rcases Lib.index_spec l [45,45]with⟨h1,h2⟩ | ⟨i,h1,h2,h3,h4⟩
 ·rw[Lib.contains,h1]
  simp
  intro x hx h
  have:=h2 x (by have:=(List.getElem?_eq_some_iff.1 hx).1;omega)
  rw[(occ x).2 ⟨hx,h⟩]at this
  cases this
 ·rw[Lib.contains,h1]
  simp
  exact⟨i,(occ i).1 (by first | exact h3 | exact h4)⟩
theorem tR (s:ByteArray) (i:Nat):s.data.toList[i]? =some (45:UInt8)↔i<s.size∧(chars s).getD i 0=45:=by
 rw[xP]
 have hl:=dsize s
 generalize s.data.toList=l at hl ⊢
 rw[←hl,List.getD_eq_getElem?_getD]
 rcases Nat.lt_or_ge i l.length with h | h
 ·rw[List.getElem?_eq_getElem h]
  simp only[Option.some.injEq,Option.getD_some,h,true_and]
  have:=aLY l[i]
  rw[Bool.eq_iff_iff]at this
  simpa using this
 ·rw[List.getElem?_eq_none h]
  simp
theorem aDB (s:ByteArray):kZ s=aZ s:=by
 simp only[kZ,aZ,cI]
 rcases Nat.lt_or_ge 0 s.size with h1 | h1
 ·have h1':1≤s.size:=h1
  rw[aHQ s h1']
  cases hL:isLet ((chars s).getD 0 0)with
  | false=>simp
  | true=>
   cases h45:((chars s).getD (s.size - 1) 0==45)with
   | true=>simp
   | false=>
    simp only[h1',decide_true,Bool.true_and,Bool.and_true,Bool.not_false,Bool.and_assoc]
    congr 1
    rw[Bool.eq_iff_iff]
    simp only[Bool.and_eq_true,Bool.not_eq_true',Bool.eq_false_iff,ne_eq,aA2,List.any_eq_true,List.all_eq_true,List.mem_range,not_exists,not_and]
    have hget:∀ i,i<s.size→(chars s)[i]? =some ((chars s).getD i 0):=fun i hi=>by
     rw[List.getD_eq_getElem?_getD,List.getElem?_eq_getElem (by rw[cI];exact hi)];rfl
    constructor
    ·rintro⟨ha,hb⟩ i hi
     have e1:hZ ((chars s).getD (i+1) 0)=true:=by
      have:=hb _ (List.mem_of_getElem? (hget (i+1) (by omega)))
      simpa using this
     have e2:(chars s).getD i 0=45→¬(chars s).getD (i+1) 0=45:=fun g1 g2=>ha i ((tR s i).2 ⟨by omega,g1⟩) ((tR s (i+1)).2 ⟨by omega,g2⟩)
     simp only[kH,Nat.add_sub_cancel]
     generalize (chars s).getD (i+1) 0=c at*
     generalize (chars s).getD i 0=d at*
     simp only[hZ]at e1
     simp at e1 ⊢
     grind
    ·intro ha
     have hr:∀ i,i<s.size - 1→hZ ((chars s).getD (i+1) 0)=true∧((chars s).getD (i+1) 0=45→¬(chars s).getD i 0=45):=fun i hi=>by
      have:=ha i hi
      simp only[kH,Nat.add_sub_cancel]at this
      generalize (chars s).getD (i+1) 0=c at*
      generalize (chars s).getD i 0=d at*
      simp only[hZ]
      constructor
      ·simp at this ⊢
       grind
      ·rintro rfl
       simpa[sR,isLet,aFM,aFN]using this
     refine⟨fun i h0 h1=>?_,fun c hc=>?_⟩
     ·obtain⟨g1,g2⟩:=(tR s i).1 h0
      obtain⟨g3,g4⟩:=(tR s (i+1)).1 h1
      exact(hr i (by omega)).2 g4 g2
     ·obtain⟨i,hi,rfl⟩:=List.getElem_of_mem hc
      rw[cI]at hi
      have e:(chars s)[i]=(chars s).getD i 0:=by
       have:=hget i hi
       rw[List.getElem?_eq_getElem (by rw[cI];exact hi)]at this
       simpa using this
      rw[e]
      rcases i with - | i
      ·simp only[hZ,hL];simp
      ·simpa using(hr i (by omega)).1
 ·have:s.size=0:=by omega
  simp[this]
attribute [local simp] c219t3 c219t9 c219t10 c219t12 c219t13 c219b14 c219t15 c219t17 c219t18 c219 in
theorem aRQ (s:ByteArray) (hs:s.size≤32) (st:St) (h0:st.tmps 0= .one (.t (.str s))):
  aX Tryz.prog 52 (aB [.tmp 2] (.one (.t (.bool (!(chars s).any fun c=> !hZ c))))) c219t17 [] st:=by
 simp -implicitDefEqProofs [-aA,-gval,h0]
 refine bD (chars s) (fun c=> !hZ c) [0,23] [] (fun i st=>st.tmps 24= .one (.t (I i))) (by simp[short,cI];omega) ⟨by simp,by simp,by simp⟩ ?_ ?_
 ·intro i c st hi hiI hw hg hy hany hx hk hh
  simp[h0]at hk
  rw[cI]at hi hiI
  have hc:(chars s)[i]?.getD 0=c:=by rw[hg];rfl
  simp -implicitDefEqProofs [-aA,-gval,h0,hx,hk,hiI,hc]
  refine aD.tree (aOS _) rfl ?_
  cases d1:isLet c with
  | true=>simp -implicitDefEqProofs [-aA,-gval,hx,hk,hw,hZ,d1]
  | false=>
   simp -implicitDefEqProofs [-aA,-gval,hk,hiI,hc]
   refine aD.tree (aRP _) rfl ?_
   cases d2:sR c with
   | true=>simp -implicitDefEqProofs [-aA,-gval,hx,hk,hw,hZ,d2]
   | false=>
    rcases eqCases c 95 with q1 | q1
    ·simp -implicitDefEqProofs [-aA,-gval,hx,hk,hw,hZ,hiI,hc,q1]
    ·rcases eqCases c 45 with q2 | q2
     ·simp -implicitDefEqProofs [-aA,-gval,hx,hk,hw,hZ,hiI,hc,q2]
     ·simp -implicitDefEqProofs [-aA,-gval,hk,hiI,hc,q1,q2,aB]
      simpa using List.any_eq_true.1 (hany (by simp[hZ,d1,d2,q1,q2]))
 ·intro st hany hx hk hh
  simp[h0]at hk
  rw[hany]
  rw[cI]at hx
  simp -implicitDefEqProofs [-aA,-gval,hx,hk,aB]
attribute [local simp] c219t3 c219t9 c219t10 c219t12 c219t13 c219b14 c219t15 c219t18 c219 in
theorem aKA (s:ByteArray) (hs:s.size≤9223372036854775807):PSp Tryz.prog 219 [.one (.t (.str s))] (.one (.t (.bool (aZ s)))):=by
 rw[←aDB]
 refine k219.aH (by simp) rfl rfl ?_
 simp -implicitDefEqProofs [-aA,-gval]
 refine aD.tree (rP _ _ _) rfl ?_
 cases h1:(decide ((1:Int)≤(s.size:Int))&&decide ((s.size:Int)≤32))with
 | false=>
  simp -implicitDefEqProofs [-aA,-gval,aB]
  simp at h1
  simp[kZ]
  omega
 | true=>
  simp at h1
  have h1':0<s.size∧s.size≤32:=by omega
  simp -implicitDefEqProofs [-aA,-gval,h1'.1]
  refine aD.tree (aOS _) rfl ?_
  cases h2:isLet ((chars s)[0]?.getD 0)with
  | false=>
   simp -implicitDefEqProofs [-aA,-gval,aB,kZ,h2]
  | true=>
   simp -implicitDefEqProofs [-aA,-gval]
   refine aD.tree (aDA _ _ hs) rfl ?_
   have eb:(bs [45]).data.toList=[45]:=rfl
   have eb2:(bs [45,45]).data.toList=[45,45]:=rfl
   rw[eb]
   cases h3:Lib.hasSuffix s.data.toList [45]with
   | true=>simp -implicitDefEqProofs [-aA,-gval,aB,kZ,h2,h3]
   | false=>
    simp -implicitDefEqProofs [-aA,-gval]
    refine aD.tree (aFK _ _ (by omega)) rfl ?_
    rw[eb2]
    cases h4:Lib.contains s.data.toList [45,45]with
    | true=>simp -implicitDefEqProofs [-aA,-gval,aB,kZ,h2,h3,h4]
    | false=>
     simp -implicitDefEqProofs [-aA,-gval]
     have e:kZ s= !(chars s).any fun c=> !hZ c:=by
      simp only[kZ,h3,h4,List.getD_eq_getElem?_getD,h2]
      simp[show 1≤s.size by omega,h1'.2]
     rw[e]
     exact aRQ s h1'.2 _ (by simp)
end Go.Proofs.YtdpbobkcbakpfaaGreatDoor

namespace Go.Proofs.YtdpbobkcbakpfaaGreatDoor
open Go Go.Ab
set_option maxRecDepth 100000
set_option maxHeartbeats 4000000
def aOT (sz:Nat) (g:Bool):List Seg:=[Seg.one (aV.mk (some 11) (cX.op (AOp.mv (X.tmp 1))) none),Seg.one (aV.mk (some 12) (cX.op (AOp.mv (X.tmp 0))) none),Seg.one (aV.mk (some 13) (cX.op (AOp.mv (X.tmp 5))) none),Seg.one (aV.mk (some 14) (cX.op (AOp.ia sz (X.tmp 12) (X.tmp 13))) none),Seg.one (aV.mk (some 15) (cX.op (AOp.load sz g (X.tmp 14))) none),Seg.one (aV.mk (some 16) (cX.callv (X.tmp 11) [X.tmp 15]) none)]
def ifB (sz:Nat) (g:Bool):aC:=(.seq (.region 2 false 1 c213r2) (.seq (.cond (X.tmp 9) .skip (.exit 0)) (.seq (.block 1 (.seq (.region 3 false 2 c213r3) (.seq (.region 4 false 6 (aOT sz g)) (.cond (X.tmp 16) (.seq (.region 5 false 2 c213r5) .ret) .skip)))) (.region 6 false 2 c213r6))))
def ifC (sz:Nat) (g:Bool):aC:=(.seq (.region 0 false 1 c213r0) (.seq (.seq (.region 1 false 3 c213r1) (.block 0 (.loop (ifB sz g)))) (.seq (.region 7 false 1 c213r7) .ret)))
def aFO (g:Bool) (r:List T):D:=if g then .agg (r.map .t)else .one (.t (r.headD .nilp))
def idxOf {α:Type} (l:List α) (p:α→Bool):Int:=match l.findIdx? p with | some i=>(i:Int) | none=> -1
theorem aKB {g:Bool} {sz:Nat} {r:List T} (hr:r.length=sz) (hg:g=false→sz=1):D.of g (((r.drop 0).take sz).map .t)=aFO g r:=by
 cases g with
 | true=>simp[D.of,aFO,←hr]
 | false=>
  have:=hg rfl
  subst this
  match r,hr with
  | [x],_=>simp[D.of,aFO]
attribute [local simp] aOT c213r0 c213r1 c213r2 c213r3 c213r5 c213r6 c213r7 in
theorem aBF {f:FuncId} {α:Type} {sz:Nat} {g:Bool} (hk:Compiled Tryz.prog f 19 [.tmp 4] (ifC sz g)) (l:List α) (row:α→List T) (hrow:∀ x,(row x).length=sz) (hg:g=false→sz=1) (hl:short l) (p:α→Bool) (clo:FuncId) (caps:List Pt) (h:Hp) (n0:Nat)
  (hc:callable Tryz.prog clo=true) (hp:∀ x∈l,∀new K,n0≤new→K (.one (.t (.bool (p x)))) h→aD Tryz.prog false clo (aFO g (row x)::caps.map fun q=> .one (.ptr q)) h new K):
  ISp Tryz.prog f h n0 [.one (.t (.rows sz (l.map row))),.one (.fn clo caps)] (.one (.t (I (idxOf l p)))) h:=by
 refine ISp.ok fun ho=>?_
 refine hk.fR (by simp) ?_
 simp -implicitDefEqProofs [-aA,-gval,ifC]
 refine mG l p [0,1,7] [] (fun i st=>st.tmps 8= .one (.t (I i))∧st.heap=h∧n0≤st.nx) hl ⟨⟨by simp,by simp,by simp;omega⟩,by simp,by simp⟩ ?_ ?_
 ·rintro i y st hi hiI hw hgt hy hany ⟨hx,hh',hnx⟩ hk hh
  simp at hk
  simp -implicitDefEqProofs [-aA,-gval,ifB,hx,hk,hiI,hi,aE hgt,hrow]
  have e:(if g=true then D.agg (List.take sz (List.map A.t (row y)))else D.one ((List.take sz (List.map A.t (row y))).head?.getD A.undef))=aFO g (row y):=by
   have e0:=aKB (g:=g) (hrow y) hg
   simpa[D.of,List.map_take]using e0
  rw[e]
  refine⟨hg,clo,caps,⟨rfl,rfl⟩,hc,?_⟩
  rw[hh']
  refine hp y hy _ _ (by omega) ?_
  cases hb:p y with
  | true=>
   simp -implicitDefEqProofs [-aA,-gval]
   exact cY (.inr rfl) (by simp[idxOf,hany hb]) (fun j hj=>by simp) ho
  | false=>
   simp -implicitDefEqProofs [-aA,-gval,hx,hk,hw]
   omega
 ·rintro st hany ⟨hx,hh',hnx⟩ hk hh
  simp at hk
  simp -implicitDefEqProofs [-aA,-gval,ifB,hx,hk]
  refine cY (.inr rfl) (by simp[idxOf,hany]) (fun j hj=>by simp[hh']) ho
def aOU (f:FuncId):List Seg:=[Seg.one (aV.mk (some 5) (cX.op (AOp.mv (X.tmp 0))) none),Seg.one (aV.mk (some 6) (cX.op (AOp.mv (X.tmp 1))) none),Seg.one (aV.mk (some 7) (cX.call f [X.tmp 5,X.tmp 6]) none),Seg.one (aV.mk (some 8) (cX.op (AOp.bin .geq false (X.tmp 7) (X.con (D.one (A.t (T.int .i64 0)))))) none),Seg.one (aV.mk (some 4) (cX.op (AOp.mv (X.tmp 8))) none)]
def cfC (f:FuncId):aC:=(.seq (.region 0 false 1 c173r0) (.seq (.region 1 false 5 (aOU f)) .ret))
theorem rS {α:Type} (l:List α) (p:α→Bool):decide (0≤idxOf l p)=l.any p:=by
 rw[Bool.eq_iff_iff,decide_eq_true_iff]
 simp only[idxOf]
 split
 ·rename_i i h
  rw[List.findIdx?_eq_some_iff_getElem]at h
  obtain⟨h1,h2,_⟩:=h
  exact⟨fun _=>List.any_eq_true.2 ⟨_,List.getElem_mem h1,h2⟩,fun _=>by omega⟩
 ·rename_i h
  rw[List.findIdx?_eq_none_iff]at h
  refine⟨fun h=>by omega,fun h'=>?_⟩
  obtain⟨x,hx,hp⟩:=List.any_eq_true.1 h'
  rw[h x hx]at hp;cases hp
attribute [local simp] aOU c173r0 in
theorem fW {f fi:FuncId} {α:Type} {sz:Nat} {g:Bool} (hk:Compiled Tryz.prog f 9 [.tmp 4] (cfC fi)) (hi:Compiled Tryz.prog fi 19 [.tmp 4] (ifC sz g)) (l:List α) (row:α→List T) (hrow:∀ x,(row x).length=sz) (hg:g=false→sz=1) (hl:short l) (p:α→Bool) (clo:FuncId) (caps:List Pt) (h:Hp) (n0:Nat)
  (hc:callable Tryz.prog clo=true) (hp:∀ x∈l,∀new K,n0≤new→K (.one (.t (.bool (p x)))) h→aD Tryz.prog false clo (aFO g (row x)::caps.map fun q=> .one (.ptr q)) h new K):
  ISp Tryz.prog f h n0 [.one (.t (.rows sz (l.map row))),.one (.fn clo caps)] (.one (.t (.bool (l.any p)))) h:=by
 refine ISp.ok fun ho=>?_
 refine hk.fR (by simp) ?_
 simp -implicitDefEqProofs [-aA,-gval,cfC]
 refine aD.imp (aBF hi l row hrow hg hl p clo caps h _ hc fun x hx new K hn hK=>hp x hx new K (by omega) hK) ?_
 simp -implicitDefEqProofs [-aA,-gval]
 exact cY (.inr rfl) (by simp[rS]) (fun j hj=>by simp) ho
theorem aOV (l:List Fd) (hl:short l) (p:Fd→Bool) (clo:FuncId) (caps:List Pt) (h:Hp) (n0:Nat) (hc:callable Tryz.prog clo=true)
  (hp:∀ x∈l,∀new K,n0≤new→K (.one (.t (.bool (p x)))) h→aD Tryz.prog false clo (.agg (x.row.map .t)::caps.map fun q=> .one (.ptr q)) h new K):
  ISp Tryz.prog 173 h n0 [.one (.t (aM l)),.one (.fn clo caps)] (.one (.t (.bool (l.any p)))) h:=
 fW (sz:=13) (g:=true) k173 k213 l Fd.row (fun x=>by rw[Fd.aO];rfl) (fun e=>by cases e) hl p clo caps h n0 hc hp
theorem aRR (l:List ByteArray) (hl:short l) (p:ByteArray→Bool) (clo:FuncId) (caps:List Pt) (h:Hp) (n0:Nat) (hc:callable Tryz.prog clo=true)
  (hp:∀ x∈l,∀new K,n0≤new→K (.one (.t (.bool (p x)))) h→aD Tryz.prog false clo (.one (.t (.str x))::caps.map fun q=> .one (.ptr q)) h new K):
  ISp Tryz.prog 227 h n0 [.one (.t (aN l)),.one (.fn clo caps)] (.one (.t (.bool (l.any p)))) h:=
 fW (sz:=1) (g:=false) k227 k266 l (fun s=>[.str s]) (fun _x=>rfl) (fun _=>rfl) hl p clo caps h n0 hc hp
theorem aRS (l:List Vl) (hl:short l) (p:Vl→Bool) (clo:FuncId) (caps:List Pt) (h:Hp) (n0:Nat) (hc:callable Tryz.prog clo=true)
  (hp:∀ x∈l,∀new K,n0≤new→K (.one (.t (.bool (p x)))) h→aD Tryz.prog false clo (.agg (x.row.map .t)::caps.map fun q=> .one (.ptr q)) h new K):
  ISp Tryz.prog 263 h n0 [.one (.t (aW l)),.one (.fn clo caps)] (.one (.t (.bool (l.any p)))) h:=
 fW (sz:=6) (g:=true) k263 k283 l Vl.row (fun x=>by rw[Vl.aO];rfl) (fun e=>by cases e) hl p clo caps h n0 hc hp
theorem aRT (l:List Sp) (hl:short l) (p:Sp→Bool) (clo:FuncId) (caps:List Pt) (h:Hp) (n0:Nat) (hc:callable Tryz.prog clo=true)
  (hp:∀ x∈l,∀new K,n0≤new→K (.one (.t (.bool (p x)))) h→aD Tryz.prog false clo (.agg ((spr x).map .t)::caps.map fun q=> .one (.ptr q)) h new K):
  ISp Tryz.prog 154 h n0 [.one (.t (spans l)),.one (.fn clo caps)] (.one (.t (.bool (l.any p)))) h:=
 fW (sz:=2) (g:=true) k154 k199 l spr (fun x=>rfl) (fun e=>by cases e) hl p clo caps h n0 hc hp
theorem aMR (s:ByteArray) (hs:s.size≤9223372036854775807) (p:Int→Bool) (clo:FuncId) (caps:List Pt) (h:Hp) (n0:Nat) (hc:callable Tryz.prog clo=true)
  (hp:∀ x∈chars s,∀new K,n0≤new→K (.one (.t (.bool (p x)))) h→aD Tryz.prog false clo (.one (.t (.int .u8 x))::caps.map fun q=> .one (.ptr q)) h new K):
  ISp Tryz.prog 122 h n0 [.one (.t (.rows 1 (dM s))),.one (.fn clo caps)] (.one (.t (.bool ((chars s).any p)))) h:=by
 have e:dM s=(chars s).map fun c=>[T.int .u8 c]:=by simp[dM,chars]
 rw[e]
 exact fW (sz:=1) (g:=false) k122 k156 (chars s) (fun c=>[.int .u8 c]) (fun x=>rfl) (fun _=>rfl) (by simp[short,cI];exact hs) p clo caps h n0 hc hp
end Go.Proofs.YtdpbobkcbakpfaaGreatDoor

