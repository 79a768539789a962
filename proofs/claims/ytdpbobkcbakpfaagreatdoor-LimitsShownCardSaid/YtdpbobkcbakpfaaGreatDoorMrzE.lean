/- Texts of this proof. -/
import Derived.Test.YtdpbobkcbakpfaaGreatDoorMrzD
namespace Go.Proofs.YtdpbobkcbakpfaaGreatDoor
open Go Go.Ab
open Go.Proofs.Tryz
set_option maxRecDepth 100000
set_option maxHeartbeats 4000000
section
attribute [local simp] nL D.mD
def iQ(c:Int):Bool:=isLet c||uH c||c==95||c==45
def lU(s:ByteArray):Bool:=decide (1≤s.size)&&decide (s.size≤32)&&isLet ((chars s).getD 0 0)&& !Lib.hasSuffix s.data.toList [45]&& !Lib.contains s.data.toList [45,45]&& !(chars s).any fun c=> !iQ c
theorem aQY(c:Int):PSp prog 257 [.one (.t (.int .u8 c))] (.one (.t (.bool (isLet c)))):=aTM c
theorem aTV(c:Int):PSp prog 260 [.one (.t (.int .u8 c))] (.one (.t (.bool (uH c)))):=aTL c
theorem aA0(s:ByteArray)(i:Nat):(chars s).getD i 0=((s.data.toList.getD i 0).toNat:Int):=by
 simp only[chars,List.getD_eq_getElem?_getD,List.getElem?_map];cases s.data.toList[i]? <;>rfl
theorem dsize(s:ByteArray):s.data.toList.length=s.size:=by simp
theorem aO5(b:UInt8):(b==45)=(((b.toNat:Int))==45):=by
 rw[Bool.eq_iff_iff];simp only[beq_iff_eq];constructor
 ·rintro rfl;rfl
 ·intro h;apply UInt8.toNat_inj.1;simpa using(by omega:b.toNat=45)
theorem aJL(s:ByteArray)(h:1≤s.size):Lib.hasSuffix s.data.toList [45]=((chars s).getD (s.size - 1) 0==45):=by
 rw[aA0];have hl:=dsize s;generalize s.data.toList=l at hl ⊢;rw[←hl]
 obtain⟨r,b,rfl⟩:∃ r b,l=r++[b]:=by
  rcases List.eq_nil_or_concat l with h' | ⟨r,b,h'⟩
  ·subst h';simp at hl;omega
  ·exact⟨r,b,by simpa using h'⟩
 have e:(r++[b]).getD ((r++[b]).length - 1) 0=b:=by simp[List.getD_eq_getElem?_getD]
 rw[e,←aO5];rw[Bool.eq_iff_iff,Lib.hasSuffix,List.isSuffixOf_iff_suffix];constructor
 ·rintro⟨t,ht⟩;have:=congrArg List.getLast? ht;simp at this;simp[this]
 ·intro hb;simp at hb;exact⟨r,by rw[hb]⟩
theorem aBI(l:List UInt8):Lib.contains l [45,45]=true↔∃i:Nat,l[i]? =some (45:UInt8)∧l[i+1]? =some (45:UInt8):=by
 have occ:∀ j,Lib.occAt l [45,45] j=true↔l[j]? =some 45∧l[j+1]? =some 45:=fun j=>by
  simp only[Lib.occAt];rw[List.isPrefixOf_iff_prefix];constructor
  ·rintro⟨t,ht⟩;have h0:=congrArg (fun x=>x[0]?) ht;have h1:=congrArg (fun x=>x[1]?) ht;simp[List.getElem?_drop]at h0 h1;exact⟨h0.symm,h1.symm⟩
  ·rintro⟨h0,h1⟩
   have e0:l.drop j=45::l.drop (j+1):=by
    obtain⟨hj,e⟩:=gS9.1 h0;rw[List.drop_eq_getElem_cons hj,e]
   have e1:l.drop (j+1)=45::l.drop (j+1+1):=by
    obtain⟨hj,e⟩:=gS9.1 h1;rw[List.drop_eq_getElem_cons hj,e]
   exact⟨l.drop (j+1+1),by rw[e0,e1];rfl⟩
 rcases Lib.index_spec l [45,45]with⟨h1,h2⟩ | ⟨i,h1,h2,h3,h4⟩
 ·rw[Lib.contains,h1];simp;intro x hx h;have:=h2 x (by have:=(gS9.1 hx).1;omega);rw[(occ x).2 ⟨hx,h⟩]at this;cases this
 ·rw[Lib.contains,h1];simp;exact⟨i,(occ i).1 (by first | exact h3 | exact h4)⟩
theorem vF(s:ByteArray)(i:Nat):s.data.toList[i]? =some (45:UInt8)↔i<s.size∧(chars s).getD i 0=45:=by
 rw[aA0];have hl:=dsize s;generalize s.data.toList=l at hl ⊢;rw[←hl,List.getD_eq_getElem?_getD];rcases Nat.lt_or_ge i l.length with h | h
 ·rw[gE9 h];simp only[sI9,Option.getD_some,h,true_and];have:=aO5 l[i];rw[Bool.eq_iff_iff]at this;simpa using this
 ·rw[List.getElem?_eq_none h];simp
theorem aF5(s:ByteArray):lU s=bA s:=by
 simp only[lU,bA,cW];rcases Nat.lt_or_ge 0 s.size with h1 | h1
 ·have h1':1≤s.size:=h1;rw[aJL s h1'];cases hL:isLet ((chars s).getD 0 0)with
  | false=>simp
  | true=>
   cases h45:((chars s).getD (s.size - 1) 0==45)with
   | true=>simp
   | false=>
    simp only[h1',decide_true,Bool.true_and,Bool.and_true,Bool.not_false,Bool.and_assoc];congr 1;rw[Bool.eq_iff_iff];simp only[Bool.and_eq_true,Bool.not_eq_true',Bool.eq_false_iff,ne_eq,aBI,List.any_eq_true,List.all_eq_true,List.mem_range,not_exists,not_and]
    have hget:∀ i,i<s.size→(chars s)[i]? =some ((chars s).getD i 0):=fun i hi=>by
     rw[List.getD_eq_getElem?_getD,gE9 (by rw[cW];exact hi)];rfl
    constructor
    ·rintro⟨ha,hb⟩ i hi
     have e1:iQ ((chars s).getD (i+1) 0)=true:=by
      have:=hb _ (gM9 (hget (i+1) (by omega)));simpa using this
     have e2:(chars s).getD i 0=45→¬(chars s).getD (i+1) 0=45:=fun g1 g2=>ha i ((vF s i).2 ⟨by omega,g1⟩) ((vF s (i+1)).2 ⟨by omega,g2⟩)
     simp only[lA,Nat.add_sub_cancel];generalize (chars s).getD (i+1) 0=c at*;generalize (chars s).getD i 0=d at*;simp only[iQ]at e1;simp at e1 ⊢
     grind
    ·intro ha
     have hr:∀ i,i<s.size - 1→iQ ((chars s).getD (i+1) 0)=true∧((chars s).getD (i+1) 0=45→¬(chars s).getD i 0=45):=fun i hi=>by
      have:=ha i hi;simp only[lA,Nat.add_sub_cancel]at this;generalize (chars s).getD (i+1) 0=c at*;generalize (chars s).getD i 0=d at*;simp only[iQ];constructor
      ·simp at this ⊢
       grind
      ·rintro rfl;simpa[uH,isLet,aHH,aHI]using this
     refine⟨fun i h0 h1=>?_,fun c hc=>?_⟩
     ·obtain⟨g1,g2⟩:=(vF s i).1 h0;obtain⟨g3,g4⟩:=(vF s (i+1)).1 h1;exact(hr i (by omega)).2 g4 g2
     ·obtain⟨i,hi,rfl⟩:=List.getElem_of_mem hc;rw[cW]at hi
      have e:(chars s)[i]=(chars s).getD i 0:=by
       have:=hget i hi;rw[gE9 (by rw[cW];exact hi)]at this;simpa using this
      rw[e];rcases i with - | i
      ·simp only[iQ,hL];simp
      ·simpa using(hr i (by omega)).1
 ·have:s.size=0:=by omega
  simp[this]
attribute [local simp] c219t3 c219t9 c219t10 c219t12 c219t13 c219b14 c219t15 c219t17 c219t18 c219 in
theorem aTW(s:ByteArray)(hs:s.size≤32)(st:St)(h0:st.tmps 0= .one (.t (.str s))):
  aY prog 52 (aC [.tmp 2] (.one (.t (.bool (!(chars s).any fun c=> !iQ c))))) c219t17 [] st:=by
 simp -implicitDefEqProofs [-aA,-gval,h0];refine bJ (chars s) (fun c=> !iQ c) [0,23] [] (fun i st=>st.tmps 24= .one (.t (I i))) (by simp[short,cW];omega) ⟨by simp,by simp,by simp⟩ ?_ ?_
 ·intro i c st hi hiI hw hg hy hany hx hk hh;simp[h0]at hk;rw[cW]at hi hiI;have hc:(chars s)[i]?.getD 0=c:=by rw[hg];rfl
  simp -implicitDefEqProofs [-aA,-gval,h0,hx,hk,hiI,hc];refine aD.tree (aQY _) rfl ?_;cases d1:isLet c with
  | true=>simp -implicitDefEqProofs [-aA,-gval,hx,hk,hw,iQ,d1]
  | false=>
   simp -implicitDefEqProofs [-aA,-gval,hk,hiI,hc];refine aD.tree (aTV _) rfl ?_;cases d2:uH c with
   | true=>simp -implicitDefEqProofs [-aA,-gval,hx,hk,hw,iQ,d2]
   | false=>
    rcases eqCases c 95 with q1 | q1
    ·simp -implicitDefEqProofs [-aA,-gval,hx,hk,hw,iQ,hiI,hc,q1]
    ·rcases eqCases c 45 with q2 | q2
     ·simp -implicitDefEqProofs [-aA,-gval,hx,hk,hw,iQ,hiI,hc,q2]
     ·simp -implicitDefEqProofs [-aA,-gval,hk,hiI,hc,q1,q2,aC];simpa using List.any_eq_true.1 (hany (by simp[iQ,d1,d2,q1,q2]))
 ·intro st hany hx hk hh;simp[h0]at hk;rw[hany];rw[cW]at hx;simp -implicitDefEqProofs [-aA,-gval,hx,hk,aC]
attribute [local simp] c219t3 c219t9 c219t10 c219t12 c219t13 c219b14 c219t15 c219t18 c219 in
theorem aME(s:ByteArray)(hs:s.size≤9223372036854775807):PSp prog 219 [.one (.t (.str s))] (.one (.t (.bool (bA s)))):=by
 rw[←aF5];refine k219.aJ (by simp) rfl rfl ?_;simp -implicitDefEqProofs [-aA,-gval];refine aD.tree (tE _ _ _) rfl ?_;cases h1:(decide ((1:Int)≤(s.size:Int))&&decide ((s.size:Int)≤32))with
 | false=>
  simp -implicitDefEqProofs [-aA,-gval,aC];simp at h1;simp[lU];omega
 | true=>
  simp at h1;have h1':0<s.size∧s.size≤32:=by omega
  simp -implicitDefEqProofs [-aA,-gval,h1'.1];refine aD.tree (aQY _) rfl ?_;cases h2:isLet ((chars s)[0]?.getD 0)with
  | false=>
   simp -implicitDefEqProofs [-aA,-gval,aC,lU,h2]
  | true=>
   simp -implicitDefEqProofs [-aA,-gval];refine aD.tree (aF4 _ _ hs) rfl ?_;have eb:(bs [45]).data.toList=[45]:=rfl;have eb2:(bs [45,45]).data.toList=[45,45]:=rfl;rw[eb];cases h3:Lib.hasSuffix s.data.toList [45]with
   | true=>simp -implicitDefEqProofs [-aA,-gval,aC,lU,h2,h3]
   | false=>
    simp -implicitDefEqProofs [-aA,-gval];refine aD.tree (aHF _ _ (by omega)) rfl ?_;rw[eb2];cases h4:Lib.contains s.data.toList [45,45]with
    | true=>simp -implicitDefEqProofs [-aA,-gval,aC,lU,h2,h3,h4]
    | false=>
     simp -implicitDefEqProofs [-aA,-gval]
     have e:lU s= !(chars s).any fun c=> !iQ c:=by
      simp only[lU,h3,h4,List.getD_eq_getElem?_getD,h2];simp[show 1≤s.size by omega,h1'.2]
     rw[e];exact aTW s h1'.2 _ (by simp)
end
def aQZ(sz:Nat)(g:Bool):List Seg:=[Seg.one (aV.mk (some 11) (dG.op (AOp.mv (X.tmp 1))) none),Seg.one (aV.mk (some 12) (dG.op (AOp.mv (X.tmp 0))) none),Seg.one (aV.mk (some 13) (dG.op (AOp.mv (X.tmp 5))) none),Seg.one (aV.mk (some 14) (dG.op (AOp.ia sz (X.tmp 12) (X.tmp 13))) none),Seg.one (aV.mk (some 15) (dG.op (AOp.load sz g (X.tmp 14))) none),Seg.one (aV.mk (some 16) (dG.callv (X.tmp 11) [X.tmp 15]) none)]
def ifB(sz:Nat)(g:Bool):aB:=(.seq (.region 2 false 1 c213r2) (.seq (.cond (X.tmp 9) .skip (.exit 0)) (.seq (.block 1 (.seq (.region 3 false 2 c213r3) (.seq (.region 4 false 6 (aQZ sz g)) (.cond (X.tmp 16) (.seq (.region 5 false 2 c213r5) .ret) .skip)))) (.region 6 false 2 c213r6))))
def ifC(sz:Nat)(g:Bool):aB:=(.seq (.region 0 false 1 c213r0) (.seq (.seq (.region 1 false 3 c213r1) (.block 0 (.loop (ifB sz g)))) (.seq (.region 7 false 1 c213r7) .ret)))
def aHJ(g:Bool)(r:List T):D:=if g then .agg (r.map .t)else .one (.t (r.headD .nilp))
def idxOf{α:Type}(l:List α)(p:α→Bool):Int:=match l.findIdx? p with | some i=>(i:Int) | none=> -1
theorem aMF{g:Bool}{sz:Nat}{r:List T}(hr:r.length=sz)(hg:g=false→sz=1):D.of g (((r.drop 0).take sz).map .t)=aHJ g r:=by
 cases g with
 | true=>simp[D.of,aHJ,←hr]
 | false=>
  have:=hg rfl;subst this
  match r,hr with
  | [x],_=>simp[D.of,aHJ]
attribute [local simp] aQZ c213r0 c213r1 c213r2 c213r3 c213r5 c213r6 c213r7 in
theorem aD0{f:FuncId}{α:Type}{sz:Nat}{g:Bool}(hk:Compiled prog f 19 [.tmp 4] (ifC sz g))(l:List α)(row:α→List T)(hrow:∀ x,(row x).length=sz)(hg:g=false→sz=1)(hl:short l)(p:α→Bool)(clo:FuncId)(caps:List Pt)(h:Hp)(n0:Nat)
  (hc:callable prog clo=true) (hp:∀ x∈l,∀new K,n0≤new→K (.one (.t (.bool (p x)))) h→aD prog false clo (aHJ g (row x)::caps.map fun q=> .one (.ptr q)) h new K):
  ISp prog f h n0 [.one (.t (.rows sz (l.map row))),.one (.fn clo caps)] (.one (.t (I (idxOf l p)))) h:=by
 refine ISp.ok fun ho=>?_
 refine hk.gJ (by simp) ?_;simp -implicitDefEqProofs [-aA,-gval,ifC];refine nK l p [0,1,7] [] (fun i st=>st.tmps 8= .one (.t (I i))∧st.heap=h∧n0≤st.nx) hl ⟨⟨by simp,by simp,by simp;omega⟩,by simp,by simp⟩ ?_ ?_
 ·rintro i y st hi hiI hw hgt hy hany ⟨hx,hh',hnx⟩ hk hh;simp at hk;simp -implicitDefEqProofs [-aA,-gval,ifB,hx,hk,hiI,hi,aE hgt,hrow]
  have e:(if g=true then D.agg (List.take sz (List.map A.t (row y)))else D.one ((List.take sz (List.map A.t (row y))).head?.getD A.undef))=aHJ g (row y):=by
   have e0:=aMF (g:=g) (hrow y) hg;simpa[D.of,List.map_take]using e0
  rw[e];refine⟨hg,clo,caps,⟨rfl,rfl⟩,hc,?_⟩;rw[hh'];refine hp y hy _ _ (by omega) ?_;cases hb:p y with
  | true=>
   simp -implicitDefEqProofs [-aA,-gval];exact dI (.inr rfl) (by simp[idxOf,hany hb]) (fun j hj=>by simp) ho
  | false=>
   simp -implicitDefEqProofs [-aA,-gval,hx,hk,hw];omega
 ·rintro st hany ⟨hx,hh',hnx⟩ hk hh;simp at hk;simp -implicitDefEqProofs [-aA,-gval,ifB,hx,hk];refine dI (.inr rfl) (by simp[idxOf,hany]) (fun j hj=>by simp[hh']) ho
def aR0(f:FuncId):List Seg:=[Seg.one (aV.mk (some 5) (dG.op (AOp.mv (X.tmp 0))) none),Seg.one (aV.mk (some 6) (dG.op (AOp.mv (X.tmp 1))) none),Seg.one (aV.mk (some 7) (dG.call f [X.tmp 5,X.tmp 6]) none),Seg.one (aV.mk (some 8) (dG.op (AOp.bin .geq false (X.tmp 7) (X.con (D.one (A.t (T.int .i64 0)))))) none),Seg.one (aV.mk (some 4) (dG.op (AOp.mv (X.tmp 8))) none)]
def cfC(f:FuncId):aB:=(.seq (.region 0 false 1 c173r0) (.seq (.region 1 false 5 (aR0 f)) .ret))
theorem tH{α:Type}(l:List α)(p:α→Bool):decide (0≤idxOf l p)=l.any p:=by
 rw[Bool.eq_iff_iff,decide_eq_true_iff];simp only[idxOf];split
 ·rename_i i h;rw[List.findIdx?_eq_some_iff_getElem]at h;obtain⟨h1,h2,_⟩:=h;exact⟨fun _=>List.any_eq_true.2 ⟨_,gL9 h1,h2⟩,fun _=>by omega⟩
 ·rename_i h;rw[List.findIdx?_eq_none_iff]at h;refine⟨fun h=>by omega,fun h'=>?_⟩;obtain⟨x,hx,hp⟩:=List.any_eq_true.1 h';rw[h x hx]at hp;cases hp
attribute [local simp] aR0 c173r0 in
theorem gP{f fi:FuncId}{α:Type}{sz:Nat}{g:Bool}(hk:Compiled prog f 9 [.tmp 4] (cfC fi))(hi:Compiled prog fi 19 [.tmp 4] (ifC sz g))(l:List α)(row:α→List T)(hrow:∀ x,(row x).length=sz)(hg:g=false→sz=1)(hl:short l)(p:α→Bool)(clo:FuncId)(caps:List Pt)(h:Hp)(n0:Nat)
  (hc:callable prog clo=true) (hp:∀ x∈l,∀new K,n0≤new→K (.one (.t (.bool (p x)))) h→aD prog false clo (aHJ g (row x)::caps.map fun q=> .one (.ptr q)) h new K):
  ISp prog f h n0 [.one (.t (.rows sz (l.map row))),.one (.fn clo caps)] (.one (.t (.bool (l.any p)))) h:=by
 refine ISp.ok fun ho=>?_
 refine hk.gJ (by simp) ?_;simp -implicitDefEqProofs [-aA,-gval,cfC];refine aD.imp (aD0 hi l row hrow hg hl p clo caps h _ hc fun x hx new K hn hK=>hp x hx new K (by omega) hK) ?_;simp -implicitDefEqProofs [-aA,-gval];exact dI (.inr rfl) (by simp[tH]) (fun j hj=>by simp) ho
theorem aR1(l:List Fd)(hl:short l)(p:Fd→Bool)(clo:FuncId)(caps:List Pt)(h:Hp)(n0:Nat)(hc:callable prog clo=true)
  (hp:∀ x∈l,∀new K,n0≤new→K (.one (.t (.bool (p x)))) h→aD prog false clo (.agg (x.row.map .t)::caps.map fun q=> .one (.ptr q)) h new K):
  ISp prog 173 h n0 [.one (.t (aN l)),.one (.fn clo caps)] (.one (.t (.bool (l.any p)))) h:=
 gP (sz:=13) (g:=true) k173 k213 l Fd.row (fun x=>by rw[Fd.aP];rfl) (fun e=>by cases e) hl p clo caps h n0 hc hp
theorem aTX(l:List ByteArray)(hl:short l)(p:ByteArray→Bool)(clo:FuncId)(caps:List Pt)(h:Hp)(n0:Nat)(hc:callable prog clo=true)
  (hp:∀ x∈l,∀new K,n0≤new→K (.one (.t (.bool (p x)))) h→aD prog false clo (.one (.t (.str x))::caps.map fun q=> .one (.ptr q)) h new K):
  ISp prog 227 h n0 [.one (.t (aO l)),.one (.fn clo caps)] (.one (.t (.bool (l.any p)))) h:=
 gP (sz:=1) (g:=false) k227 k266 l (fun s=>[.str s]) (fun _x=>rfl) (fun _=>rfl) hl p clo caps h n0 hc hp
theorem aTY(l:List Vl)(hl:short l)(p:Vl→Bool)(clo:FuncId)(caps:List Pt)(h:Hp)(n0:Nat)(hc:callable prog clo=true)
  (hp:∀ x∈l,∀new K,n0≤new→K (.one (.t (.bool (p x)))) h→aD prog false clo (.agg (x.row.map .t)::caps.map fun q=> .one (.ptr q)) h new K):
  ISp prog 263 h n0 [.one (.t (aU l)),.one (.fn clo caps)] (.one (.t (.bool (l.any p)))) h:=
 gP (sz:=6) (g:=true) k263 k283 l Vl.row (fun x=>by rw[Vl.aP];rfl) (fun e=>by cases e) hl p clo caps h n0 hc hp
theorem aTZ(l:List Sp)(hl:short l)(p:Sp→Bool)(clo:FuncId)(caps:List Pt)(h:Hp)(n0:Nat)(hc:callable prog clo=true)
  (hp:∀ x∈l,∀new K,n0≤new→K (.one (.t (.bool (p x)))) h→aD prog false clo (.agg ((spr x).map .t)::caps.map fun q=> .one (.ptr q)) h new K):
  ISp prog 154 h n0 [.one (.t (spans l)),.one (.fn clo caps)] (.one (.t (.bool (l.any p)))) h:=
 gP (sz:=2) (g:=true) k154 k199 l spr (fun x=>rfl) (fun e=>by cases e) hl p clo caps h n0 hc hp
theorem aOY(s:ByteArray)(hs:s.size≤9223372036854775807)(p:Int→Bool)(clo:FuncId)(caps:List Pt)(h:Hp)(n0:Nat)(hc:callable prog clo=true)
  (hp:∀ x∈chars s,∀new K,n0≤new→K (.one (.t (.bool (p x)))) h→aD prog false clo (.one (.t (.int .u8 x))::caps.map fun q=> .one (.ptr q)) h new K):
  ISp prog 122 h n0 [.one (.t (.rows 1 (dV s))),.one (.fn clo caps)] (.one (.t (.bool ((chars s).any p)))) h:=by
 have e:dV s=(chars s).map fun c=>[T.int .u8 c]:=by simp[dV,chars]
 rw[e];exact gP (sz:=1) (g:=false) k122 k156 (chars s) (fun c=>[.int .u8 c]) (fun x=>rfl) (fun _=>rfl) (by simp[short,cW];exact hs) p clo caps h n0 hc hp
end Go.Proofs.YtdpbobkcbakpfaaGreatDoor
