/- Texts of this proof. -/
import Derived.Test.YtdpbobkcbakpfaaGreatDoorMraD
namespace Go.Proofs.YtdpbobkcbakpfaaGreatDoor
open Go Go.Ab
open Go.Proofs.Tryz
set_option maxRecDepth 100000
set_option maxHeartbeats 4000000
section
attribute [-simp] Go.Ab.aA Go.Ab.gval
attribute [local simp] oY D.oH
def jB(c:Int):Bool:=isLet c||uP c||c==95||c==45
def mD(s:ByteArray):Bool:=decide (1≤s.size)&&decide (s.size≤32)&&isLet ((chars s).getD 0 0)&& !Lib.hasSuffix s.data.toList [45]&& !Lib.contains s.data.toList [45,45]&& !(chars s).any fun c=> !jB c
theorem aS6(c:Int):PSp prog 257 [.one (.t (.int .u8 c))] (.one (.t (.bool (isLet c)))):=aV2 c
theorem aVB(c:Int):PSp prog 260 [.one (.t (.int .u8 c))] (.one (.t (.bool (uP c)))):=aV1 c
theorem aAG(s:ByteArray)(i:Nat):(chars s).getD i 0=((s.data.toList.getD i 0).toNat:Int):=by
 simp only[chars,List.getD_eq_getElem?_getD,List.getElem?_map];cases s.data.toList[i]? <;>rfl
theorem dsize(s:ByteArray):s.data.toList.length=s.size:=by simp
theorem aP7(b:UInt8):(b==45)=(((b.toNat:Int))==45):=by
 rw[Bool.eq_iff_iff];simp only[beq_iff_eq];constructor
 ·rintro rfl;rfl
 ·intro h;apply UInt8.toNat_inj.1;simpa using(by omega:b.toNat=45)
theorem aKS(s:ByteArray)(h:1≤s.size):Lib.hasSuffix s.data.toList [45]=((chars s).getD (s.size - 1) 0==45):=by
 rw[aAG];have hl:=dsize s;generalize s.data.toList=l at hl ⊢;rw[←hl]
 obtain⟨r,b,rfl⟩:∃ r b,l=r++[b]:=by
  rcases List.eq_nil_or_concat l with h' | ⟨r,b,h'⟩
  ·subst h';simp at hl;omega
  ·exact⟨r,b,by simpa using h'⟩
 have e:(r++[b]).getD ((r++[b]).length - 1) 0=b:=by simp[List.getD_eq_getElem?_getD]
 rw[e,←aP7];rw[Bool.eq_iff_iff,Lib.hasSuffix,List.isSuffixOf_iff_suffix];constructor
 ·rintro⟨t,ht⟩;have:=congrArg List.getLast? ht;simp at this;simp[this]
 ·intro hb;simp at hb;exact⟨r,by rw[hb]⟩
theorem aC1(l:List UInt8):Lib.contains l [45,45]=true↔∃i:Nat,l[i]? =some (45:UInt8)∧l[i+1]? =some (45:UInt8):=by
 have occ:∀ j,Lib.occAt l [45,45] j=true↔l[j]? =some 45∧l[j+1]? =some 45:=fun j=>by
  simp only[Lib.occAt];rw[List.isPrefixOf_iff_prefix];constructor
  ·rintro⟨t,ht⟩;have h0:=congrArg (fun x=>x[0]?) ht;have h1:=congrArg (fun x=>x[1]?) ht;simp[List.getElem?_drop]at h0 h1;exact⟨h0.symm,h1.symm⟩
  ·rintro⟨h0,h1⟩
   have e0:l.drop j=45::l.drop (j+1):=by
    obtain⟨hj,e⟩:=gS9.1 h0;rw[List.drop_eq_getElem_cons hj,e]
   have e1:l.drop (j+1)=45::l.drop (j+1+1):=by
    obtain⟨hj,e⟩:=gS9.1 h1;rw[List.drop_eq_getElem_cons hj,e]
   exact⟨l.drop (j+1+1),by rw[e0,e1];rfl⟩
 rcases Lib.index_spec l [45,45]with⟨h1,h2⟩ | ⟨i,h1,h2,h3,h4⟩
 ·rw[Lib.contains,h1];simp;intro x hx h;have:=h2 x (by have:=(gS9.1 hx).1;omega);rw[(occ x).2 ⟨hx,h⟩]at this;cases this
 ·rw[Lib.contains,h1];simp;exact⟨i,(occ i).1 (by first | exact h3 | exact h4)⟩
theorem vQ(s:ByteArray)(i:Nat):s.data.toList[i]? =some (45:UInt8)↔i<s.size∧(chars s).getD i 0=45:=by
 rw[aAG];have hl:=dsize s;generalize s.data.toList=l at hl ⊢;rw[←hl,List.getD_eq_getElem?_getD];rcases Nat.lt_or_ge i l.length with h | h
 ·rw[gE9 h];simp only[sI9,Option.getD_some,h,true_and];have:=aP7 l[i];rw[Bool.eq_iff_iff]at this;simpa using this
 ·rw[List.getElem?_eq_none h];simp
theorem aFU(s:ByteArray):mD s=bF s:=by
 simp only[mD,bF,dW];rcases Nat.lt_or_ge 0 s.size with h1 | h1
 ·have h1':1≤s.size:=h1;rw[aKS s h1'];cases hL:isLet ((chars s).getD 0 0)with
  | false=>simp
  | true=>
   cases h45:((chars s).getD (s.size - 1) 0==45)with
   | true=>simp
   | false=>
    simp only[h1',decide_true,Bool.true_and,Bool.and_true,Bool.not_false,Bool.and_assoc];congr 1;rw[Bool.eq_iff_iff];simp only[Bool.and_eq_true,Bool.not_eq_true',Bool.eq_false_iff,ne_eq,aC1,List.any_eq_true,List.all_eq_true,List.mem_range,not_exists,not_and]
    have hget:∀ i,i<s.size→(chars s)[i]? =some ((chars s).getD i 0):=fun i hi=>by
     rw[List.getD_eq_getElem?_getD,gE9 (by rw[dW];exact hi)];rfl
    constructor
    ·rintro⟨ha,hb⟩ i hi
     have e1:jB ((chars s).getD (i+1) 0)=true:=by
      have:=hb _ (gM9 (hget (i+1) (by omega)));simpa using this
     have e2:(chars s).getD i 0=45→¬(chars s).getD (i+1) 0=45:=fun g1 g2=>ha i ((vQ s i).2 ⟨by omega,g1⟩) ((vQ s (i+1)).2 ⟨by omega,g2⟩)
     simp only[lK,Nat.add_sub_cancel];generalize (chars s).getD (i+1) 0=c at*;generalize (chars s).getD i 0=d at*;simp only[jB]at e1;simp at e1 ⊢
     grind
    ·intro ha
     have hr:∀ i,i<s.size - 1→jB ((chars s).getD (i+1) 0)=true∧((chars s).getD (i+1) 0=45→¬(chars s).getD i 0=45):=fun i hi=>by
      have:=ha i hi;simp only[lK,Nat.add_sub_cancel]at this;generalize (chars s).getD (i+1) 0=c at*;generalize (chars s).getD i 0=d at*;simp only[jB];constructor
      ·simp at this ⊢
       grind
      ·rintro rfl;simpa[uP,isLet,aIG,aIH]using this
     refine⟨fun i h0 h1=>?_,fun c hc=>?_⟩
     ·obtain⟨g1,g2⟩:=(vQ s i).1 h0;obtain⟨g3,g4⟩:=(vQ s (i+1)).1 h1;exact(hr i (by omega)).2 g4 g2
     ·obtain⟨i,hi,rfl⟩:=List.getElem_of_mem hc;rw[dW]at hi
      have e:(chars s)[i]=(chars s).getD i 0:=by
       have:=hget i hi;rw[gE9 (by rw[dW];exact hi)]at this;simpa using this
      rw[e];rcases i with - | i
      ·simp only[jB,hL];simp
      ·simpa using(hr i (by omega)).1
 ·have:s.size=0:=by omega
  simp[this]
attribute [local simp] b2b b2c b2d b2e b2f b2g b2h b2i b2j c219 in
theorem aVC(s:ByteArray)(hs:s.size≤32)(st:St)(h0:st.tmps 0= .one (.t (.str s))):
  aZ prog 52 (aC [.tmp 2] (.one (.t (.bool (!(chars s).any fun c=> !jB c))))) b2i [] st:=by
 simp -implicitDefEqProofs [h0];refine bS (chars s) (fun c=> !jB c) [0,23] [] (fun i st=>st.tmps 24= .one (.t (I i))) (by simp[short,dW];omega) ⟨by simp,by simp,by simp⟩ ?_ ?_
 ·intro i c st hi hiI hw hg hy hany hx hk hh;simp[h0]at hk;rw[dW]at hi hiI;have hc:(chars s)[i]?.getD 0=c:=by rw[hg];rfl
  simp -implicitDefEqProofs [h0,hx,hk,hiI,hc];refine aD.tree (aS6 _) rfl ?_;cases d1:isLet c with
  | true=>simp -implicitDefEqProofs [hx,hk,hw,jB,d1]
  | false=>
   simp -implicitDefEqProofs [hk,hiI,hc];refine aD.tree (aVB _) rfl ?_;cases d2:uP c with
   | true=>simp -implicitDefEqProofs [hx,hk,hw,jB,d2]
   | false=>
    rcases eqCases c 95 with q1 | q1
    ·simp -implicitDefEqProofs [hx,hk,hw,jB,hiI,hc,q1]
    ·rcases eqCases c 45 with q2 | q2
     ·simp -implicitDefEqProofs [hx,hk,hw,jB,hiI,hc,q2]
     ·simp -implicitDefEqProofs [hk,hiI,hc,q1,q2,aC];simpa using List.any_eq_true.1 (hany (by simp[jB,d1,d2,q1,q2]))
 ·intro st hany hx hk hh;simp[h0]at hk;rw[hany];rw[dW]at hx;simp -implicitDefEqProofs [hx,hk,aC]
attribute [local simp] b2b b2c b2d b2e b2f b2g b2h b2j c219 in
theorem aNI(s:ByteArray)(hs:s.size≤9223372036854775807):PSp prog 219 [.one (.t (.str s))] (.one (.t (.bool (bF s)))):=by
 rw[←aFU];refine k219.aI (by simp) rfl rfl ?_;simp -implicitDefEqProofs;refine aD.tree (tP _ _ _) rfl ?_;cases h1:(decide ((1:Int)≤(s.size:Int))&&decide ((s.size:Int)≤32))with
 | false=>
  simp -implicitDefEqProofs [aC];simp at h1;simp[mD];omega
 | true=>
  simp at h1;have h1':0<s.size∧s.size≤32:=by omega
  simp -implicitDefEqProofs [h1'.1];refine aD.tree (aS6 _) rfl ?_;cases h2:isLet ((chars s)[0]?.getD 0)with
  | false=>
   simp -implicitDefEqProofs [aC,mD,h2]
  | true=>
   simp -implicitDefEqProofs;refine aD.tree (aFT _ _ hs) rfl ?_;have eb:(bs [45]).data.toList=[45]:=rfl;have eb2:(bs [45,45]).data.toList=[45,45]:=rfl;rw[eb];cases h3:Lib.hasSuffix s.data.toList [45]with
   | true=>simp -implicitDefEqProofs [aC,mD,h2,h3]
   | false=>
    simp -implicitDefEqProofs;refine aD.tree (aIE _ _ (by omega)) rfl ?_;rw[eb2];cases h4:Lib.contains s.data.toList [45,45]with
    | true=>simp -implicitDefEqProofs [aC,mD,h2,h3,h4]
    | false=>
     simp -implicitDefEqProofs
     have e:mD s= !(chars s).any fun c=> !jB c:=by
      simp only[mD,h3,h4,List.getD_eq_getElem?_getD,h2];simp[show 1≤s.size by omega,h1'.2]
     rw[e];exact aVC s h1'.2 _ (by simp)
end
def aS7(sz:Nat)(g:Bool):List Seg:=[Seg.one (aW.mk (some 11) (dL.op (AOp.mv (X.tmp 1))) none),Seg.one (aW.mk (some 12) (dL.op (AOp.mv (X.tmp 0))) none),Seg.one (aW.mk (some 13) (dL.op (AOp.mv (X.tmp 5))) none),Seg.one (aW.mk (some 14) (dL.op (AOp.ia sz (X.tmp 12) (X.tmp 13))) none),Seg.one (aW.mk (some 15) (dL.op (AOp.load sz g (X.tmp 14))) none),Seg.one (aW.mk (some 16) (dL.callv (X.tmp 11) [X.tmp 15]) none)]
def ifB(sz:Nat)(g:Bool):aB:=(.seq (.region 2 false 1 a9t) (.seq (.cond (X.tmp 9) .skip (.exit 0)) (.seq (.block 1 (.seq (.region 3 false 2 a9u) (.seq (.region 4 false 6 (aS7 sz g)) (.cond (X.tmp 16) (.seq (.region 5 false 2 a9v) .ret) .skip)))) (.region 6 false 2 a9w))))
def ifC(sz:Nat)(g:Bool):aB:=(.seq (.region 0 false 1 a9r) (.seq (.seq (.region 1 false 3 a9s) (.block 0 (.loop (ifB sz g)))) (.seq (.region 7 false 1 a9x) .ret)))
def aII(g:Bool)(r:List T):D:=if g then .agg (r.map .t)else .one (.t (r.headD .nilp))
def idxOf{α:Type}(l:List α)(p:α→Bool):Int:=match l.findIdx? p with | some i=>(i:Int) | none=> -1
theorem aNJ{g:Bool}{sz:Nat}{r:List T}(hr:r.length=sz)(hg:g=false→sz=1):D.of g (((r.drop 0).take sz).map .t)=aII g r:=by
 cases g with
 | true=>simp[D.of,aII,←hr]
 | false=>
  have:=hg rfl;subst this
  match r,hr with
  | [x],_=>simp[D.of,aII]
attribute [local simp] aS7 a9r a9s a9t a9u a9v a9w a9x in
theorem aDM{f:FuncId}{α:Type}{sz:Nat}{g:Bool}(hk:Compiled prog f 19 [.tmp 4] (ifC sz g))(l:List α)(row:α→List T)(hrow:∀ x,(row x).length=sz)(hg:g=false→sz=1)(hl:short l)(p:α→Bool)(clo:FuncId)(caps:List Pt)(h:Hp)(n0:Nat)
  (hc:callable prog clo=true) (hp:∀ x∈l,∀new K,n0≤new→K (.one (.t (.bool (p x)))) h→aD prog false clo (aII g (row x)::caps.map fun q=> .one (.ptr q)) h new K):
  ISp prog f h n0 [.one (.t (.rows sz (l.map row))),.one (.fn clo caps)] (.one (.t (I (idxOf l p)))) h:=by
 refine ISp.ok fun ho=>?_
 refine hk.gQ (by simp) ?_;simp -implicitDefEqProofs [-aA,-gval,ifC];refine nU l p [0,1,7] [] (fun i st=>st.tmps 8= .one (.t (I i))∧st.heap=h∧n0≤st.nx) hl ⟨⟨by simp,by simp,by simp;omega⟩,by simp,by simp⟩ ?_ ?_
 ·rintro i y st hi hiI hw hgt hy hany ⟨hx,hh',hnx⟩ hk hh;simp at hk;simp -implicitDefEqProofs [-aA,-gval,ifB,hx,hk,hiI,hi,aE hgt,hrow]
  have e:(if g=true then D.agg (List.take sz (List.map A.t (row y)))else D.one ((List.take sz (List.map A.t (row y))).head?.getD A.undef))=aII g (row y):=by
   have e0:=aNJ (g:=g) (hrow y) hg;simpa[D.of,List.map_take]using e0
  rw[e];refine⟨hg,clo,caps,⟨rfl,rfl⟩,hc,?_⟩;rw[hh'];refine hp y hy _ _ (by omega) ?_;cases hb:p y with
  | true=>
   simp -implicitDefEqProofs [-aA,-gval];exact dQ (.inr rfl) (by simp[idxOf,hany hb]) (fun j hj=>by simp) ho
  | false=>
   simp -implicitDefEqProofs [-aA,-gval,hx,hk,hw];omega
 ·rintro st hany ⟨hx,hh',hnx⟩ hk hh;simp at hk;simp -implicitDefEqProofs [-aA,-gval,ifB,hx,hk];refine dQ (.inr rfl) (by simp[idxOf,hany]) (fun j hj=>by simp[hh']) ho
def aS8(f:FuncId):List Seg:=[Seg.one (aW.mk (some 5) (dL.op (AOp.mv (X.tmp 0))) none),Seg.one (aW.mk (some 6) (dL.op (AOp.mv (X.tmp 1))) none),Seg.one (aW.mk (some 7) (dL.call f [X.tmp 5,X.tmp 6]) none),Seg.one (aW.mk (some 8) (dL.op (AOp.bin .geq false (X.tmp 7) (X.con (D.one (A.t (T.int .i64 0)))))) none),Seg.one (aW.mk (some 4) (dL.op (AOp.mv (X.tmp 8))) none)]
def cfC(f:FuncId):aB:=(.seq (.region 0 false 1 a9c) (.seq (.region 1 false 5 (aS8 f)) .ret))
theorem tS{α:Type}(l:List α)(p:α→Bool):decide (0≤idxOf l p)=l.any p:=by
 rw[Bool.eq_iff_iff,decide_eq_true_iff];simp only[idxOf];split
 ·rename_i i h;rw[List.findIdx?_eq_some_iff_getElem]at h;obtain⟨h1,h2,_⟩:=h;exact⟨fun _=>List.any_eq_true.2 ⟨_,gL9 h1,h2⟩,fun _=>by omega⟩
 ·rename_i h;rw[List.findIdx?_eq_none_iff]at h;refine⟨fun h=>by omega,fun h'=>?_⟩;obtain⟨x,hx,hp⟩:=List.any_eq_true.1 h';rw[h x hx]at hp;cases hp
attribute [local simp] aS8 a9c in
theorem gX{f fi:FuncId}{α:Type}{sz:Nat}{g:Bool}(hk:Compiled prog f 9 [.tmp 4] (cfC fi))(hi:Compiled prog fi 19 [.tmp 4] (ifC sz g))(l:List α)(row:α→List T)(hrow:∀ x,(row x).length=sz)(hg:g=false→sz=1)(hl:short l)(p:α→Bool)(clo:FuncId)(caps:List Pt)(h:Hp)(n0:Nat)
  (hc:callable prog clo=true) (hp:∀ x∈l,∀new K,n0≤new→K (.one (.t (.bool (p x)))) h→aD prog false clo (aII g (row x)::caps.map fun q=> .one (.ptr q)) h new K):
  ISp prog f h n0 [.one (.t (.rows sz (l.map row))),.one (.fn clo caps)] (.one (.t (.bool (l.any p)))) h:=by
 refine ISp.ok fun ho=>?_
 refine hk.gQ (by simp) ?_;simp -implicitDefEqProofs [-aA,-gval,cfC];refine aD.imp (aDM hi l row hrow hg hl p clo caps h _ hc fun x hx new K hn hK=>hp x hx new K (by omega) hK) ?_;simp -implicitDefEqProofs [-aA,-gval];exact dQ (.inr rfl) (by simp[tS]) (fun j hj=>by simp) ho
theorem aS9(l:List Fd)(hl:short l)(p:Fd→Bool)(clo:FuncId)(caps:List Pt)(h:Hp)(n0:Nat)(hc:callable prog clo=true)
  (hp:∀ x∈l,∀new K,n0≤new→K (.one (.t (.bool (p x)))) h→aD prog false clo (.agg (x.row.map .t)::caps.map fun q=> .one (.ptr q)) h new K):
  ISp prog 173 h n0 [.one (.t (aM l)),.one (.fn clo caps)] (.one (.t (.bool (l.any p)))) h:=
 gX (sz:=13) (g:=true) k173 k213 l Fd.row (fun x=>by rw[Fd.aP];rfl) (fun e=>by cases e) hl p clo caps h n0 hc hp
theorem aVD(l:List ByteArray)(hl:short l)(p:ByteArray→Bool)(clo:FuncId)(caps:List Pt)(h:Hp)(n0:Nat)(hc:callable prog clo=true)
  (hp:∀ x∈l,∀new K,n0≤new→K (.one (.t (.bool (p x)))) h→aD prog false clo (.one (.t (.str x))::caps.map fun q=> .one (.ptr q)) h new K):
  ISp prog 227 h n0 [.one (.t (aO l)),.one (.fn clo caps)] (.one (.t (.bool (l.any p)))) h:=
 gX (sz:=1) (g:=false) k227 k266 l (fun s=>[.str s]) (fun _x=>rfl) (fun _=>rfl) hl p clo caps h n0 hc hp
theorem aVE(l:List Vl)(hl:short l)(p:Vl→Bool)(clo:FuncId)(caps:List Pt)(h:Hp)(n0:Nat)(hc:callable prog clo=true)
  (hp:∀ x∈l,∀new K,n0≤new→K (.one (.t (.bool (p x)))) h→aD prog false clo (.agg (x.row.map .t)::caps.map fun q=> .one (.ptr q)) h new K):
  ISp prog 263 h n0 [.one (.t (aV l)),.one (.fn clo caps)] (.one (.t (.bool (l.any p)))) h:=
 gX (sz:=6) (g:=true) k263 k283 l Vl.row (fun x=>by rw[Vl.aP];rfl) (fun e=>by cases e) hl p clo caps h n0 hc hp
theorem aVF(l:List Sp)(hl:short l)(p:Sp→Bool)(clo:FuncId)(caps:List Pt)(h:Hp)(n0:Nat)(hc:callable prog clo=true)
  (hp:∀ x∈l,∀new K,n0≤new→K (.one (.t (.bool (p x)))) h→aD prog false clo (.agg ((spr x).map .t)::caps.map fun q=> .one (.ptr q)) h new K):
  ISp prog 154 h n0 [.one (.t (spans l)),.one (.fn clo caps)] (.one (.t (.bool (l.any p)))) h:=
 gX (sz:=2) (g:=true) k154 k199 l spr (fun x=>rfl) (fun e=>by cases e) hl p clo caps h n0 hc hp
theorem aQ1(s:ByteArray)(hs:s.size≤9223372036854775807)(p:Int→Bool)(clo:FuncId)(caps:List Pt)(h:Hp)(n0:Nat)(hc:callable prog clo=true)
  (hp:∀ x∈chars s,∀new K,n0≤new→K (.one (.t (.bool (p x)))) h→aD prog false clo (.one (.t (.int .u8 x))::caps.map fun q=> .one (.ptr q)) h new K):
  ISp prog 122 h n0 [.one (.t (.rows 1 (eO s))),.one (.fn clo caps)] (.one (.t (.bool ((chars s).any p)))) h:=by
 have e:eO s=(chars s).map fun c=>[T.int .u8 c]:=by simp[eO,chars]
 rw[e];exact gX (sz:=1) (g:=false) k122 k156 (chars s) (fun c=>[.int .u8 c]) (fun x=>rfl) (fun _=>rfl) (by simp[short,dW];exact hs) p clo caps h n0 hc hp
end Go.Proofs.YtdpbobkcbakpfaaGreatDoor
