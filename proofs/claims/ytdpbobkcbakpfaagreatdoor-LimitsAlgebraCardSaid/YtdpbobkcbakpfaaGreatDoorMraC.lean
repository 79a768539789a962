/- Texts of this proof. -/
import Derived.Test.YtdpbobkcbakpfaaGreatDoorProg
import Derived.RangeFuncIn
import Derived.RangeFuncRecord
import Derived.RangeFuncSeq
import Derived.RangeFuncLeaves
import Derived.Shelf.Abstract
import Derived.WalkKit
import Derived.OwnWalkIn
import Derived.TacticsInMore
import Derived.LoopNIn
import Derived.LoopIn
import Derived.Test.YtdpbobkcbakpfaaGreatDoorMraB
namespace Go.Proofs.YtdpbobkcbakpfaaGreatDoor
open Go Go.Ab
open Go.Proofs.Tryz
set_option maxRecDepth 100000
set_option maxHeartbeats 4000000
def b3v:List Seg:=[zW 6 false]
def b3w:List Seg:=[zv 7 1,zv 8 0,zB 9 .leq 7 8,zv 10 9,.grp 10 true [zg 11 (zm 0) 10 true,zg 12 (zm 2) 10 true,zg 13 (zO .leq 11 12) 10 true],zP 14 10 13,zv 6 14]
def c85:aB:=zs 0 1 b3v (zs 1 9 b3w .ret)
theorem k85:Compiled prog 85 15 [.tmp 6] c85:=kMk [] func85
def b3x:List Seg:=[zM 4 0]
def b3y:List Seg:=[zv 5 0]
def b3z:List Seg:=[zM 4 0]
def b3A:List Seg:=[zv 6 1,zv 4 6]
def c81:aB:=zs 0 1 b3x (.seq (zs 1 1 b3y (zd 5 (zs 2 1 b3z .ret) .skip)) (zs 3 2 b3A .ret))
theorem k81:Compiled prog 81 7 [.tmp 4] c81:=kMk [] func81
def b3B:List Seg:=[zM 2 0]
def b3C:List Seg:=[zv 5 0,zL 6 5,zM 7 0]
def b3D:List Seg:=[zB 8 .lss 7 6]
def b3E:List Seg:=[zI 9 1 5 7,zl 10 9,zv 4 10]
def b3F:List Seg:=[zv 11 4,zK 12 .neq 11 0]
def b3G:List Seg:=[zv 13 4,zv 2 13]
def b3H:List Seg:=[zK 14 .add 7 1,zv 7 14]
def b3I:aB:=zs 2 1 b3D (.seq (zd 8 .skip (.exit 0)) (.seq (.block 1 (zs 3 3 b3E (zs 4 2 b3F (zd 12 (zs 5 2 b3G .ret) .skip)))) (zr 6 2 b3H)))
def b3J:List Seg:=[zM 2 0]
def c79:aB:=zs 0 1 b3B (.seq (zs 1 3 b3C (.block 0 (.loop b3I))) (zs 7 1 b3J .ret))
theorem k79:Compiled prog 79 15 [.tmp 2] c79:=kMk [] func79
def b3K:List Seg:=[zW 6 false]
def b3L:List Seg:=[zv 7 1,zv 8 0,zB 9 .leq 7 8,zv 10 9,.grp 10 true [zg 11 (zm 0) 10 true,zg 12 (zm 2) 10 true,zg 13 (zO .leq 11 12) 10 true],zP 14 10 13,zv 6 14]
def c37:aB:=zs 0 1 b3K (zs 1 9 b3L .ret)
theorem k37:Compiled prog 37 15 [.tmp 6] c37:=kMk [] func37
def b3M:List Seg:=[zW 4 false]
def b3N:List Seg:=[zM 5 0]
def a7r:List Seg:=[zv 6 5,zv 7 0,zL 8 7,zB 9 .lss 6 8]
def a7s:List Seg:=[zv 12 1,zv 13 0,zv 14 5,zI 15 2 13 14,zf 16 0 15,zl 17 16,zv 18 0,zv 19 5,zI 20 2 18 19,zf 21 1 20,zl 22 21,zq 23 37 [12,17,22]]
def a7t:List Seg:=[zW 4 true]
def a7u:List Seg:=[zv 10 5,zK 11 .add 10 1,zv 5 11]
def a7v:aB:= .seq (zs 2 4 a7r (zd 9 .skip (.exit 0))) (.seq (.block 1 (.seq (.region 4 true 12 a7s) (zd 23 (zs 5 1 a7t .ret) .skip))) (zr 3 3 a7u))
def b3O:List Seg:=[zW 4 false]
def c41:aB:=zs 0 1 b3M (.seq (zs 1 1 b3N (.block 0 (.loop a7v))) (zs 6 1 b3O .ret))
theorem k41:Compiled prog 41 24 [.tmp 4] c41:=kMk [] func41
def a7w:List Seg:=[zW 4 false]
def a7x:List Seg:=[zv 6 0,zL 7 6,zv 8 1,zL 9 8,zB 10 .neq 7 9]
def b3P:List Seg:=[zW 4 false]
def b3Q:List Seg:=[zM 5 0]
def a7y:List Seg:=[zv 11 5,zv 12 0,zL 13 12,zB 14 .lss 11 13]
def b3R:List Seg:=[zv 17 0,zv 18 5,zI 19 2 17 18,zA 20 2 19,zv 21 1,zv 22 5,zI 23 2 21 22,zA 24 2 23,zo 25 (.beq true 0 1 (.tmp 20) (.tmp 24))]
def b3S:List Seg:=[zW 4 false]
def b3T:List Seg:=[zv 15 5,zK 16 .add 15 1,zv 5 16]
def a7z:aB:= .seq (zs 4 4 a7y (zd 14 .skip (.exit 0))) (.seq (.block 1 (.seq (.region 6 true 9 b3R) (zd 25 (zs 7 1 b3S .ret) .skip))) (zr 5 3 b3T))
def b3U:List Seg:=[zW 4 true]
def c20:aB:=zs 0 1 a7w (.seq (zs 1 5 a7x (zd 10 (zs 2 1 b3P .ret) .skip)) (.seq (zs 3 1 b3Q (.block 0 (.loop a7z))) (zs 8 1 b3U .ret)))
theorem k20:Compiled prog 20 26 [.tmp 4] c20:=kMk [] func20
def b3V:List Seg:=[zo 0 (.alloc [za,.t (.str (bs [])),.tt 3 [],.tt 13 [],.t (.bool false),za,.tt 8 [],.tt 5 []])]
def b3W:List Seg:=[zo 1 (.build [za,za,za,.t (.str (bs [])),.tt 1 []] [(1,(1,zi 1)),(2,(1,zi 5))]),zo 2 (.build [za,za,za,.t (.str (bs [])),.tt 1 []] [(1,(1,zi 8)),(2,(1,zi 8))]),zo 3 (.bslice 1 2 [za,za] [(0,(1,zi 0)),(1,(1,zi 1))]),zo 4 (.build [za,za,za,.t (.str (bs [])),.tt 1 []] [(0,(1,zi 7)),(4,(1,.tmp 3))]),zo 5 (.bslice 5 3 [za,za,za,.t (.str (bs [])),.tt 1 [],za,za,za,.t (.str (bs [])),.tt 1 [],za,za,za,.t (.str (bs [])),.tt 1 []] [(0,(5,.tmp 1)),(5,(5,.tmp 2)),(10,(5,.tmp 4))]),zo 6 (.build [za,.t (.str (bs [])),.tt 3 [],.tt 13 [],.t (.bool false),za,.tt 8 [],.tt 5 []] [(0,(1,zi 2)),(7,(1,.tmp 5))]),zS 8 0 6]
def c56:aB:=zs 0 1 b3V (zs 1 7 b3W .ret)
theorem k56:Compiled prog 56 7 [.cell 0 8 true] c56:=kMk [] func56
def d0v:List Seg:=[zW 4 false]
def d0w:List Seg:=[zv 5 0,zv 6 1,zq 7 156 [5,6],zK 8 .geq 7 0,zv 4 8]
def c122:aB:=zs 0 1 d0v (zs 1 5 d0w .ret)
theorem k122:Compiled prog 122 9 [.tmp 4] c122:=kMk [] func122
def b3X:List Seg:=[zX 3 1 1,zW 4 false]
def b3Y:List Seg:=[zv 5 0,zo 6 (.mkfn 155 [.tmp 3]),zq 7 154 [5,6],zv 4 7]
def c120:aB:=zs 0 2 b3X (zs 1 4 b3Y .ret)
theorem k120:Compiled prog 120 8 [.tmp 4] c120:=kMk [] func120
def d0x:List Seg:=[zW 4 false]
def d0y:List Seg:=[zv 5 0,zv 6 1,zq 7 199 [5,6],zK 8 .geq 7 0,zv 4 8]
def c154:aB:=zs 0 1 d0x (zs 1 5 d0y .ret)
theorem k154:Compiled prog 154 9 [.tmp 4] c154:=kMk [] func154
def b3Z:List Seg:=[zX 2 2 0,zW 3 false]
def b30:List Seg:=[zl 4 1,zf 5 0 2,zl 6 5,zf 7 1 2,zl 8 7,zq 9 85 [4,6,8],zv 3 9]
def c155:aB:=zs 0 2 b3Z (zs 1 7 b30 .ret)
theorem k155:Compiled prog 155 10 [.tmp 3] c155:=kMk [] func155
def a3k:List Seg:=[zo 4 (.mv (.con (.one (.tt 1 []))))]
def a3l:List Seg:=[zo 5 (.mv (.con (.one (.tt 1 []))))]
def a3m:List Seg:=[zo 11 (.bslice 2 0 [] []),zv 12 0,zo 13 (.app true 2 16 (.tmp 11) (.tmp 12)),zv 14 1,zo 15 (.app true 2 16 (.tmp 13) (.tmp 14)),zv 6 15]
def a5u:List Seg:=[zM 7 0]
def a3n:List Seg:=[zv 16 7,zv 17 6,zL 18 17,zB 19 .lss 16 18]
def b31:List Seg:=[zM 8 0]
def a5v:List Seg:=[zv 22 8,zK 23 .lss 22 2]
def a7A:List Seg:=[zv 26 6,zv 27 7,zI 28 2 26 27,zf 29 0 28,zl 30 29,zv 9 30]
def a7B:List Seg:=[zv 31 8,zK 32 .eql 31 1]
def b32:List Seg:=[zv 33 6,zv 34 7,zI 35 2 33 34,zf 36 1 35,zl 37 36,zK 38 .add 37 1,zv 9 38]
def a7C:List Seg:=[zM 10 0]
def a5w:List Seg:=[zv 39 10,zv 40 5,zL 41 40,zB 42 .lss 39 41,zv 43 42,.br 43 true [zg 44 (zm 5) 43 true,zg 45 (zm 10) 43 true,zg 46 (.ia 1 (.tmp 44) (.tmp 45)) 43 true,zg 47 (zy 46) 43 true,zg 48 (zm 9) 43 true,zg 49 (zO .lss 47 48) 43 true],zP 50 43 49]
def b33:List Seg:=[zv 51 10,zK 52 .add 51 1,zv 10 52]
def a3o:aB:= .seq (zs 13 12 a5w (zd 50 .skip (.exit 4))) (.block 5 (zr 14 3 b33))
def a3p:List Seg:=[zv 53 10,zv 54 5,zL 55 54,zB 56 .eql 53 55,zv 57 56,.br 57 false [zg 58 (zm 5) 57 false,zg 59 (zm 10) 57 false,zg 60 (.ia 1 (.tmp 58) (.tmp 59)) 57 false,zg 61 (zy 60) 57 false,zg 62 (zm 9) 57 false,zg 63 (zO .neq 61 62) 57 false],zQ 64 57 63]
def a3q:List Seg:=[zv 65 5,zv 66 10,zv 67 10,zo 68 (.sl false 1 (.tmp 65) none (some (.tmp 66)) (some (.tmp 67))),zv 69 9,zo 70 (.bslice 1 1 [za] [(0,(1,.tmp 69))]),zv 71 5,zv 72 10,zo 73 (.sl false 1 (.tmp 71) (some (.tmp 72)) none none),zo 74 (.app false 1 8 (.tmp 70) (.tmp 73)),zo 75 (.app false 1 8 (.tmp 68) (.tmp 74)),zv 5 75]
def a7D:List Seg:=[zv 24 8,zK 25 .add 24 1,zv 8 25]
def a5x:aB:= .seq (zs 7 2 a5v (zd 23 .skip (.exit 2))) (.seq (.block 3 (zs 9 6 a7A (.seq (zs 10 2 a7B (zd 32 (zr 11 7 b32) .skip)) (zs 12 1 a7C (.seq (.block 4 (.loop a3o)) (zs 15 12 a3p (zd 64 (.region 16 true 12 a3q) .skip))))))) (zr 8 3 a7D))
def b34:List Seg:=[zv 20 7,zK 21 .add 20 1,zv 7 21]
def a1D:aB:= .seq (zs 4 4 a3n (zd 19 .skip (.exit 0))) (.seq (.block 1 (zs 6 1 b31 (.block 2 (.loop a5x)))) (zr 5 3 b34))
def a3r:List Seg:=[zv 76 5,zv 4 76]
def c87:aB:=zs 0 1 a3k (zs 1 1 a3l (zs 2 6 a3m (.seq (zs 3 1 a5u (.block 0 (.loop a1D))) (zs 17 2 a3r .ret))))
theorem k87:Compiled prog 87 77 [.tmp 4] c87:=kMk [(16,10),(16,9)] func87
def b35:List Seg:=[zo 6 (.mv (.con (.one (.tt 2 []))))]
def b36:List Seg:=[zv 14 1,zv 15 2,zq 16 87 [14,15],zv 7 16]
def b37:List Seg:=[zo 8 (.mv (.con (.one (.tt 2 []))))]
def b38:List Seg:=[zM 9 0]
def a7E:List Seg:=[zv 17 9,zK 18 .add 17 1,zv 19 7,zL 20 19,zB 21 .lss 18 20]
def b39:List Seg:=[zv 24 1,zv 25 7,zv 26 9,zI 27 1 25 26,zl 28 27,zq 29 41 [24,28],zv 30 2,zv 31 7,zv 32 9,zI 33 1 31 32,zl 34 33,zq 35 41 [30,34],zv 10 29,zv 11 35]
def a1E:List Seg:=[zv 36 0,zK 37 .eql 36 0,zv 38 37,.grp 38 true [zg 39 (zm 10) 38 true,zg 40 (zm 39) 38 true],.grp 40 false [zg 41 (zm 11) 40 false],.grp 38 true [zg 42 (.pick (.tmp 40) (zb true) (.tmp 41)) 38 true],zP 43 38 42,zv 44 43,.grp 44 false [zg 45 (zm 0) 44 false,zg 46 (zU .eql 45 1) 44 false,zg 47 (zm 46) 44 false],.grp 47 true [zg 48 (zm 10) 47 true],.grp 44 false [zg 49 (.pick (.tmp 47) (.tmp 48) (zb false)) 44 false,zg 50 (zm 49) 44 false],.grp 50 true [zg 51 (zm 11) 50 true],.grp 44 false [zg 52 (.pick (.tmp 50) (.tmp 51) (zb false)) 44 false],zQ 53 44 52,zv 54 53,.grp 54 false [zg 55 (zm 0) 54 false,zg 56 (zU .eql 55 2) 54 false,zg 57 (zm 56) 54 false],.grp 57 true [zg 58 (zm 10) 57 true],.grp 54 false [zg 59 (.pick (.tmp 57) (.tmp 58) (zb false)) 54 false,zg 60 (zm 59) 54 false],.grp 60 true [zg 61 (zm 11) 60 true,zg 62 (zV 61) 60 true],.grp 54 false [zg 63 (.pick (.tmp 60) (.tmp 62) (zb false)) 54 false],zQ 64 54 63,zv 12 64]
def a7F:List Seg:=[zv 65 12,zN 66 65]
def b4a:List Seg:=[zv 67 8,zL 68 67,zv 13 68]
def a7G:List Seg:=[zv 69 13,zK 70 .gtr 69 0,zv 71 70,.br 71 true [zg 72 (zm 8) 71 true,zg 73 (zm 13) 71 true,zg 74 (zU .sub 73 1) 71 true,zg 75 (.ia 2 (.tmp 72) (.tmp 74)) 71 true,zg 76 (zF 1 75) 71 true,zg 77 (zy 76) 71 true,zg 78 (zU .add 77 1) 71 true,zg 79 (zm 7) 71 true,zg 80 (zm 9) 71 true,zg 81 (.ia 1 (.tmp 79) (.tmp 80)) 71 true,zg 82 (zy 81) 71 true,zg 83 (zO .eql 78 82) 71 true],zP 84 71 83]
def b4b:List Seg:=[zv 85 8,zv 86 13,zK 87 .sub 86 1,zv 88 7,zv 89 9,zK 90 .add 89 1,zI 91 1 88 90,zl 92 91,zK 93 .sub 92 1,zI 94 2 85 87,zf 95 1 94,zS 1 95 93]
def a7H:List Seg:=[zv 96 8,zv 97 7,zv 98 9,zI 99 1 97 98,zl 100 99,zv 101 7,zv 102 9,zK 103 .add 102 1,zI 104 1 101 103,zl 105 104,zK 106 .sub 105 1,zo 107 (.build [za,za] [(0,(1,.tmp 100)),(1,(1,.tmp 106))]),zo 108 (.bslice 2 1 [za,za] [(0,(2,.tmp 107))]),zo 109 (.app true 2 16 (.tmp 96) (.tmp 108)),zv 8 109]
def a3s:List Seg:=[zv 22 9,zK 23 .add 22 1,zv 9 23]
def a7I:aB:= .seq (zs 4 5 a7E (zd 21 .skip (.exit 0))) (.seq (.block 1 (.seq (.region 6 true 14 b39) (zs 7 30 a1E (.seq (zs 8 2 a7F (zd 66 (.exit 1) .skip)) (zs 9 3 b4a (.seq (.region 10 true 16 a7G) (zd 84 (zr 11 12 b4b) (.region 12 true 15 a7H)))))))) (zr 5 3 a3s))
def b4c:List Seg:=[zv 110 8,zv 6 110]
def c38:aB:=zs 0 1 b35 (zs 1 4 b36 (zs 2 1 b37 (.seq (zs 3 1 b38 (.block 0 (.loop a7I))) (zs 13 2 b4c .ret))))
theorem k38:Compiled prog 38 111 [.tmp 6] c38:=kMk [] func38
def a5y:List Seg:=[zo 6 (.mv (.con (.one (.tt 2 []))))]
def a5z:List Seg:=[zv 7 0]
def a5A:List Seg:=[zK 9 .eql 7 0,zv 8 9]
def b4d:List Seg:=[zv 10 1,zv 11 2,zo 12 (.bslice 1 2 [.tt 2 [],.tt 2 []] [(0,(1,.tmp 10)),(1,(1,.tmp 11))]),zq 13 131 [12],zq 14 130 [13],zv 6 14]
def a7J:List Seg:=[zK 16 .eql 7 1,zv 15 16]
def b4e:List Seg:=[zv 17 1,zv 18 2,zq 19 132 [17,18],zv 6 19]
def b4f:List Seg:=[zv 20 1,zv 21 2,zq 22 102 [20,21],zv 6 22]
def c86:aB:=zs 0 1 a5y (.seq (zs 1 1 a5z (.block 0 (zs 2 2 a5A (zd 8 (zs 3 6 b4d .ret) (zs 4 2 a7J (zd 15 (zs 5 4 b4e .ret) .skip)))))) (zs 6 4 b4f .ret))
theorem k86:Compiled prog 86 23 [.tmp 6] c86:=kMk [] func86
def b4g:List Seg:=[zo 4 (.mv (.con (.one (.tt 2 []))))]
def b4h:List Seg:=[zv 10 1,zL 11 10,zM 12 0]
def a1x:List Seg:=[zB 13 .lss 12 11]
def a5B:List Seg:=[zI 14 2 10 12,zA 15 2 14,zo 6 (.alloc [za,za]),zS 2 6 15]
def a5C:List Seg:=[zo 7 (.mv (.con (.one (.tt 2 []))))]
def a5D:List Seg:=[zv 16 0,zL 17 16,zM 18 0]
def a5E:List Seg:=[zB 19 .lss 18 17]
def a7K:List Seg:=[zI 20 2 16 18,zA 21 2 20,zo 9 (.alloc [za,za]),zS 2 9 21]
def a7L:List Seg:=[zf 22 0 9,zl 23 22,zf 24 0 6,zl 25 24,zB 26 .lss 23 25]
def a3t:List Seg:=[zv 27 7,zf 28 0 9,zl 29 28,zf 30 1 9,zl 31 30,zf 32 0 6,zl 33 32,zK 34 .sub 33 1,zo 35 (.mm false [.tmp 31,.tmp 34]),zo 36 (.build [za,za] [(0,(1,.tmp 29)),(1,(1,.tmp 35))]),zo 37 (.bslice 2 1 [za,za] [(0,(2,.tmp 36))]),zo 38 (.app true 2 16 (.tmp 27) (.tmp 37)),zv 7 38]
def a5F:List Seg:=[zf 39 1 9,zl 40 39,zf 41 1 6,zl 42 41,zB 43 .gtr 40 42]
def a1F:List Seg:=[zv 44 7,zf 45 0 9,zl 46 45,zf 47 1 6,zl 48 47,zK 49 .add 48 1,zo 50 (.mm true [.tmp 46,.tmp 49]),zf 51 1 9,zl 52 51,zo 53 (.build [za,za] [(0,(1,.tmp 50)),(1,(1,.tmp 52))]),zo 54 (.bslice 2 1 [za,za] [(0,(2,.tmp 53))]),zo 55 (.app true 2 16 (.tmp 44) (.tmp 54)),zv 7 55]
def a3u:List Seg:=[zK 56 .add 18 1,zv 18 56]
def a3v:aB:=zs 6 1 a5E (.seq (zd 19 .skip (.exit 2)) (.seq (.block 3 (zs 7 4 a7K (.seq (zs 8 5 a7L (zd 26 (zr 9 13 a3t) .skip)) (zs 10 5 a5F (zd 43 (zr 11 13 a1F) .skip))))) (zr 12 2 a3u)))
def a7M:List Seg:=[zv 57 7,zv 0 57]
def a7N:List Seg:=[zK 58 .add 12 1,zv 12 58]
def a1y:aB:=zs 2 1 a1x (.seq (zd 13 .skip (.exit 0)) (.seq (.block 1 (zs 3 4 a5B (zs 4 1 a5C (.seq (zs 5 3 a5D (.block 2 (.loop a3v))) (zr 13 2 a7M))))) (zr 14 2 a7N)))
def a3w:List Seg:=[zv 59 0,zq 60 130 [59],zv 4 60]
def c102:aB:=zs 0 1 b4g (.seq (zs 1 3 b4h (.block 0 (.loop a1y))) (zs 15 3 a3w .ret))
theorem k102:Compiled prog 102 61 [.tmp 4] c102:=kMk [] func102
def b4i:List Seg:=[zX 1 6 0,zM 2 0]
def b4j:List Seg:=[zf 3 0 1,zl 4 3,zK 5 .eql 4 10,zv 6 5,.grp 6 false [zg 7 (zF 0 1) 6 false,zg 8 (zy 7) 6 false,zg 9 (zU .eql 8 11) 6 false],zQ 10 6 9]
def b4k:List Seg:=[zf 11 5 1,zl 12 11,zL 13 12,zv 2 13]
def b4l:List Seg:=[zf 14 3 1,zl 15 14,zp 16 15,zv 2 16]
def c121:aB:=zs 0 2 b4i (.seq (zs 1 8 b4j (zd 10 (zs 2 4 b4k .ret) .skip)) (zs 3 4 b4l .ret))
theorem k121:Compiled prog 121 17 [.tmp 2] c121:=kMk [] func121
def a7O:List Seg:=[zo 2 (.mv (.con (.one (.tt 2 []))))]
def b4m:List Seg:=[zv 3 0,zo 4 (.nilq false (.tmp 3))]
def b4n:List Seg:=[zo 2 (.mv (.con (.one (.tt 2 []))))]
def a5G:List Seg:=[zo 5 (.bslice 2 0 [] []),zv 6 0,zo 7 (.app true 2 16 (.tmp 5) (.tmp 6)),zv 2 7]
def c159:aB:=zs 0 1 a7O (.seq (zs 1 2 b4m (zd 4 (zs 2 1 b4n .ret) .skip)) (zs 3 4 a5G .ret))
theorem k159:Compiled prog 159 8 [.tmp 2] c159:=kMk [] func159
def b4o:List Seg:=[zo 2 (.mv (.con (.one (.tt 2 []))))]
def b4p:List Seg:=[zM 3 0]
def b4q:List Seg:=[zv 9 0,zL 10 9,zM 11 0]
def a5H:List Seg:=[zB 12 .lss 11 10]
def b4r:List Seg:=[zI 13 1 9 11,zl 14 13,zv 5 14]
def b4s:List Seg:=[zv 15 3,zv 16 5,zL 17 16,zB 18 .add 15 17,zv 3 18]
def b4t:List Seg:=[zv 19 3,zK 20 .lss 19 0]
def d0z:List Seg:=[zo 21 .dead,zn .dead]
def b4u:List Seg:=[zK 22 .add 11 1,zv 11 22]
def a5I:aB:=zs 3 1 a5H (.seq (zd 12 .skip (.exit 0)) (.seq (.block 1 (zs 4 3 b4r (zs 5 5 b4s (zs 6 2 b4t (zd 20 (zr 7 2 d0z) .skip))))) (zr 8 2 b4u)))
def a7P:List Seg:=[zv 23 3,zc 24 162 [.con (.one (.tt 2 [])),.tmp 23],zv 6 24]
def a7Q:List Seg:=[zv 25 0,zL 26 25,zM 27 0]
def a5J:List Seg:=[zB 28 .lss 27 26]
def a7R:List Seg:=[zI 29 1 25 27,zl 30 29,zv 8 30]
def a7S:List Seg:=[zv 31 6,zv 32 8,zo 33 (.app true 2 16 (.tmp 31) (.tmp 32)),zv 6 33]
def a7T:List Seg:=[zK 34 .add 27 1,zv 27 34]
def a3x:aB:=zs 11 1 a5J (.seq (zd 28 .skip (.exit 2)) (.seq (.block 3 (zs 12 3 a7R (zr 13 4 a7S))) (zr 14 2 a7T)))
def a7U:List Seg:=[zv 35 6,zv 2 35]
def c131:aB:=zs 0 1 b4o (zs 1 1 b4p (.seq (zs 2 3 b4q (.block 0 (.loop a5I))) (zs 9 3 a7P (.seq (zs 10 3 a7Q (.block 2 (.loop a3x))) (zs 15 2 a7U .ret)))))
theorem k131:Compiled prog 131 36 [.tmp 2] c131:=kMk [] func131
def b4v:List Seg:=[zo 4 (.mv (.con (.one (.tt 2 []))))]
def b4w:List Seg:=[zo 5 (.mv (.con (.one (.tt 2 []))))]
def b4x:List Seg:=[zv 12 0,zL 13 12,zM 14 0]
def a7V:List Seg:=[zB 15 .lss 14 13]
def b4y:List Seg:=[zI 16 2 12 14,zA 17 2 16,zo 7 (.alloc [za,za]),zS 2 7 17]
def b4z:List Seg:=[zv 18 1,zL 19 18,zM 20 0]
def a7W:List Seg:=[zB 21 .lss 20 19]
def b4A:List Seg:=[zI 22 2 18 20,zA 23 2 22,zo 9 (.alloc [za,za]),zS 2 9 23]
def b4B:List Seg:=[zf 24 0 7,zl 25 24,zf 26 0 9,zl 27 26,zo 28 (.mm true [.tmp 25,.tmp 27]),zf 29 1 7,zl 30 29,zf 31 1 9,zl 32 31,zo 33 (.mm false [.tmp 30,.tmp 32]),zv 10 28,zv 11 33]
def b4C:List Seg:=[zv 34 10,zv 35 11,zB 36 .leq 34 35]
def a7X:List Seg:=[zv 37 5,zv 38 10,zv 39 11,zo 40 (.build [za,za] [(0,(1,.tmp 38)),(1,(1,.tmp 39))]),zo 41 (.bslice 2 1 [za,za] [(0,(2,.tmp 40))]),zo 42 (.app true 2 16 (.tmp 37) (.tmp 41)),zv 5 42]
def a5K:List Seg:=[zK 43 .add 20 1,zv 20 43]
def a5L:aB:=zs 6 1 a7W (.seq (zd 21 .skip (.exit 2)) (.seq (.block 3 (zs 7 4 b4A (.seq (.region 8 true 12 b4B) (zs 9 3 b4C (zd 36 (zr 10 7 a7X) .skip))))) (zr 11 2 a5K)))
def b4D:List Seg:=[zK 44 .add 14 1,zv 14 44]
def a7Y:aB:=zs 3 1 a7V (.seq (zd 15 .skip (.exit 0)) (.seq (.block 1 (zs 4 4 b4y (zs 5 3 b4z (.block 2 (.loop a5L))))) (zr 12 2 b4D)))
def b4E:List Seg:=[zv 45 5,zq 46 130 [45],zv 4 46]
def c132:aB:=zs 0 1 b4v (zs 1 1 b4w (.seq (zs 2 3 b4x (.block 0 (.loop a7Y))) (zs 13 3 b4E .ret)))
theorem k132:Compiled prog 132 47 [.tmp 4] c132:=kMk [] func132
def a7Z:List Seg:=[zo 2 (.mv (.con (.one (.tt 2 []))))]
def a71:List Seg:=[zv 7 0,zq 8 159 [7],zv 0 8]
def a73:List Seg:=[zv 9 0,zc 10 160 [.tmp 9,.con (.one (.fn 161 []))]]
def a74:List Seg:=[zo 3 (.mv (.con (.one (.tt 2 []))))]
def a8a:List Seg:=[zv 11 0,zL 12 11,zM 13 0]
def a5M:List Seg:=[zB 14 .lss 13 12]
def b4F:List Seg:=[zI 15 2 11 13,zA 16 2 15,zo 5 (.alloc [za,za]),zS 2 5 16]
def b4G:List Seg:=[zv 17 3,zL 18 17,zv 6 18]
def a8b:List Seg:=[zv 19 6,zK 20 .gtr 19 0,zv 21 20,.br 21 true [zg 22 (zF 0 5) 21 true,zg 23 (zy 22) 21 true,zg 24 (zm 3) 21 true,zg 25 (zm 6) 21 true,zg 26 (zU .sub 25 1) 21 true,zg 27 (.ia 2 (.tmp 24) (.tmp 26)) 21 true,zg 28 (zF 1 27) 21 true,zg 29 (zy 28) 21 true,zg 30 (zU .add 29 1) 21 true,zg 31 (zO .leq 23 30) 21 true],zP 32 21 31]
def b4H:List Seg:=[zv 33 3,zv 34 6,zK 35 .sub 34 1,zv 36 3,zv 37 6,zK 38 .sub 37 1,zI 39 2 36 38,zf 40 1 39,zl 41 40,zf 42 1 5,zl 43 42,zo 44 (.mm true [.tmp 41,.tmp 43]),zI 45 2 33 35,zf 46 1 45,zS 1 46 44]
def a8c:List Seg:=[zv 47 3,zA 48 2 5,zo 49 (.bslice 2 1 [za,za] [(0,(2,.tmp 48))]),zo 50 (.app true 2 16 (.tmp 47) (.tmp 49)),zv 3 50]
def a5N:List Seg:=[zK 51 .add 13 1,zv 13 51]
def a5O:aB:=zs 5 1 a5M (.seq (zd 14 .skip (.exit 0)) (.seq (.block 1 (zs 6 4 b4F (zs 7 3 b4G (.seq (.region 8 true 14 a8b) (zd 32 (.region 9 true 15 b4H) (zr 10 5 a8c)))))) (zr 11 2 a5N)))
def a8d:List Seg:=[zv 52 3,zv 2 52]
def c130:aB:=zs 0 1 a7Z (zs 1 3 a71 (zs 2 2 a73 (zs 3 1 a74 (.seq (zs 4 3 a8a (.block 0 (.loop a5O))) (zs 12 2 a8d .ret)))))
theorem k130:Compiled prog 130 53 [.tmp 2] c130:=kMk [] func130
end Go.Proofs.YtdpbobkcbakpfaaGreatDoor
namespace Go.Ab
open Go
set_option maxHeartbeats 4000000
def aA4:Nat→List D→(Nat→D)→(Nat→D)
 | _,[],tm=>tm
 | k,x::xs,tm=>aA4 (k+1) xs (upd tm k x)
theorem aD6:∀ (xs:List D) (k:Nat) (tm:Nat→D) (t:Nat),aA4 k xs tm t=if k≤t∧t<k+xs.length then xs.getD (t - k) (.one .undef)else tm t
 | [],k,tm,t=>by simp[aA4];omega
 | x::xs,k,tm,t=>by
  rw[aA4,aD6 xs];simp only[List.length_cons,upd]
  by_cases h1:k+1≤t∧t<k+1+xs.length
  ·rw[if_pos h1,if_pos (by omega)];rw[show t - k=(t - (k+1))+1 by omega];rfl
  ·rw[if_neg h1]
   by_cases h2:t=k
   ·subst h2;simp
   ·rw[if_neg h2,if_neg (by omega)]
theorem aFM(xs:List D):gP xs=aA4 0 xs fun _=> .one .undef:=funext fun t=>by
 rw[aD6]
 by_cases h:t<xs.length
 ·simp[gP,h]
 ·simp[gP,h,List.getD_eq_getElem?_getD]
theorem aPM(tm:Nat→D)(k j:Nat)(d:D):upd tm k d j=bif j==k then d else tm j:=by simp[upd,Bool.cond_eq_ite]
theorem aP1(h:Hp)(k:Nat)(x:T):(A.t x).frz h k=x:=by cases k<;>rfl
theorem aPN(h:Hp)(k sz:Nat)(rs:List (List T)):(A.tt sz rs).frz h k= .rows sz rs:=by cases k<;>rfl
theorem aHB(h:Hp)(k:Nat)(x:T):(A.t x).cE h k↔True:=by cases k<;>simp[A.cE]
theorem aK8(h:Hp)(k sz:Nat)(rs:List (List T)):(A.tt sz rs).cE h k↔True:=by cases k<;>simp[A.cE]
theorem aP2(h:Hp)(k:Nat)(x:T):(A.t x).ids h k=[]:=by cases k<;>rfl
theorem aPO(h:Hp)(k sz:Nat)(rs:List (List T)):(A.tt sz rs).ids h k=[]:=by cases k<;>rfl
theorem wrap_i64{n:Int}(h1: -9223372036854775808≤n)(h2:n≤9223372036854775807):IntKind.i64.wrap n=n:=by
 simp[IntKind.wrap,IntKind.signed,IntKind.bits];omega
theorem aI0{h:Hp}{i v sz j ver:Nat}{s:Bool}{rs:List (List A)}:alive (h.set i (.arr v s sz rs)) j ver↔if j=i then v=ver else alive h j ver:=by
 unfold alive Hp.set;split<;>split<;>simp_all
theorem dP{h:Hp}{i v sz j:Nat}{s:Bool}{rs:List (List A)}:(h.set i (.arr v s sz rs)).rows j=if j=i then rs else h.rows j:=by
 unfold Hp.rows Hp.set;by_cases e:j=i<;>simp[e]
theorem aPP{h:Hp}{i v sz j:Nat}{s:Bool}{rs:List (List A)}:(h.set i (.arr v s sz rs)).sz j=if j=i then sz else h.sz j:=by
 unfold Hp.sz Hp.set;by_cases e:j=i<;>simp[e]
theorem aD7{h:Hp}{i v sz j:Nat}{s:Bool}{rs:List (List A)}:(h.set i (.arr v s sz rs)).shut j=if j=i then s else h.shut j:=by
 unfold Hp.shut Hp.set;by_cases e:j=i<;>simp[e]
inductive KF where
 | thn (y:aB)
 | blk (id:Nat)
 | post (J:St→Prop)
def kont(P:Program)(n:Nat)(A:Exit→St→Prop):List KF→Exit→St→Prop
 | []=>A
 | .thn y::ks=>rX (awp P n y (kont P n A ks)) (kont P n A ks)
 | .blk id::ks=>rY id (kont P n A ks)
 | .post J::ks=>rX J (kont P n A ks)
def aZ(P:Program)(n:Nat)(A:Exit→St→Prop)(ac:aB)(ks:List KF)(st:St):Prop:=awp P n ac (kont P n A ks) st
def cX(P:Program)(n:Nat)(A:Exit→St→Prop)(ks:List KF)(e:Exit)(st:St):Prop:=kont P n A ks e st
section
variable {P:Program} {n:Nat} {A:Exit→St→Prop} {ks:List KF} {st:St} {x y:aB}
theorem aI1:aZ P n A .skip ks st=cX P n A ks .normal st:=rfl
theorem aI2{id:Nat}:aZ P n A (.exit id) ks st=cX P n A ks (.exit id) st:=rfl
theorem aK9:aZ P n A .ret ks st=cX P n A ks .ret st:=rfl
theorem aKA:aZ P n A (.seq x y) ks st=aZ P n A x (.thn y::ks) st:=rfl
theorem aFN{id:Nat}:aZ P n A (.block id x) ks st=aZ P n A x (.blk id::ks) st:=rfl
theorem aD8{id cnt:Nat}{draw:Bool}{segs:List Seg}:aZ P n A (.region id draw cnt segs) ks st=iH P draw st.nx segs (nR (kont P n A ks) (st.nx+cnt)) 0 st.tmps st.heap:=by
 cases draw<;>simp[aZ,awp]
theorem aI3{c:X}:aZ P n A (.cond c x y) ks st=uN (c.ev st.tmps) (aZ P n A x ks) (aZ P n A y ks) st:=rfl
theorem aI4:aZ P n A (.loop x) ks st=W P n (.loop x) (kont P n A ks) st:=rfl
theorem aI5{nx i:Nat}{tm:Nat→D}{h:Hp}:nR (kont P n A ks) nx i tm h=cX P n A ks .normal ⟨tm,h,nx⟩:=rfl
theorem aKB{e:Exit}:cX P n A [] e st=A e st:=rfl
theorem aKC:cX P n A (.thn y::ks) .normal st=aZ P n A y ks st:=rfl
theorem yL{id:Nat}:cX P n A (.thn y::ks) (.exit id) st=cX P n A ks (.exit id) st:=rfl
theorem aBU:cX P n A (.thn y::ks) .ret st=cX P n A ks .ret st:=rfl
theorem aKD{id:Nat}:cX P n A (.blk id::ks) .normal st=cX P n A ks .normal st:=rfl
theorem yM{id i:Nat}:cX P n A (.blk id::ks) (.exit i) st=if i=id then cX P n A ks .normal st else cX P n A ks (.exit i) st:=rfl
theorem aBV{id:Nat}:cX P n A (.blk id::ks) .ret st=cX P n A ks .ret st:=rfl
theorem aI6{J:St→Prop}:cX P n A (.post J::ks) .normal st=J st:=rfl
theorem wP{J:St→Prop}{id:Nat}:cX P n A (.post J::ks) (.exit id) st=cX P n A ks (.exit id) st:=rfl
theorem yN{J:St→Prop}:cX P n A (.post J::ks) .ret st=cX P n A ks .ret st:=rfl
theorem W.cU(I:Nat→St→Prop)(k:Nat)(h0:I k st)(round:∀ k st,I k st→aZ P n A x (.post (fun st'=>∃ k',k'<k∧I k' st')::ks) st):W P n (.loop x) (kont P n A ks) st:=
 W.loop I k h0 fun k st hI=>W.iB _ _ _ (round k st hI)
theorem Compiled.aI{f:FuncId}{rs:List RV}{ac:aB}(hc:Compiled P f n rs ac){xs:List D}{r:D}(hn:xs.length≤n)(hx:xs.all D.closed=true)(hrc:r.closed=true)(hW:aZ P n (aC rs r) ac [] ⟨gP xs,jM,0⟩):PSp P f xs r:=
 hc.pure hn hx hrc hW
end
theorem aFO(a b:Bool)(x y z:D):sel (a||b) x (sel (!a&& !b) y z)=sel (a||b) x y:=by cases a<;>cases b<;>rfl
theorem aPQ(x:T):(A.t x).tree=x:=rfl
theorem aD9(x:T):(A.t x).mI=true:=rfl
theorem aI7(sz:Nat)(rs:List (List T)):(A.tt sz rs).mI=true:=rfl
attribute [simp] aD9 aI7
attribute [simp] D.aH2 aPQ jA iZ chunk D.lF D.aH3 D.vV D.tF D.qS D.rowsOf D.sl D.aMS iN oint D.mm2 D.beq D.aH1 A.rQ A.vL
attribute [simp] aFO
attribute [simp] aI0 dP aPP aD7 D.vK D.storeAt splice
attribute [simp] aI1 aI2 aK9 aKA aFN aD8 aI3 aI4 aI5 aKB aKC yL aBU aKD yM aBV aI6 wP yN iH wL okG tmG mN oT gval aA X.ev iY aPM AOp.ok AOp.val AOp.eff wK aFM aA4 aK5 aHZ aK6 aK7 aBT aD5 D.bin D.uF aJO aBI aF2 vT aF3 vU D.isBool D.un D.aMP unT aJP D.of D.loadAt D.tE D.ia D.aMR D.len D.aCQ D.int? D.isInt D.isStr aA3 RV.ok RV.val lT D.cE D.frz D.ids aP1 aPN aHB aK8 aP2 aPO D.aJS D.cells D.fa D.aMQ D.aF4 D.scalar A.scalar T.scalar D.rP A.good D.ext D.aH0 D.toS
end Go.Ab
namespace Go.Proofs.YtdpbobkcbakpfaaGreatDoor
open Go Go.Ab
open Go.Proofs.Tryz
set_option maxRecDepth 100000
set_option maxHeartbeats 4000000
noncomputable abbrev P0:=prog
abbrev I (n:Int):T:= .int .i64 n
abbrev Sp:=Int×Int
def spr(x:Sp):List T:=[I x.1,I x.2]
def spans(l:List Sp):T:= .rows 2 (l.map spr)
def inS(l:List Sp)(n:Int):Bool:=l.any fun x=>decide (x.1≤n)&&decide (n≤x.2)
theorem dG(a b c:Int):PSp P0 37 [.one (.t (I a)),.one (.t (I b)),.one (.t (I c))] (.one (.t (.bool (decide (b≤a)&&decide (a≤c))))):=by
 refine k37.aI (by simp) rfl rfl ?_;simp[c37,b3K,b3L,aC]
theorem InP(l:List Sp)(n:Int)(hl:l.length≤1000000):PSp P0 41 [.one (.t (spans l)),.one (.t (I n))] (.one (.t (.bool (inS l n)))):=by
 refine k41.aI (by simp) rfl rfl ?_;simp[c41,b3M,b3N];refine W.cU (fun k st=>st.heap=jM∧∃i:Nat,k=l.length - i∧i≤l.length∧st.tmps 0= .one (.t (spans l))∧st.tmps 1= .one (.t (I n))∧st.tmps 5= .one (.t (I i))∧∀x∈l.take i,(decide (x.1≤n)&&decide (n≤x.2))=false) l.length ⟨rfl,0,by simp,by simp,by simp,by simp,by simp,by simp⟩ ?_;rintro k st ⟨hh,i,hk,hi,h0,h1,h5,hall⟩;rcases Nat.lt_or_ge i l.length with hlt | hge
 ·have hg:l[i]? =some l[i]:=gE9 hlt;simp[a7v,a7r,a7s,a7t,a7u,h0,h1,h5,hh,spans,hlt,spr];refine aD.draw (dG n l[i].1 l[i].2) (by simp) (by simp) (by simp) ?_;simp[aC,h0,h1,h5,spans];refine⟨fun h2 h3=>?_,fun h2=>⟨l.length - (i+1),by omega,i+1,by omega,by omega,wrap_i64 (by omega) (by omega),fun a b hab=>?_⟩⟩
  ·simp[inS];exact⟨_,_,gM9 hg,h2,h3⟩
  ·rw[List.take_add_one,hg]at hab;rcases List.mem_append.1 hab with hab | hab
   ·have:=hall _ hab;simp at this;exact this
   ·simp at hab;rw[←hab]at h2;exact h2
 ·have:i=l.length:=by omega
  subst this;simp[a7v,a7r,a7s,a7t,a7u,b3O,aC,h0,h1,h5,hh,spans];simp at hall;simp[inS];exact hall
end Go.Proofs.YtdpbobkcbakpfaaGreatDoor
namespace Go.Ab
open Go
set_option maxHeartbeats 4000000
section
variable {P:Program} {w w':World} {F F':Fix} {ν ν':Nu} {h:Hp} {nx:Nat} {tm:Nat→D} {a:Act} {n:Nat} {st:St}
theorem VP.agree{p:Pt}{v:Value}(hv:VP ν p v)(h:ν' p.id=ν p.id):VP ν' p v:=by
 obtain⟨b,ver,h1,h2⟩:=hv;exact⟨b,ver,by rw[h];exact h1,h2⟩
theorem VA.agree{x:A}{v:Value}(hv:VA w F ν x v)(hb:x.below n=true)(hν:∀ id,id<n→ν' id=ν id):VA w F ν' x v:=by
 cases x with
 | t x=>exact hv
 | tt sz rs=>exact hv
 | into cs=>exact hv
 | ref id ver off len sz tight=>
  obtain⟨b,v',h1,h2⟩:=hv;have:id<n:=by simpa[A.below]using hb
  exact⟨b,v',by rw[hν id this];exact h1,h2⟩
 | ptr p=>exact VP.agree hv (hν _ (by simpa[A.below]using hb))
 | fn f caps=>
  obtain⟨us,h1,h2,h3⟩:=hv;refine⟨us,h1,h2,fun k p u hp hu=>(h3 k p u hp hu).agree (hν _ ?_)⟩;simp only[A.below,List.all_eq_true,decide_eq_true_eq]at hb;exact hb p (gM9 hp)
 | undef=>exact hv
def sE(k m id:Nat):Nat:=if id=k then m else id
def A.ren(k m:Nat):A→A
 | .ref id ver off len sz tight=> .ref (sE k m id) ver off len sz tight
 | .ptr p=> .ptr ⟨sE k m p.id,p.ver,p.sz,p.i,p.j⟩
 | .fn f caps=> .fn f (caps.map fun p=>⟨sE k m p.id,p.ver,p.sz,p.i,p.j⟩)
 | x=>x
def A.only(n k:Nat):A→Bool
 | .ref id _ _ _ _ _=>decide (id<n∨id=k)
 | .ptr p=>decide (p.id<n∨p.id=k)
 | .fn _ caps=>caps.all fun p=>decide (p.id<n∨p.id=k)
 | _=>true
def iO(ν:Nu)(n k:Nat):Nu:=fun id=>if id<n then ν id else if id=n then ν k else none
theorem wQ{id k:Nat}(hk:n≤k)(h:id<n∨id=k):iO ν n k (sE k n id)=ν id:=by
 unfold iO sE;rcases h with h | h
 ·have:id≠k:=by omega
  simp[this,h]
 ·subst h;simp
theorem VP.ren{p:Pt}{v:Value}{k:Nat}(hv:VP ν p v)(hk:n≤k)(h:p.id<n∨p.id=k):VP (iO ν n k) ⟨sE k n p.id,p.ver,p.sz,p.i,p.j⟩ v:=by
 obtain⟨b,ver,h1,h2⟩:=hv;exact⟨b,ver,by rw[wQ hk h];exact h1,h2⟩
theorem VA.ren{x:A}{v:Value}{k:Nat}(hv:VA w F ν x v)(hk:n≤k)(h:x.only n k=true):VA w F (iO ν n k) (x.ren k n) v:=by
 cases x with
 | t x=>exact hv
 | tt sz rs=>exact hv
 | into cs=>exact hv
 | ref id ver off len sz tight=>
  obtain⟨b,v',h1,h2⟩:=hv;exact⟨b,v',by rw[wQ hk (by simpa[A.only]using h)];exact h1,h2⟩
 | ptr p=>exact VP.ren hv hk (by simpa[A.only]using h)
 | fn f caps=>
  obtain⟨us,h1,h2,h3⟩:=hv;refine⟨us,h1,by simpa using h2,fun j p u hp hu=>?_⟩;rw[List.getElem?_map]at hp;simp only[oM9]at hp;obtain⟨q,hq,rfl⟩:=hp;simp only[A.only,List.all_eq_true,decide_eq_true_eq]at h;exact VP.ren (h3 j q u hq hu) hk (h q (gM9 hq))
 | undef=>exact hv
def aFP(rs:List RV)(k:Nat)(r:D)(h':Hp)(n0:Nat)(e:Exit)(st:St):Prop:=
 (e= .normal∨e= .ret)∧aA3 st rs∧(∃x,lT st rs= .one x∧x.only n0 k=true∧r= .one (x.ren k n0))∧n0≤k∧
  (∀id,id<n0→st.heap id=h' id)∧h' n0=st.heap k∧(∃o,st.heap k=some o)∧(∀id,n0<id→h' id=none)∧∀id o,h' id=some o→o.below n0=true
theorem Sim.move{h h':Hp}{n0 k:Nat}(hs:Sim w F ν h nx)(hk:n0≤k)(h8:∀ id,id<n0→h id=h' id)(h9:h' n0=h k)(_h10:∃ o,h k=some o)(h11:∀ id,n0<id→h' id=none)(h12:∀ id o,h' id=some o→o.below n0=true):
  Sim w F (iO ν n0 k) h' (n0+1):=by
 have eqn:∀ id bv,iO ν n0 k id=some bv→(id<n0∧ν id=some bv)∨(id=n0∧ν k=some bv):=fun id bv hh=>by
  unfold iO at hh;split at hh
  ·exact .inl ⟨‹_›,hh⟩
  ·split at hh
   ·exact .inr ⟨‹_›,hh⟩
   ·cases hh
 have agr:∀ id,id<n0→iO ν n0 k id=ν id:=fun id hid=>by simp[iO,hid]
 have key:∀ id id' o,h' id=some o→h id'=some o→iO ν n0 k id=ν id'→OR w F (iO ν n0 k) id o:=fun id id' o ho ho' hid=>by
  have hob:=hs.obj id' o ho';have hbel:=h12 id o ho;cases o with
  | arr ver shut sz rs'=>
   obtain⟨b,e',m,k1,k2,k3,k4,k5,k6,k7⟩:=hob;refine⟨b,e',m,by rw[hid];exact k1,k2,k3,k4,k5,fun i j rr x hi hj=>?_,k7⟩;obtain⟨q1,u,q2,q3⟩:=k6 i j rr x hi hj;simp only[O.below,List.all_eq_true]at hbel;exact⟨q1,u,q2,q3.agree (hbel rr (gM9 hi) x (gM9 hj)) agr⟩
 refine⟨hs.fixed,fun id o ho=>?_,fun id bv hn=>?_,fun i j b v1 v2 hi hj=>?_,hs.glob⟩
 ·rcases Nat.lt_trichotomy id n0 with h | h | h
  ·exact key id id o ho (by rw[h8 id h];exact ho) (agr id h)
  ·subst h;exact key id k o ho (by rw[←h9];exact ho) (by simp[iO])
  ·rw[h11 id h]at ho;cases ho
 ·rcases eqn id bv hn with⟨h1,h2⟩ | ⟨h1,h2⟩
  ·obtain⟨_,q4,o,q5⟩:=hs.dom _ _ h2;exact⟨by omega,q4,o,by rw[←h8 id h1];exact q5⟩
  ·obtain⟨_,q4,o,q5⟩:=hs.dom _ _ h2;exact⟨by omega,q4,o,by rw[h1,h9];exact q5⟩
 ·rcases eqn i _ hi with⟨h1,h2⟩ | ⟨h1,h2⟩<;>rcases eqn j _ hj with⟨h3,h4⟩ | ⟨h3,h4⟩
  ·exact hs.inj _ _ _ _ _ h2 h4
  ·have:=hs.inj _ _ _ _ _ h2 h4;omega
  ·have:=hs.inj _ _ _ _ _ h2 h4;omega
  ·omega
theorem ISp.aPR{f:FuncId}{fn:Func}{c:Code}{ac:aB}{grow:Nat→Nat→Bool}{rs:List RV}(hf:P.funcs[f]? =some fn)(hb:fn.body=some c)(hc:aR P fn.ntmps grow c=some ac)
  (hres:dF P fn.results.toList=some rs) {xs:List D} {r:D} {h h':Hp} {n0:Nat} (hn:xs.length≤fn.ntmps) (hW:W P fn.ntmps ac (fun e st=>∃ k,aFP rs k r h' n0 e st) ⟨gP xs,h,n0⟩):ISp P f h n0 xs r h':=by
 intro w F ν vs hs hv;refine callsIn_wide.1 (callsIn_of_wp_marks (n:=9) hf hb trivial (wpIn_mono (hW none 9 grow c (.inl ⟨rfl,Nat.le_refl _⟩) hc _ w F ν (sB hs hv hn)) (fun e a' w1 hq=>?_)));obtain⟨st',F',ν',⟨k,h1,h2,⟨x,h3,h4,h5'⟩,h7,h8,h9,h10,h11,h12⟩,hcm⟩:=hq;refine kY h1 (aBR rfl hcm fun w' h5 h6=>?_);obtain⟨v,g1,g2⟩:=jV h5 hres h2;refine⟨v,g1,r,v,h',F',iO ν' n0 k,rfl,⟨rfl,rfl⟩,h5.sim.move h7 h8 h9 h10 h11 h12,?_,?_⟩
 ·rw[h3]at g2;rw[h5'];exact VA.ren (show VA w' F' ν' x v from g2) h7 h4
 ·exact{
   os:=h6.os,tape:=h6.tape,output:=h6.output,size:=h6.size,keep:=h6.keep,cell:=h6.cell,sub:=h6.sub,new:=h6.new,shape:=h6.shape
   nu:=fun id b ver hh=>by
    obtain⟨b',ver',q1,q2⟩:=h6.nu id b ver hh;have:=(hs.dom _ _ hh).1;exact⟨b',ver',by simp[iO,this,q1],q2⟩
   nu':=fun id b ver hh=>by
    unfold iO at hh;split at hh
    ·exact h6.nu' id b ver hh
    ·split at hh
     ·rename_i e;subst e;rcases h6.nu' k b ver hh with⟨b0,v0,q2⟩ | q2
      ·have:=(hs.dom _ _ q2).1;omega
      ·exact .inr q2
     ·cases hh }
theorem Compiled.own{f:FuncId}{n:Nat}{rs:List RV}{ac:aB}(hc:Compiled P f n rs ac){xs:List D}{r:D}{h h':Hp}{n0:Nat}(hn:xs.length≤n)(hW:W P n ac (fun e st=>∃ k,aFP rs k r h' n0 e st) ⟨gP xs,h,n0⟩):ISp P f h n0 xs r h':=by
 obtain⟨fn,c,grow,h1,h2,h3,h4,rfl⟩:=hc.out;exact ISp.aPR h1 h2 h3 h4 hn hW
end
section
variable {P:Program} {w w':World} {F F':Fix} {ν ν':Nu} {h:Hp} {nx:Nat} {tm:Nat→D} {a:Act} {n:Nat} {A:Exit→St→Prop} {st:St}
theorem rE{t e:TypeId}(hu:P.underlying t=some (.slice e))(b:Option Addr)(k c:Nat):(Op.equal t (.slice b k c) (.slice none 0 0)).run P w= .ok b.isNone w:=by
 cases b with
 | some b=>exact oJ hu b k c
 | none=>
  rw[Op.equal,show Op.maxDepth=9999+1 from rfl,Op.equalIn];simp[run_underlying hu]
theorem aKE{x:X}{neg:Bool}{o:Oper}{grow:Bool}{sz:Nat}(hs:∀ t,VD w F ν (tm t) (a.tmps.getD t undef))(hc:zJ P grow o=some (.op (.nilq neg x)))(hx:x.ev tm= .one (.t (.rows sz []))):
  ∃b,(execOp a.eval o).run P w= .ok (.value (.bool b)) w:=by
 unfold zJ at hc;split at hc
 ·rename_i s hcall;simp only[sI9]at hc;subst hc;unfold aH6 at hcall;split at hcall
  ·split at hcall
   ·split at hcall<;>simp at hcall
   ·simp at hcall
   ·cases hcall
  ·cases hcall
 ·simp only[oM9,dL.op.injEq]at hc;obtain⟨op',hc,rfl⟩:=hc;obtain⟨dst,op,ty,pos,after,guard⟩:=o;unfold mT at hc;simp only at hc;cases op with
  | binOp op t y z u=>
   simp only at hc;split at hc
   ·simp[oB9]at hc
   ·simp[oB9]at hc
   ·simp[oB9]at hc
   ·split at hc
    ·simp[oB9]at hc
    ·cases hc
   ·rename_i e hu;simp only[Option.bind_eq_bind,oB9,sI9,AOp.nilq.injEq]at hc;obtain⟨_,hen,x',h1,_,rfl⟩:=hc;have hen:=cF hen;simp only[Bool.and_eq_true,Bool.or_eq_true,decide_eq_true_eq]at hen;obtain⟨e0,e1⟩:=hen
    have hy:a.eval z= .slice none 0 0:=by
     unfold qU at e1;split at e1
     ·rfl
     ·cases e1
    have hv:=aN hs h1;rw[hx]at hv
    obtain⟨b,k,c,hv⟩:∃ b k c,a.eval y= .slice b k c:=by
     generalize a.eval y=v at hv;cases(show VT w F (.rows sz []) v from hv)with
     | nils sz a cap=>exact⟨a,0,cap,rfl⟩
     | rows sz rs b off cap c _ _ _ _=>exact⟨_,_,_,rfl⟩
    have q3:=rE (P:=P) (w:=w) hu b k c;rcases e0 with rfl | rfl
    ·exact⟨_,by simp[execOp,hv,hy,eqGuard,binOp,q3];rfl⟩
    ·exact⟨_,by simp[execOp,hv,hy,eqGuard,binOp,q3];rfl⟩
   ·simp[oB9]at hc
   ·cases hc
  | makeFunc fv first caps=>cases fv<;>simp[oB9]at hc
  | _=>first | (simp only at hc;simp[oB9]at hc;done) | (simp only at hc;split at hc<;>simp[oB9]at hc;done) | (simp only at hc;(repeat' split at hc)<;>simp[oB9]at hc;done) | skip
theorem W.aN4{id t u sz:Nat}{x:X}{neg:Bool}(hx:x.ev st.tmps= .one (.t (.rows sz [])))(hK:∀ b,A .normal ⟨upd (upd st.tmps t (.one (.t (.rows sz [])))) u (.one (.t (.bool b))),st.heap,st.nx+2⟩):
  W P n (.region id false 2 [.one ⟨some t,.op (.mv x),none⟩,.one ⟨some u,.op (.nilq neg (.tmp t)),none⟩]) A st:=by
 intro rd m grow c hm hc a w F ν hr;cases c with
 | region i R draw=>
  simp only[aR,Option.bind_eq_bind,oB9,sI9,aB.region.injEq]at hc;obtain⟨aops,h1,_,h2,rfl,rfl,hcnt,hsegs⟩:=hc;have h2:=cF h2;simp only[Bool.and_eq_true]at h2
  have hg:∀ o∈aops,∀s b,o.guard=some (s,b)→o.dst≠some s:=fun o ho s b hgd hd=>by
   have:=List.all_eq_true.1 h2.2 o ho;unfold nP at this;rw[hgd,hd]at this;simp at this
  obtain⟨g1,g2⟩:=tM hg;rw[hsegs]at g2;have e:aops=[⟨some t,.op (.mv x),none⟩,⟨some u,.op (.nilq neg (.tmp t)),none⟩]:=by rw[←g2];rfl
  rw[e]at h1;refine wpIn_region_list ?_;rcases hR:R.toList with _ | ⟨o1,_ | ⟨o2,_ | ⟨o3,r⟩⟩⟩
  ·rw[hR]at h1;simp[cT]at h1
  ·rw[hR]at h1;simp[cT,oB9]at h1
  ·rw[hR]at h1;simp only[cT,Option.bind_eq_bind,oB9,sI9,List.cons.injEq]at h1;obtain⟨a1,c1,l1,⟨a2,c2,l2,rfl,rfl⟩,rfl,⟨rfl,_⟩⟩:=h1;obtain⟨p1,p2,p3⟩:=gI c1;obtain⟨r1,r2,r3⟩:=gI c2;have hw1:=lZ hr p1 trivial;unfold wpListIn;rw[hw1];simp only[gval,if_true];refine rA hr c1 (.inl ⟨rfl,Nat.le_refl _,rfl⟩) ⟨trivial,rfl,rfl⟩ fun a' w' F' ν' hd' hr' hf'=>?_
   have hw2:=lZ hr' r1 trivial;unfold wpListIn;rw[hw2];simp only[gval,if_true];have hr'':=hr';simp only[gN,Option.bind_eq_bind,oB9,sI9,aW.mk.injEq]at c2;obtain⟨op2,q1,_,q2,g,q3,q4,q5,q6⟩:=c2;subst q5;obtain⟨b,hb⟩:=aKE (w:=w') (x:= .tmp t) (sz:=sz) hr'.tmps q1 (show iY st.tmps (some t) (x.ev st.tmps) t=_ by rw[hx];simp[iY,upd]);refine⟨fun _ _=>trivial,?_⟩;rw[Oper.semAt_eq _ _ _ (uM q1),hb,Oper.uponIn_value];have hd:∀ k,o2.dst=some k→k<n:=fun k hk=>by rw[hk]at r2;simpa[zR]using r2
   have hrb:=Rel.put (v:= .bool b) (d:= .one (.t (.bool b))) (h':=st.heap) (nx':=st.nx+1+1) hr' (Frame.refl _ _ _) (VT.bool b) (hr'.sim.more (Nat.le_add_right _ 1)) hd;refine⟨_,F',ν',hK b,?_,hf',.same ?_,fun _=>?_⟩
   ·rw[q4]at hrb;rw[q4];have:(AOp.mv x).val st.tmps st.heap st.nx= .one (.t (.rows sz [])):=hx;rw[this]at hrb;exact hrb
   ·cases o2.dst<;>exact hd'
   ·cases o2.dst<;>exact hd'
  ·rw[hR]at h1;simp[cT,oB9]at h1
 | _=>simp[aR,oB9]at hc
theorem Compiled.aPS{P:Program}{f:FuncId}{n:Nat}{rs:List RV}{ac:aB}(hc:Compiled P f n rs ac){xs:List D}{r:D}{h h':Hp}{n0:Nat}(hn:xs.length≤n)(hW:aZ P n (fun e st=>∃ k,aFP rs k r h' n0 e st) ac [] ⟨gP xs,h,n0⟩):ISp P f h n0 xs r h':=
 hc.own hn (W.iB _ _ _ hW)
end
section
structure aF (h:Hp) (n:Nat):Prop where
 above:∀ id,n≤id→h id=none
 below:∀ id o,h id=some o→o.below n=true
theorem fJ{rs:List RV}{h':Hp}{n0:Nat}{e:Exit}{st:St}(he:e= .normal∨e= .ret)(hr:rs=[])(hh:st.heap=h')(ho:aF h' n0):gF rs (.tup []) h' n0 e st:=by
 subst hr;refine⟨he,⟨by simp,by simp⟩,by simp[lT,D.cE],by simp[lT,D.frz],by simp[lT,D.ids],fun id _=>by rw[hh],ho.above,ho.below⟩
theorem Compiled.gQ{P:Program}{f:FuncId}{n:Nat}{rs:List RV}{ac:aB}(hc:Compiled P f n rs ac){xs:List D}{r:D}{h h':Hp}{n0:Nat}(hn:xs.length≤n)(hW:aZ P n (gF rs r h' n0) ac [] ⟨gP xs,h,n0⟩):ISp P f h n0 xs r h':=
 hc.isp hn (W.iB _ _ _ hW)
theorem aD.imp{P:Program}{f:FuncId}{xs:List D}{h h':Hp}{new:Nat}{K:D→Hp→Prop}{r:D}(hs:ISp P f h new xs r h')(hK:K r h'):aD P false f xs h new K:=⟨r,h',.inr hs,hK⟩
section
variable {P:Program} {w:World} {F:Fix} {ν:Nu} {h:Hp} {nx:Nat}
theorem VA.below(hs:Sim w F ν h nx){x:A}{v:Value}(hv:VA w F ν x v):x.below nx=true:=by
 cases x with
 | ref id ver off len sz tight=>
  obtain⟨b,v',h1,_⟩:=hv;simp only[A.below,decide_eq_true_eq];exact(hs.dom _ _ h1).1
 | ptr p=>
  obtain⟨b,v',h1,_⟩:=hv;simp only[A.below,decide_eq_true_eq];exact(hs.dom _ _ h1).1
 | fn f caps=>
  obtain⟨us,_,h2,h3⟩:=hv;simp only[A.below,List.all_eq_true,decide_eq_true_eq];intro p hp;obtain⟨k,hk,rfl⟩:=List.getElem_of_mem hp;obtain⟨b,v',h1,_⟩:=h3 k _ us[k] (gE9 hk) (Array.getElem?_eq_getElem (by omega));exact(hs.dom _ _ h1).1
 | _=>rfl
theorem Sim.aPT(hs:Sim w F ν h nx):aF h nx:=by
 refine⟨fun id hid=>?_,fun id o ho=>?_⟩
 ·cases e:h id with
  | none=>rfl
  | some o=>
   have:=hs.obj id o e;cases o with
   | arr ver shut sz rs=>
    obtain⟨b,_,_,g1,_⟩:=this;have:=(hs.dom _ _ g1).1;omega
 ·have:=hs.obj id o ho;cases o with
  | arr ver shut sz rs=>
   obtain⟨b,_,_,_,_,_,_,_,g6,_⟩:=this;simp only[O.below,List.all_eq_true];intro r hr x hx;obtain⟨i,hi,rfl⟩:=List.getElem_of_mem hr;obtain⟨j,hj,rfl⟩:=List.getElem_of_mem hx;obtain⟨_,u,_,g⟩:=g6 i j _ _ (gE9 hi) (gE9 hj);exact VA.below hs g
theorem ISp.ok{f:FuncId}{xs:List D}{r:D}{h':Hp}(k:aF h nx→ISp P f h nx xs r h'):ISp P f h nx xs r h':=fun w F ν vs hs hv=>k hs.aPT w F ν vs hs hv
end
end
end Go.Ab
namespace Go.Proofs.YtdpbobkcbakpfaaGreatDoor
open Go Go.Ab
open Go.Proofs.Tryz
set_option maxRecDepth 100000
set_option maxHeartbeats 4000000
theorem aH{x:Int}(n:Nat)(h:x=n)(hn:n≤9223372036854775807):IntKind.i64.wrap x=(n:Int):=by rw[h,wrap_i64 (by omega) (by omega)]
theorem aF.more{h:Hp}{n m:Nat}(ho:aF h n)(hm:n≤m):aF h m:=by
 refine⟨fun j hj=>ho.above j (by omega),fun j o hj=>?_⟩;have:=ho.below j o hj;cases o with
 | arr v s sz rs=>
  simp only[O.below,List.all_eq_true]at this ⊢;intro r hr x hx;have:=this r hr x hx;cases x<;>simp[A.below]at this ⊢ <;>first | omega | (intro p hp;have:=this p hp;omega)
def a8e:List Seg:=[zo 2 (.alloc [.t (.bool false)])]
def a8f:List Seg:=[zv 11 0,zL 12 11,zK 13 .gtr 12 20]
def b4I:List Seg:=[zn (.store 1 (.tmp 2) (zb false))]
def b4J:List Seg:=[zo 3 (.alloc [.tt 1 []])]
def b4K:List Seg:=[zv 14 0,zL 15 14,zM 16 0]
def a5P:List Seg:=[zB 17 .lss 16 15]
def b4L:List Seg:=[zv 18 16,zI 19 5 14 16,zA 20 5 19,zo 5 (.alloc [za,za,za,.t (.str (bs [])),.tt 1 []]),zv 4 18,zS 5 5 20]
def a0V:List Seg:=[zf 21 4 5,zl 22 21,zL 23 22,zv 6 23]
def a0W:List Seg:=[zW 7 true]
def a0X:List Seg:=[zf 24 0 5,zl 25 24]
def a0Y:List Seg:=[zK 27 .eql 25 0,zv 26 27]
def a0Z:List Seg:=[zK 28 .eql 25 1,zv 26 28]
def a5Q:List Seg:=[zv 29 6,zK 30 .eql 29 0,zv 7 30]
def a01:List Seg:=[zK 32 .eql 25 2,zv 31 32]
def a02:List Seg:=[zK 33 .eql 25 3,zv 31 33]
def a5R:List Seg:=[zv 34 6,zK 35 .eql 34 1,zv 7 35]
def a1z:List Seg:=[zK 37 .eql 25 4,zv 36 37]
def a1A:List Seg:=[zK 38 .eql 25 5,zv 36 38]
def a1B:List Seg:=[zK 39 .eql 25 6,zv 36 39]
def a3y:List Seg:=[zv 40 6,zK 41 .eql 40 2,zv 7 41]
def a5S:List Seg:=[zK 43 .eql 25 7,zv 42 43]
def a8g:List Seg:=[zv 44 6,zK 45 .eql 44 1,zv 46 45,.grp 46 false [zg 47 (zm 6) 46 false,zg 48 (zU .eql 47 2) 46 false],zQ 49 46 48,zv 7 49]
def a8h:List Seg:=[zn (.store 1 (.tmp 2) (zb false))]
def a00:List Seg:=[zv 50 7,zN 51 50,zv 52 51,.grp 52 false [zg 53 (zF 0 5) 52 false,zg 54 (zy 53) 52 false,zg 55 (zU .neq 54 0) 52 false,zg 56 (zm 55) 52 false],.grp 56 true [zg 57 (zF 1 5) 56 true,zg 58 (zy 57) 56 true,zg 59 (zU .neq 58 0) 56 true,zg 60 (zm 59) 56 true],.grp 60 false [zg 61 (zF 2 5) 60 false,zg 62 (zy 61) 60 false,zg 63 (zU .neq 62 0) 60 false],.grp 56 true [zg 64 (.pick (.tmp 60) (zb true) (.tmp 63)) 56 true],.grp 52 false [zg 65 (.pick (.tmp 56) (.tmp 64) (zb false)) 52 false],zQ 66 52 65,zv 67 66,.grp 67 false [zg 68 (zF 0 5) 67 false,zg 69 (zy 68) 67 false,zg 70 (zU .neq 69 1) 67 false,zg 71 (zm 70) 67 false],.grp 71 true [zg 72 (zF 3 5) 71 true,zg 73 (zy 72) 71 true,zg 74 (.bin .neq false (.tmp 73) zu) 71 true],.grp 67 false [zg 75 (.pick (.tmp 71) (.tmp 74) (zb false)) 67 false],zQ 76 67 75]
def a1C:List Seg:=[zn (.store 1 (.tmp 2) (zb false))]
def a3z:List Seg:=[zv 77 4,zo 8 (.alloc [za]),zS 1 8 77]
def a3A:List Seg:=[zf 78 4 5,zl 79 78,zq 80 255 [79]]
def a1G:List Seg:=[zv 10 82]
def a5T:List Seg:=[zl 83 8,zK 84 .eql 83 0,zv 85 84,.grp 85 false [zg 86 (zm 10) 85 false,zg 87 (zy 8) 85 false,zg 88 (zU .sub 87 1) 85 false,zg 89 (zO .neq 86 88) 85 false],zQ 90 85 89]
def a8i:List Seg:=[zn (.store 1 (.tmp 2) (zb false))]
def b4M:List Seg:=[zl 91 3,zl 92 8,zK 93 .sub 92 1,zI 94 1 91 93,zl 95 94,zS 1 8 95]
def a03:aB:= .block 4 (.seq (zs 28 8 a5T (zd 90 (zs 29 1 a8i .ret) .skip)) (zr 30 6 b4M))
def a1w:List Seg:=[zl 96 3,zl 97 8,zo 98 (.bslice 1 1 [za] [(0,(1,.tmp 97))]),zo 99 (.app true 1 8 (.tmp 96) (.tmp 98)),zS 1 3 99]
def a8j:List Seg:=[zK 100 .add 16 1,zv 16 100]
def a3B:aB:=zs 5 1 a5P (.seq (zd 17 .skip (.exit 0)) (.seq (.block 1 (zs 6 6 b4L (zs 7 4 a0V (zs 8 1 a0W (.seq (zs 9 2 a0X (.block 2 (.seq (zs 11 2 a0Y (zd 26 .skip (zr 12 2 a0Z))) (zd 26 (zr 13 3 a5Q) (.seq (zs 14 2 a01 (zd 31 .skip (zr 15 2 a02))) (zd 31 (zr 16 3 a5R) (.seq (zs 17 2 a1z (zd 36 .skip (zs 18 2 a1A (zd 36 .skip (zr 19 2 a1B))))) (zd 36 (zr 20 3 a3y) (zs 21 2 a5S (zd 42 (zr 22 7 a8g) (zs 10 1 a8h .ret))))))))))) (.seq (zs 23 27 a00 (zd 76 (zs 24 1 a1C .ret) .skip)) (zs 25 3 a3z (.seq (zs 26 3 a3A (.block 3 (.rng (.tmp 80) [81,82] (zr 27 1 a1G) a03))) (zr 31 5 a1w))))))))) (zr 32 2 a8j)))
def a8k:List Seg:=[zv 101 0,zL 102 101,zK 103 .eql 102 0,zv 104 103,.br 104 false [zg 105 (zy 3) 104 false,zg 106 (zm 0) 104 false,zg 107 (.len false (.tmp 106)) 104 false,zg 108 (zU .sub 107 1) 104 false,zg 109 (.ia 1 (.tmp 105) (.tmp 108)) 104 false,zg 110 (zy 109) 104 false,zg 111 (zU .eql 110 0) 104 false],zQ 112 104 111,zS 1 2 112]
def c217:aB:=zs 0 1 a8e (.seq (zs 1 3 a8f (zd 13 (zs 2 1 b4I .ret) .skip)) (zs 3 1 b4J (.seq (zs 4 3 b4K (.block 0 (.loop a3B))) (zs 33 13 a8k .ret))))
theorem k217:Compiled prog 217 113 [.cell 2 1 false] c217:=kMk [] func217
def b4N:List Seg:=[zX 1 1 0,zo 2 (.mv (.con (.one (.t .nilf))))]
def b4O:List Seg:=[zo 3 (.mkfn 280 [.tmp 1]),zv 2 3]
def c255:aB:=zs 0 2 b4N (zs 1 2 b4O .ret)
theorem k255:Compiled prog 255 4 [.tmp 2] c255:=kMk [] func255
def a8l:List Seg:=[zo 4 (.mv (.con (.one (.tt 2 []))))]
def a8m:List Seg:=[zv 5 1,zK 6 .lss 5 0]
def d0A:List Seg:=[zo 7 .dead,zn .dead]
def a8n:List Seg:=[zv 8 1,zv 9 0,zo 10 (.cap (.tmp 9)),zv 11 0,zL 12 11,zB 13 .sub 10 12,zB 14 .sub 8 13,zv 1 14]
def a8o:List Seg:=[zv 15 1,zK 16 .gtr 15 0]
def b4P:List Seg:=[zv 17 0,zv 18 0,zo 19 (.cap (.tmp 18)),zo 20 (.sl false 2 (.tmp 17) none (some (.tmp 19)) none),zv 21 1,zo 22 (.appn 2 16 [za,za] (.tmp 20) (.tmp 21)),zv 23 0,zL 24 23,zo 25 (.trunc 2 (.tmp 22) (.tmp 24)),zv 0 25]
def a8p:List Seg:=[zv 26 0,zv 4 26]
def c162:aB:=zs 0 1 a8l (.seq (zs 1 2 a8m (zd 6 (zr 2 2 d0A) .skip)) (.seq (zs 3 8 a8n (zs 4 2 a8o (zd 16 (zr 5 10 b4P) .skip))) (zs 6 2 a8p .ret)))
theorem k162:Compiled prog 162 27 [.tmp 4] c162:=kMk [(5,8)] func162
end Go.Proofs.YtdpbobkcbakpfaaGreatDoor
namespace Go.Ab
open Go
set_option maxHeartbeats 4000000
variable {P:Program} {w w':World} {F F':Fix} {ν ν':Nu} {h:Hp} {nx:Nat} {n:Nat} {A:Exit→St→Prop} {st:St}
def aDA(P:Program)(f:FuncId):Prop:=
 ∀(m b:Nat) (sa:Option Addr) (cap len:Nat) (e:Nat→Value) (Fx:Fix) (l:Nat) (J:Nat→World→Prop) (Jx:World→Prop) (W:World),
  4≤m→(len:Int)≤9223372036854775807→Fx b 0→W.cell? ⟨b,0,none⟩=some (.slice sa len cap)→
  (∀i,i<len→∃sb off,sa=some ⟨sb,off,none⟩∧Fx sb (off+i)∧W.cell? ⟨sb,off+i,none⟩=some (e i))→
  (∀i W1,i<len→J (i+1) W1→YieldAt (FR none) (m - 1) P l #[.int .i64 i,e i] W1 fun en W'=>
   (en= .returned (.bool true)∧J i W'∧∀b o,Fx b o→W'.cell? ⟨b,o,none⟩=W1.cell? ⟨b,o,none⟩)∨(en= .returned (.bool false)∧Jx W'))→
  J len W→
  CallsIn (FR none) m P f #[.func (.yield l) #[] #[],.pointer (some ⟨b,0,none⟩)] W fun en W'=>(∃v,en= .returned v)∧(J 0 W'∨Jx W')
theorem aKF{rs:List (List T)}{u:Value}(hv:VT w F (.rows 1 rs) u):∃ (sa:Option Addr) (cap:Nat) (e:Nat→Value),u= .slice sa rs.length cap∧
  ∀i,i<rs.length→∃sb off,sa=some ⟨sb,off,none⟩∧F sb (off+i)∧w.cell? ⟨sb,off+i,none⟩=some (e i)∧∀t,rs[i]? =some [t]→VT w F t (e i):=by
 cases hv with
 | nils sz a cap=>exact⟨a,cap,fun _=>undef,rfl,fun i hi=>by simp at hi⟩
 | rows sz rs b off cap c hcap hsz hc hv=>
  refine⟨_,cap,fun i=>c i 0,rfl,fun i hi=>⟨b,off,rfl,?_,?_,fun t ht=>hv i 0 [t] t ht rfl⟩⟩
  ·simpa using(hc i 0 hi (by omega)).2
  ·simpa using(hc i 0 hi (by omega)).1
def iI:Obj→Bool
 | .cells _ _ _=>true
 | _=>false
theorem turn{l:Nat}{o o':Obj}(hs:Sim w F ν h nx)(hl:w.heap[l]? =some o)(ho:iI o=false)(ho':iI o'=false):
  (∀b k,(w.putObj l o').cell? ⟨b,k,none⟩=w.cell? ⟨b,k,none⟩)∧(∀id ver,ν id≠some (l,ver))∧Going w F ν (w.putObj l o') F ν∧Sim (w.putObj l o') F ν h nx:=by
 have hlt:l<w.heap.size:=(Array.getElem?_eq_some_iff.1 hl).1
 have cell:∀ b k,(w.putObj l o').cell? ⟨b,k,none⟩=w.cell? ⟨b,k,none⟩:=fun b k=>by
  by_cases e:b=l
  ·subst e;simp only[World.cell?,World.putObj_heap_same hlt,hl];cases o<;>cases o'<;>simp_all [iI]
  ·simp only[World.cell?,World.putObj_heap_other e]
 have shape:∀ b,(w.putObj l o').shape? b=w.shape? b:=fun b=>by
  by_cases e:b=l
  ·subst e;simp only[World.shape?,World.putObj_heap_same hlt,hl];cases o<;>cases o'<;>simp_all [iI]
  ·simp only[World.shape?,World.putObj_heap_other e]
 have frozen:∀ b k,(w.putObj l o').frozen? ⟨b,k,none⟩=w.frozen? ⟨b,k,none⟩:=fun b k=>by
  by_cases e:b=l
  ·subst e;simp only[World.frozen?,World.putObj_heap_same hlt,hl];cases o<;>cases o'<;>simp_all [iI]
  ·simp only[World.frozen?,World.putObj_heap_other e]
 have go:Going w F ν (w.putObj l o') F ν:=⟨fun b o _=>cell b o,fun _ _ h=>h,fun b s h=>by rw[shape];exact h,fun id b ver h=>⟨b,ver,h,Nat.le_refl _,fun _=>rfl,.inl rfl⟩⟩;refine⟨cell,fun id ver hn=>?_,go,⟨fun b o hb=>by rw[World.putObj_size];exact hs.fixed b o hb,fun id o ho=>?_,fun id bv hb=>by rw[World.putObj_size];exact hs.dom id bv hb,hs.inj,hs.glob.mono (fun b o _=>cell b o) fun _ _ h=>h⟩⟩
 ·obtain⟨_,_,ob,hob⟩:=hs.dom _ _ hn;have:=hs.obj id ob hob;cases ob with
  | arr ver shut sz rs=>
   obtain⟨b,e,n,h1,h2,_⟩:=this;rw[hn]at h1;simp only[sI9,Prod.mk.injEq]at h1;obtain⟨rfl,_⟩:=h1;simp only[World.shape?,hl]at h2;cases o<;>simp_all [iI]
 ·have:=hs.obj id o ho;cases o with
  | arr ver shut sz rs=>
   obtain⟨b,e,n,h1,h2,h3,h4,h5,h6,h7⟩:=this;refine⟨b,e,n,h1,by rw[shape];exact h2,fun o ho=>by rw[frozen];exact h3 o ho,h4,h5,fun i j r x hi hj=>?_,h7⟩;obtain⟨k1,u,k2,k3⟩:=h6 i j r x hi hj;exact⟨k1,u,by rw[cell];exact k2,VA.jG k3 go⟩
theorem Frame.turn{w0:World}{F0:Fix}{ν0:Nu}{l:Nat}{o o':Obj}(hf:Frame w0 F0 ν0 w F ν)(hs:Sim w F ν h nx)(hl:w.heap[l]? =some o)(ho:iI o=false)(ho':iI o'=false)(h0:w0.heap.size≤l):
  Frame w0 F0 ν0 (w.putObj l o') F ν:=by
 obtain⟨c1,c2,c3,c4⟩:=Ab.turn hs hl ho ho'
 exact{
  os:=hf.os,tape:=hf.tape,output:=hf.output,size:=by rw[World.putObj_size];exact hf.size
  keep:=fun b hb hn=>by rw[World.putObj_heap_other (by omega)];exact hf.keep b hb hn
  cell:=fun b o hb=>by rw[c1];exact hf.cell b o hb
  sub:=hf.sub,new:=hf.new,shape:=fun b s hs=>c3.shape b s (hf.shape b s hs),nu:=hf.nu,nu':=hf.nu' }
theorem W.back{g:X}{p q:Nat}{x y:aB}{f:FuncId}{pt:Pt}{rs:List (List T)}(hg:g.ev st.tmps= .one (.fn f [pt]))(hit:aDA P f)(hcall:callable P f=true)
  (ha:alive st.heap pt.id pt.ver) (hz:st.heap.sz pt.id=1) (hrows:st.heap.rows pt.id=[[.t (.rows 1 rs)]]) (hp:pt.i=0∧pt.j=0) (hlen:(rs.length:Int)≤9223372036854775807) (hpq:p≠q)
  (I:Nat→Hp→Nat→Prop) (Ax:Exit→Hp→Nat→Prop) (h0:I rs.length (st.heap.close [pt.id]) st.nx) (hAx:∀ e h nx,Ax e h nx→e= .ret∨∃id,e= .exit id)
  (round:∀ j h nx r,I (j+1) h nx→rs[j]? =some r→∃t,r=[t]∧W P n x (fun e st'=>e= .normal∧W P n y (fun e st''=>match e with | .normal=>I j st''.heap st''.nx | e=>Ax e st''.heap st''.nx) st') ⟨upd (upd st.tmps p (.i j)) q (.one (.t t)),h,nx⟩)
  (done:∀ h nx,I 0 h nx→A .normal ⟨st.tmps,h,nx⟩) (stop:∀ e h nx,Ax e h nx→A e ⟨st.tmps,h,nx⟩):W P n (.rng g [p,q] x y) A st:=by
 intro rd m grow c hm hc a w F ν hr
 obtain⟨rfl,hm9⟩:rd=none∧9≤m:=by
  rcases hm with h | h
  ·exact h
  ·simp[aB.flat]at h
 cases c with
 | rangeFunc g0 ps0 cx cy=>
  simp only[aR,Option.bind_eq_bind,oB9,sI9,aB.rng.injEq]at hc;obtain⟨g',k1,x',k2,y',k3,_,k4,rfl,kps,rfl,rfl⟩:=hc;have k4:=cF k4;simp only[Bool.and_eq_true,kps,List.all_cons,List.all_nil,decide_eq_true_eq,and_true]at k4;obtain⟨⟨fx,fy⟩,hpn,hqn⟩:=k4;have hv:=aN hr.tmps k1;rw[hg]at hv;obtain⟨us,e1,e2,e3⟩:=hv
  obtain⟨u0,hu0⟩:∃ u0,us= #[u0]:=by
   rcases us with⟨us⟩
   simp at e2;obtain⟨u0,rfl⟩:=List.length_eq_one_iff.1 e2;exact⟨u0,rfl⟩
  subst hu0;obtain⟨b,ver,n1,n2⟩:=e3 0 pt u0 rfl (by simp)
  -- the box
  obtain⟨b',e',nn,o1,o2,o3,o4,o5,o6,o7⟩:=hr.sim.obj _ _ (gU ha);rw[n1]at o1;simp only[sI9,Prod.mk.injEq]at o1;obtain⟨rfl,hver⟩:=o1;rcases n2 with⟨n2,_⟩ | ⟨_,n2⟩
  ·omega
  rw[hp.1,hp.2]at n2;simp only[Nat.zero_mul,Nat.add_zero]at n2;rw[hrows]at o6;obtain⟨_,u,u1,u2⟩:=o6 0 0 _ _ rfl rfl;simp only[Nat.zero_mul,Nat.add_zero]at u1;obtain⟨s1,fr1⟩:=hr.sim.closeAll [pt.id];generalize hFc:(fun b o=>F b o∨∃id ver,id∈[pt.id]∧ν id=some (b,ver)∧o<(st.heap.rows id).length*st.heap.sz id:Fix)=Fc at s1 fr1;have aHC:∀ b o,F b o→Fc b o:=fun b o hb=>by rw[←hFc];exact .inl hb
  have hFb:Fc b 0:=by rw[←hFc];exact .inr ⟨pt.id,ver,by simp,n1,by rw[hrows,hz];simp⟩
  obtain⟨sa,cap,e,rfl,hel⟩:=aKF (show VT w F (.rows 1 rs) u from u2)
  have hps:ps0= #[p,q]:=by
   rcases ps0 with⟨l⟩
   simpa using kps
  refine wpIn_rangeFunc fun fn hfn=>?_
  obtain⟨rec,hrec⟩:∃ rec:LoopState→Option Code→Loop,rec=fun st pe=>{ state:=st,pending:=pe,fn,tmps:=a.tmps,params:=ps0,assign:=cx,body:=cy,defers:=w.heap.size }:=⟨_,rfl⟩
  obtain⟨W1,hW1⟩:∃ W1,(w.alloc (.deferred (some []))).alloc (.loop (rec .ready none))=W1:=⟨_,rfl⟩;have hsz1:W1.heap.size=w.heap.size+2:=by rw[←hW1];simp
  have hL1:W1.heap[w.heap.size+1]? =some (.loop (rec .ready none)):=by
   rw[←hW1];have:=World.alloc_heap_new (w.alloc (.deferred (some []))) (.loop (rec .ready none));rwa [World.size_alloc]at this
  have hold:∀ k,k<w.heap.size→W1.heap[k]? =w.heap[k]? :=fun k hk=>by
   rw[←hW1];show((w.heap.push _).push _)[k]? =_;rw[Array.getElem?_push,if_neg (by simp;omega),Array.getElem?_push,if_neg (by omega)]
  have hK1:W1.heap[w.heap.size]? =some (.deferred (some [])):=by
   rw[←hW1];show((w.heap.push _).push _)[w.heap.size]? =_;rw[Array.getElem?_push,if_neg (by simp),Array.getElem?_push,if_pos rfl]
  obtain⟨s2,fr2⟩:=s1.ext (w':=W1) (F':=Fc) (by rw[←hW1];exact⟨rfl,rfl,rfl⟩) (by omega) hold (fun _ _ h=>h) (fun _ _ h=> .inl h)
  refine⟨w.heap.size+1,[{ target:= .collected w.heap.size,args:= #[] }],W1,{ target:= .fn (.func f) #[u0],args:= #[.func (.yield (w.heap.size+1)) #[] #[]] },W1,f,
   #[.func (.yield (w.heap.size+1)) #[] #[]]++ #[u0],W1,?_,?_,fun _ _=>trivial,?_,fun _=>by omega,?_⟩
  ·rw[←hW1,hrec];exact run_enterLoop_outer _ _ _ _ _
  ·simp only[resolve,e1];simp[go_sem]
  ·simp[invoke,go_sem,nQ hcall]
  subst n2
  refine CallsIn.mono (hit (m - 1) b sa cap rs.length e Fc (w.heap.size+1)
   (fun j W=>(∃h nx F' ν',I j h nx∧Sim W F' ν' h nx∧Frame w Fc ν W F' ν')∧W.heap[w.heap.size+1]? =some (.loop (rec .ready none))∧W.heap[w.heap.size]? =some (.deferred (some [])))
   (fun W=>∃ c e h nx F' ν',(c=Code.ret∧e=Exit.ret∨∃id,c=Code.exit id∧e=Exit.exit id)∧Ax e h nx∧Sim W F' ν' h nx∧Frame w Fc ν W F' ν'∧W.heap[w.heap.size+1]? =some (.loop (rec .done (some c)))∧W.heap[w.heap.size]? =some (.deferred (some [])))
   W1 (by omega) hlen hFb (by rw[fr2.cell b 0 hFb];exact u1) (fun i hi=>?_) ?_ ⟨⟨_,_,Fc,ν,h0,s2,fr2⟩,hL1,hK1⟩) ?_
  ·obtain⟨sb,off,q1,q2,q3,_⟩:=hel i hi;exact⟨sb,off,q1,aHC _ _ q2,by rw[fr2.cell _ _ (aHC _ _ q2)];exact q3⟩
  ·-- one round
   rintro i W2 hi ⟨⟨h2,nx2,F2,ν2,hI,hs2,hf2⟩,hl2,hk2⟩;obtain⟨sb,off,q1,q2,q3,q4⟩:=hel i hi;obtain⟨r,hri⟩:∃ r,rs[i]? =some r:=⟨_,gE9 hi⟩;obtain⟨t,rfl,hW⟩:=round i h2 nx2 r hI hri;have hy:=run_yield (P:=P) (args:= #[.int .i64 i,e i]) hl2 (by rw[hrec,hps];rfl);rw[hrec]at hy;refine⟨fn,_,cx,cy,hy,roundIn_of_wpIn trivial ?_⟩
   have hrel:Rel n ⟨upd (upd st.tmps p (.i i)) q (.one (.t t)),h2,nx2⟩ { tmps:=(ps0.zip #[.int .i64 i,e i]).foldl (fun tmps (t,a)=>tmps.setIfInBounds t a) a.tmps,defers:=[] } W2 F2 ν2:=by
    rw[hps];refine⟨.nil _ _,by simp[hr.size],fun k=>?_,hs2⟩
    have hk:∀ (arr:Array Value) (p0:Nat) (v:Value),(arr.setIfInBounds p0 v).getD k undef=if k=p0∧p0<arr.size then v else arr.getD k undef:=fun arr p0 v=>by
     simp only[Array.getD_eq_getD_getElem?,Array.getElem?_setIfInBounds]
     by_cases e:p0=k
     ·subst e
      by_cases hlt:p0<arr.size
      ·simp[hlt]
      ·simp[hlt]
     ·have:¬ k=p0:=fun h=>e h.symm
      simp[e,this]
    have ef:(#[p,q].zip #[Value.int .i64 i,e i]).foldl (fun tmps (x:Nat×Value)=>tmps.setIfInBounds x.1 x.2) a.tmps=(a.tmps.setIfInBounds p (.int .i64 i)).setIfInBounds q (e i):=by first | rfl | (rw[←Array.foldl_toList,Array.toList_zip];rfl)
    have hvv:VD W2 F2 ν2 (upd (upd st.tmps p (.i i)) q (.one (.t t)) k) (((a.tmps.setIfInBounds p (.int .i64 i)).setIfInBounds q (e i)).getD k undef):=by
     rw[hk,hk];simp only[upd,Array.size_setIfInBounds,hr.size]
     by_cases c1:k=q
     ·subst c1;rw[if_pos rfl,if_pos ⟨rfl,hqn⟩];have:=(q4 t hri).mono (w':=W2) (F':=F2) (fun b o hb=>hf2.cell b o (aHC _ _ hb)) (fun b o hb=>hf2.sub b o (aHC _ _ hb));exact this
     ·rw[if_neg c1,if_neg (show ¬(k=q∧q<n)from fun h=>c1 h.1)]
      by_cases c2:k=p
      ·subst c2;rw[if_pos rfl,if_pos ⟨rfl,hpn⟩];exact VT.int .i64 _
      ·rw[if_neg c2,if_neg (show ¬(k=p∧p<n)from fun h=>c2 h.1)];exact(hr.tmps k).mono (fr1.trans hf2)
    rw[←ef]at hvv;exact hvv
   refine wpIn_mono (hW (some (w.heap.size+1)) _ grow cx (.inr fx) k2 _ W2 F2 ν2 hrel) ?_;rintro e' a3 W3 ⟨st3,F3,ν3,⟨rfl,hY⟩,hcm⟩;have hd3:a3.defers=[]:=hcm.same (by simp)
   have aP4:∀ {l:Nat} {o:Obj},W2.heap[l]? =some o→iI o=false→W3.heap[l]? =some o:=fun{l o} hlo hoc=>by
    rw[hcm.frame.keep l (Array.getElem?_eq_some_iff.1 hlo).1 (Ab.turn (o':=o) hs2 hlo hoc hoc).2.1];exact hlo
   have hl3:=aP4 hl2 rfl;have hk3:=aP4 hk2 rfl;refine⟨_,run_beginRound hl3 (by rw[hrec]),?_⟩;obtain⟨t1,t2,t3,t4⟩:=Ab.turn (o':= .loop { rec .ready none with state:= .busy }) hcm.rel.sim hl3 rfl rfl;have hf3:Frame w Fc ν W3 F3 ν3:=hf2.trans hcm.frame;have hf4:=hf3.turn (o':= .loop { rec .ready none with state:= .busy }) hcm.rel.sim hl3 rfl rfl (by omega);have aRV:Rel n st3 a3 (W3.putObj (w.heap.size+1) (.loop { rec .ready none with state:= .busy })) F3 ν3:=⟨by rw[hd3];exact .nil _ _,hcm.rel.size,fun k=>VD.jG (hcm.rel.tmps k) t3,t4⟩;have aUQ:w.heap.size+1<W3.heap.size:=(Array.getElem?_eq_some_iff.1 hl3).1;have hl4:(W3.putObj (w.heap.size+1) (.loop { rec .ready none with state:= .busy })).heap[w.heap.size+1]? =some (.loop { rec .ready none with state:= .busy }):=World.putObj_heap_same aUQ;have hk4:(W3.putObj (w.heap.size+1) (.loop { rec .ready none with state:= .busy })).heap[w.heap.size]? =some (.deferred (some [])):=(World.putObj_heap_other (by omega)).trans hk3
   have aPU:∀ b o,Fc b o→(W3.putObj (w.heap.size+1) (.loop { rec .ready none with state:= .busy })).cell? ⟨b,o,none⟩=W2.cell? ⟨b,o,none⟩:=fun b o hb=>by
    rw[t1,hcm.frame.cell b o (hf2.sub b o hb)]
   generalize W3.putObj (w.heap.size+1) (.loop { rec .ready none with state:= .busy })=W4 at*;refine wpIn_mono (hY (some (w.heap.size+1)) _ grow cy (.inr fy) k3 a3 W4 F3 ν3 aRV) ?_;rintro e5 a5 W5 ⟨st5,F5,ν5,hA5,aKG⟩
   have aP5:∀ {l:Nat} {o:Obj},W4.heap[l]? =some o→iI o=false→W5.heap[l]? =some o:=fun{l o} hlo hoc=>by
    rw[aKG.frame.keep l (Array.getElem?_eq_some_iff.1 hlo).1 (Ab.turn (o':=o) t4 hlo hoc hoc).2.1];exact hlo
   have hl5:=aP5 hl4 rfl;have hk5:=aP5 hk4 rfl;have hf5:Frame w Fc ν W5 F5 ν5:=hf4.trans aKG.frame
   have fin:∀ jump:Option Code,(Instr.endRound (w.heap.size+1) jump).run P W5= .ok (.bool jump.isNone) (W5.putObj (w.heap.size+1) (.loop (rec (if jump.isNone then .ready else .done) jump))):=fun jump=>by
    have:=run_endRound (P:=P) jump hl5;rw[hrec]at this ⊢;exact this
   have after:∀ jump:Option Code,Sim (W5.putObj (w.heap.size+1) (.loop (rec (if jump.isNone then .ready else .done) jump))) F5 ν5 st5.heap st5.nx∧Frame w Fc ν (W5.putObj (w.heap.size+1) (.loop (rec (if jump.isNone then .ready else .done) jump))) F5 ν5∧
     (W5.putObj (w.heap.size+1) (.loop (rec (if jump.isNone then .ready else .done) jump))).heap[w.heap.size+1]? =some (.loop (rec (if jump.isNone then .ready else .done) jump))∧
     (W5.putObj (w.heap.size+1) (.loop (rec (if jump.isNone then .ready else .done) jump))).heap[w.heap.size]? =some (.deferred (some []))∧
     (∀b o,(W5.putObj (w.heap.size+1) (.loop (rec (if jump.isNone then .ready else .done) jump))).cell? ⟨b,o,none⟩=W5.cell? ⟨b,o,none⟩):=fun jump=>by
    obtain⟨z1,z2,z3,z4⟩:=Ab.turn (o':= .loop (rec (if jump.isNone then .ready else .done) jump)) aKG.rel.sim hl5 rfl rfl;exact⟨z4,hf5.turn aKG.rel.sim hl5 rfl rfl (by omega),World.putObj_heap_same (Array.getElem?_eq_some_iff.1 hl5).1,(World.putObj_heap_other (by omega)).trans hk5,z1⟩
   cases e5 with
   | normal=>
    obtain⟨z1,z2,z3,z4,z5⟩:=after none;exact⟨_,_,fin none,.inl ⟨rfl,⟨⟨_,_,F5,ν5,hA5,z1,z2⟩,z3,z4⟩,fun b o hb=>by rw[z5,aKG.frame.cell b o (hf4.sub b o hb),aPU b o hb]⟩⟩
   | ret=>
    obtain⟨z1,z2,z3,z4,z5⟩:=after (some .ret);exact⟨_,_,fin (some .ret),.inr ⟨rfl,.ret,.ret,_,_,F5,ν5,.inl ⟨rfl,rfl⟩,hA5,z1,z2,z3,z4⟩⟩
   | exit id=>
    obtain⟨z1,z2,z3,z4,z5⟩:=after (some (.exit id));exact⟨_,_,fin (some (.exit id)),.inr ⟨rfl,.exit id,.exit id,_,_,F5,ν5,.inr ⟨id,rfl,rfl⟩,hA5,z1,z2,z3,z4⟩⟩
   | goto t=>rcases hAx _ _ _ hA5 with h | ⟨_,h⟩<;>cases h
   | panic ch=>rcases hAx _ _ _ hA5 with h | ⟨_,h⟩<;>cases h
   | outgrown=>rcases hAx _ _ _ hA5 with h | ⟨_,h⟩<;>cases h
  ·-- behind the iterator
   have came:∀ {W6:World} {h6:Hp} {nx6:Nat} {F6:Fix} {ν6:Nu},Sim W6 F6 ν6 h6 nx6→Frame w Fc ν W6 F6 ν6→W6.heap[w.heap.size]? =some (.deferred (some []))→
     Came n none a w F ν ⟨st.tmps,h6,nx6⟩ { a with defers:={ target:= .collected w.heap.size,args:= #[] }::a.defers } W6 F6 ν6:=fun{W6 h6 nx6 F6 ν6} hs6 hf6 hk6=>by
    have hff:=fr1.trans hf6;refine⟨⟨?_,hr.size,fun k=>(hr.tmps k).mono hff,hs6⟩,hff,fun d hd=>?_,fun h=>absurd rfl h⟩
    ·obtain⟨Ds,d1,d2,d3⟩:=hr.defers;refine⟨w.heap.size::Ds,List.nodup_cons.2 ⟨fun hD=>?_,d1⟩,by simp[d2],fun D hD=>?_⟩
     ·have:=(Array.getElem?_eq_some_iff.1 (d3 _ hD).1).1;omega
     ·rcases List.mem_cons.1 hD with rfl | hD
      ·exact⟨hk6,(Ab.turn (o':= .deferred none) hs6 hk6 rfl rfl).2.1⟩
      ·obtain⟨h4,h5⟩:=d3 D hD;have hlt:D<w.heap.size:=(Array.getElem?_eq_some_iff.1 h4).1;exact⟨by rw[hff.keep D hlt h5];exact h4,fun id ver hn=>by obtain⟨v0,h0⟩:=hff.range hlt hn;exact h5 _ _ h0⟩
    ·rcases List.mem_cons.1 hd with rfl | hd
     ·exact .inr ⟨_,rfl,Nat.le_refl _⟩
     ·exact .inl hd
   rintro en W2 ⟨⟨v,rfl⟩,⟨⟨h2,nx2,F2,ν2,hI,hs2,hf2⟩,hl2,hk2⟩ | ⟨cc,ee,h2,nx2,F2,ν2,hce,hax,hs2,hf2,hl2,hk2⟩⟩
   ·have he:=run_endLoop (P:=P) hl2 (by rw[hrec];simp);rw[hrec]at he;refine⟨none,_,he,⟨⟨st.tmps,h2,nx2⟩,F2,ν2,done h2 nx2 hI,came ?_ ?_ ?_⟩⟩
    ·exact(Ab.turn hs2 hl2 rfl rfl).2.2.2
    ·exact hf2.turn hs2 hl2 rfl rfl (by omega)
    ·exact(World.putObj_heap_other (by omega)).trans hk2
   ·have he:=run_endLoop (P:=P) hl2 (by rw[hrec];simp);rw[hrec]at he;refine⟨some cc,_,he,?_⟩
    have hpost:∃ st' F' ν',A ee st'∧Came n none a w F ν st' { a with defers:={ target:= .collected w.heap.size,args:= #[] }::a.defers } (W2.putObj (w.heap.size+1) (.loop { rec .done (some cc)with state:= .exhausted })) F' ν':=
     ⟨⟨st.tmps,h2,nx2⟩,F2,ν2,stop ee h2 nx2 hax,came (Ab.turn hs2 hl2 rfl rfl).2.2.2 (hf2.turn hs2 hl2 rfl rfl (by omega)) ((World.putObj_heap_other (by omega)).trans hk2)⟩
    rw[hrec]at hpost;rcases hce with⟨rfl,rfl⟩ | ⟨id,rfl,rfl⟩
    ·exact wpIn_ret hpost
    ·exact wpIn_exit hpost
 | _=>simp[aR,oB9]at hc
end Go.Ab
namespace Go.Proofs.YtdpbobkcbakpfaaGreatDoor
open Go.Proofs.Tryz
set_option maxRecDepth 100000
set_option maxHeartbeats 4000000
section
open Go Go.Ab Go.Proofs
open Go.RowKit Go.Shelf
attribute [local go_sem] Oper.semAt_some
set_option maxRecDepth 100000
set_option maxHeartbeats 2000000 in
theorem aN6:aDA prog 280:=by
 intro m b sa cap len e Fx l J Jx W hm hlen hFb hbox hel hY h0;obtain⟨F,hF⟩:∃ F,F=FR none:=⟨_,rfl⟩;have hro:F.round=none:=by rw[hF];rfl
 have hfn:F.fn 280:=by rw[hF];trivial
 rw[←hF]at hY ⊢;clear hF;refine callsIn_of_wp func280 rfl hfn ?_ hro;simp only[Tryz.ntmps280,List.size_toArray,List.length_cons,List.length_nil,Nat.reduceAdd,Nat.reduceSub,Array.replicate_succ,Array.replicate_zero,List.push_toArray,List.append_toArray,List.nil_append,List.cons_append]
 gi_wp2
 gi_loopw [3] (fun i wr=>∃ k:Nat,k≤len∧i= .int .i64 ((k:Int) - 1)∧J k wr∧∀b o,Fx b o→wr.cell? ⟨b,o,none⟩=W.cell? ⟨b,o,none⟩)
  (fun i _=>(intOf i+1).toNat)
 case atStart=>exact⟨len,Nat.le_refl _,rfl,h0,fun _ _ _=>rfl⟩
 case round=>
  obtain⟨k,hk,rfl,hJs,hnx⟩:=hrel;have hbx:wr.cell? ⟨b,0,none⟩=some (.slice sa len cap):=(hnx b 0 hFb).trans hbox;rcases k with - | k
  ·gi_wp2
   go_end0
   exact⟨⟨_,rfl⟩,.inl hJs⟩
  ·obtain⟨sb,off,rfl,e2,e3⟩:=hel k (by omega);have hcx:=(hnx sb (off+k) e2).trans e3;obtain⟨fn,tmps,assign,body,hy,hR⟩:=hY k wr (by omega) hJs
   gi_wp2
   refine⟨fun _=>by omega,?_⟩;refine hR.mono ?_;rintro en W3 (⟨rfl,hJ3,hk3⟩ | ⟨rfl,aUS⟩)
   ·gi_wp2
    go_roundw
    case rel=>exact⟨k,by omega,by simp,hJ3,fun b o hb=>(hk3 b o hb).trans (hnx b o hb)⟩
    case measure=>simp[intOf]
   ·gi_wp2
    refine bodyPost_ret (results_none rfl _ _ _) rfl ?_;exact⟨⟨_,rfl⟩,.inr aUS⟩
end
section
open Go Go.Ab
theorem aF.set{h:Hp}{n id:Nat}{o:O}(ho:aF h n)(hid:id<n)(hb:o.below n=true):aF (h.set id o) n:=by
 refine⟨fun j hj=>?_,fun j o' hj=>?_⟩
 ·simp only[Hp.set];rw[if_neg (by omega)];exact ho.above j hj
 ·simp only[Hp.set]at hj;split at hj
  ·simp only[sI9]at hj;subst hj;exact hb
  ·exact ho.below j o' hj
theorem aF.close{h:Hp}{n:Nat}{ids:List Nat}(ho:aF h n):aF (h.close ids) n:=by
 refine⟨fun j hj=>?_,fun j o' hj=>?_⟩
 ·simp only[Hp.close];split<;>simp[ho.above j hj]
 ·simp only[Hp.close]at hj;split at hj
  ·simp only[oM9]at hj;obtain⟨o,h1,rfl⟩:=hj;have:=ho.below j o h1;cases o with
   | arr=>exact this
  ·exact ho.below j o' hj
theorem aI8(rs:List (List T))(h:Hp)(n0:Nat)(ho:aF h n0):ISp prog 255 h n0 [.one (.t (.rows 1 rs))] (.one (.fn 280 [⟨n0,0,1,0,0⟩])) (h.set n0 (.arr 0 false 1 [[.t (.rows 1 rs)]])):=by
 refine k255.aPS (by simp) ?_;simp[c255,b4N,b4O];refine⟨by simp[D.cR,alive,Hp.set],n0,.inr rfl,⟨by simp,by simp⟩,⟨.fn 280 [⟨n0,0,1,0,0⟩],rfl,by simp[A.only],by simp[A.ren,sE]⟩,by omega,fun id hid=>rfl,rfl,⟨_,by simp[Hp.set];rfl⟩,fun id hid=>?_,fun id o hid=>?_⟩
 ·simp only[Hp.set];rw[if_neg (by omega)];exact ho.above id (by omega)
 ·simp only[Hp.set]at hid;split at hid
  ·simp only[sI9]at hid;subst hid;simp[O.below,A.below]
  ·exact ho.below id o hid
end
section
open Go Go.Ab
structure Nd where
 k:Int
 lo:Int
 hi:Int
 s:ByteArray
 args:List Int
def aX(l:List Int):T:= .rows 1 (l.map fun a=>[I a])
def Nd.row(x:Nd):List T:=[I x.k,I x.lo,I x.hi,.str x.s,aX x.args]
def aG(l:List Nd):T:= .rows 5 (l.map Nd.row)
def Nd.right(x:Nd):Bool:=
 if x.k=0∨x.k=1 then decide (x.args.length=0)else if x.k=2∨x.k=3 then decide (x.args.length=1)
 else if x.k=4∨x.k=5∨x.k=6 then decide (x.args.length=2)else if x.k=7 then decide (x.args.length=1∨x.args.length=2)else false
def Nd.ok(x:Nd):Bool:=x.right&&decide (x.k=0∨x.lo=0∧x.hi=0)&&decide (x.k=1∨x.s.toList=(bs []).toList)
def gK(bg:List Nat):List Int→Nat→Option Nat
 | [],n=>some n
 | a::r,n=>if n=0∨a≠(n:Int) - 1 then none else gK bg r (bg.getD (n - 1) 0)
def dU(bg:List Nat)(x:Nd):Option Nat:=gK bg x.args.reverse bg.length
def cP:List Nd→List Nat→Option (List Nat)
 | [],bg=>some bg
 | x::r,bg=>if x.ok then(match dU bg x with | none=>none | some n=>cP r (bg++[n]))else none
def bC(l:List Nd):Bool:=decide (l.length≤20)&&(match cP l []with | none=>false | some bg=>decide (l.length=0∨bg.getD (l.length - 1) 0=0))
def BG(i3:Nat)(bg:List Nat)(h:Hp):Prop:=
 (bg=[]∧h i3=some (.arr 0 false 1 [[.tt 1 []]]))∨(bg≠[]∧∃id ver,h i3=some (.arr 0 false 1 [[.ref id ver 0 bg.length 1 false]])∧h id=some (.arr ver false 1 (bg.map fun(n:Nat)=>[.t (I n)]))∧id≠i3)
def qJ(i3:Nat)(h:Hp):Nat:=match h i3 with | some (.arr _ _ _ [[.ref id _ _ _ _ _]])=>id | _=>i3
structure RI (i2 i3 i8:Nat) (bg:List Nat) (nxt:Nat) (h:Hp) (nx:Nat):Prop where
 ok:aF h nx
 two:h i2=some (.arr 0 false 1 [[.t (.bool false)]])
 eight:h i8=some (.arr 0 false 1 [[.t (I nxt)]])
 bgs:BG i3 bg h
 n23:i2≠i3
 n28:i2≠i8
 n38:i3≠i8
 nb2:qJ i3 h≠i2
 nb8:qJ i3 h≠i8
theorem aK{h:Hp}{id v sz:Nat}{s:Bool}{rs:List (List A)}(e:h id=some (.arr v s sz rs)):alive h id v∧h.rows id=rs∧h.sz id=sz∧h.shut id=s:=by
 simp[alive,Hp.rows,Hp.sz,Hp.shut,e]
theorem RI.lt8{i2 i3 i8:Nat}{bg:List Nat}{nxt:Nat}{h:Hp}{nx:Nat}(hr:RI i2 i3 i8 bg nxt h nx):i8<nx:=by
 rcases Nat.lt_or_ge i8 nx with g | g
 ·exact g
 ·have:=hr.ok.above _ g;rw[hr.eight]at this;cases this
theorem RI.step{i2 i3 i8:Nat}{bg:List Nat}{nxt m:Nat}{h:Hp}{nx nx':Nat}(hr:RI i2 i3 i8 bg nxt h nx)(hx:nx≤nx'):RI i2 i3 i8 bg m (h.set i8 (.arr 0 false 1 [[.t (I m)]])) nx' where
 ok:=aF.more (aF.set hr.ok hr.lt8 (o:= .arr 0 false 1 [[.t (I m)]]) (by simp[O.below,A.below])) hx
 two:=by simp only[Hp.set];rw[if_neg hr.n28];exact hr.two
 eight:=by simp[Hp.set]
 bgs:=by
  rcases hr.bgs with⟨h1,h2⟩ | ⟨h1,id,ver,h2,h3,h4⟩
  ·exact .inl ⟨h1,by simp only[Hp.set];rw[if_neg hr.n38];exact h2⟩
  ·have:id≠i8:=by have:=hr.nb8;simpa[qJ,h2]using this
   exact .inr ⟨h1,id,ver,by simp only[Hp.set];rw[if_neg hr.n38];exact h2,by simp only[Hp.set];rw[if_neg this];exact h3,h4⟩
 n23:=hr.n23
 n28:=hr.n28
 n38:=hr.n38
 nb2:=by have:=hr.nb2;simp only[qJ,Hp.set]at this ⊢;rw[if_neg hr.n38];exact this
 nb8:=by have:=hr.nb8;simp only[qJ,Hp.set]at this ⊢;rw[if_neg hr.n38];exact this
theorem aI9(i2 i3 i8:Nat)(bg:List Nat)(x:Nd)(hbg:∀ (j b:Nat),bg[j]? =some b→b≤j)(hsm:bg.length≤1000)(tm:Nat→D)(h:Hp)(nx:Nat)(j:Nat)(a:Int)(nxt:Nat)
  (h2:tm 2= .one (.ptr ⟨i2,0,1,0,0⟩)) (h3:tm 3= .one (.ptr ⟨i3,0,1,0,0⟩)) (h8:tm 8= .one (.ptr ⟨i8,0,1,0,0⟩)) (h82:tm 82= .one (.t (I a)))
  (hr:RI i2 i3 i8 bg nxt h nx) (hn:nxt≤bg.length) (ha:x.args[j]? =some a) (hx:gK bg (x.args.take (j+1)).reverse nxt=dU bg x):
  W prog 113 (.region 27 false 1 a1G) (fun e st'=>e= .normal∧W prog 113 a03 (fun e st''=>match e with
   | .normal=>∃ nxt,RI i2 i3 i8 bg nxt st''.heap st''.nx∧nxt≤bg.length∧gK bg (x.args.take j).reverse nxt=dU bg x∧nx≤st''.nx
   | e=>e= .ret∧dU bg x=none∧st''.heap i2=some (.arr 0 false 1 [[.t (.bool false)]])) st') ⟨tm,h,nx⟩:=by
 have htk:(x.args.take (j+1)).reverse=a::(x.args.take j).reverse:=by
  rw[List.take_add_one,ha];simp
 rw[htk,gK]at hx;obtain⟨e1,e2,e3,e4⟩:=aK hr.two;obtain⟨f1,f2,f3,f4⟩:=aK hr.eight;have hwr:IntKind.i64.wrap ((nxt:Int) - 1)=(nxt:Int) - 1:=wrap_i64 (by omega) (by omega);refine W.iB _ _ _ ?_;simp[awp,a1G,nR,h82];refine W.iB _ _ _ ?_;show aZ prog 113 _ a03 [] _
 by_cases hz:nxt=0
 ·subst hz;simp at hx;simp[a03,a5T,a8i,h8,h2,f1,f2,f3,e1,e2,e3,e4];exact⟨hx.symm,by simp[Hp.set]⟩
 ·have hzI:¬ (nxt:Int)=0:=by omega
  by_cases hne:a=(nxt:Int) - 1
  ·rw[if_neg (by simp[hz,hne])]at hx;have hne':bg≠[]:=fun e=>by rw[e]at hn;simp at hn;omega
   rcases hr.bgs with⟨g1,_⟩ | ⟨g1,id,ver,g2,g3,g4⟩
   ·exact absurd g1 hne'
   ·obtain⟨p1,p2,p3,p4⟩:=aK g2;obtain⟨q1,q2,q3,q4⟩:=aK g3;obtain⟨m,rfl⟩:∃ m:Nat,nxt=m+1:=⟨nxt - 1,by omega⟩;have hmI:((m+1:Nat):Int) - 1=(m:Int):=by omega
    rw[hmI]at hwr hne;have hm1:(m:Int)<bg.length:=by omega
    have hm2:m<bg.length:=by omega
    have hge:bg.getD m 0=bg[m]:=by simp[List.getD_eq_getElem?_getD,gE9 hm2]
    rw[Nat.add_sub_cancel,hge]at hx;simp only[Int.natCast_add,Int.natCast_one]at hzI f2 hwr;simp[a03,a5T,b4M,h8,h3,f1,f2,f3,f4,p1,p2,p3,q1,q2,q3,hzI,hne,hwr,hm1,hm2];exact⟨bg[m],hr.step (by omega),by have:=hbg m bg[m] (gE9 hm2);omega,hx,by omega⟩
  ·rw[if_pos (.inr hne)]at hx;simp[a03,a5T,a8i,h8,h2,f1,f2,f3,e1,e2,e3,e4,hne,hwr];exact⟨hx.symm,by simp[Hp.set]⟩
end
section
open Go Go.Ab
structure HI (i2 i3:Nat) (bg:List Nat) (h:Hp) (nx:Nat):Prop where
 ok:aF h nx
 two:h i2=some (.arr 0 false 1 [[.t (.bool false)]])
 bgs:BG i3 bg h
 n23:i2≠i3
 nb2:qJ i3 h≠i2
theorem RI.hi{i2 i3 i8:Nat}{bg:List Nat}{nxt:Nat}{h:Hp}{nx:Nat}(hr:RI i2 i3 i8 bg nxt h nx):HI i2 i3 bg h nx:=⟨hr.ok,hr.two,hr.bgs,hr.n23,hr.nb2⟩
theorem fZ{h:Hp}{nx id:Nat}{o:O}(hk:aF h nx)(e:h id=some o):id<nx:=by
 rcases Nat.lt_or_ge id nx with g | g
 ·exact g
 ·have:=hk.above _ g;rw[e]at this;cases this
theorem HI.lt3{i2 i3:Nat}{bg:List Nat}{h:Hp}{nx:Nat}(hr:HI i2 i3 bg h nx):i3<nx:=by
 rcases hr.bgs with⟨_,h2⟩ | ⟨_,_,_,h2,_⟩
 ·exact fZ hr.ok h2
 ·exact fZ hr.ok h2
theorem HI.ltb{i2 i3:Nat}{bg:List Nat}{h:Hp}{nx:Nat}(hr:HI i2 i3 bg h nx):qJ i3 h<nx:=by
 rcases hr.bgs with⟨_,h2⟩ | ⟨_,_,_,h2,h3,_⟩
 ·simpa[qJ,h2]using fZ hr.ok h2
 ·simpa[qJ,h2]using fZ hr.ok h3
theorem HI.other{i2 i3:Nat}{bg:List Nat}{h h':Hp}{nx nx':Nat}(hr:HI i2 i3 bg h nx)(hk:aF h' nx')(he:∀ j,j<nx→h' j=h j):HI i2 i3 bg h' nx' where
 ok:=hk
 two:=by rw[he _ (fZ hr.ok hr.two)];exact hr.two
 bgs:=by
  rcases hr.bgs with⟨h1,h2⟩ | ⟨h1,id,ver,h2,h3,h4⟩
  ·exact .inl ⟨h1,by rw[he _ hr.lt3];exact h2⟩
  ·exact .inr ⟨h1,id,ver,by rw[he _ hr.lt3];exact h2,by rw[he _ (fZ hr.ok h3)];exact h3,h4⟩
 n23:=hr.n23
 nb2:=by have:=hr.nb2;simp only[qJ]at this ⊢;rw[he _ hr.lt3];exact this
theorem HI.first{i2 i3:Nat}{h:Hp}{nx:Nat}{n:Nat}(hr:HI i2 i3 [] h nx):HI i2 i3 ([]++[n]) ((h.set (nx+3) (O.arr 0 false 1 [[.t (I n)]])).set i3 (O.arr 0 false 1 [[.ref (nx+3) 0 0 1 1 false]])) (nx+5) where
 ok:=aF.set (aF.set (aF.more hr.ok (by omega)) (by omega) (by simp[O.below,A.below])) (by have:=hr.lt3;omega) (by simp[O.below,A.below])
 two:=by
  have:=fZ hr.ok hr.two;simp only[Hp.set];rw[if_neg hr.n23,if_neg (by omega)];exact hr.two
 bgs:= .inr ⟨by simp,nx+3,0,by simp[Hp.set],by have:=hr.lt3;simp only[Hp.set];rw[if_neg (by omega)];simp,by have:=hr.lt3;omega⟩
 n23:=hr.n23
 nb2:=by have:=fZ hr.ok hr.two;simp[qJ,Hp.set];omega
theorem HI.next{i2 i3:Nat}{bg:List Nat}{h:Hp}{nx:Nat}{n id ver:Nat}(hr:HI i2 i3 bg h nx)(_g1:bg≠[])(g2:h i3=some (.arr 0 false 1 [[.ref id ver 0 bg.length 1 false]]))(g3:h id=some (.arr ver false 1 (bg.map fun(n:Nat)=>[.t (I n)])))(g4:id≠i3):
  HI i2 i3 (bg++[n]) ((h.set id (O.arr (ver+1) false 1 (bg.map (fun(n:Nat)=>[.t (I n)])++[[.t (I n)]]))).set i3 (O.arr 0 false 1 [[.ref id (ver+1) 0 (bg.length+1) 1 false]])) (nx+5) where
 ok:=aF.set (aF.set (aF.more hr.ok (by omega)) (by have:=fZ hr.ok g3;omega) (by
   simp only[O.below,List.all_append,List.all_map,Bool.and_eq_true]
   exact⟨List.all_eq_true.2 fun _ _=>rfl,rfl⟩)) (by have:=hr.lt3;omega) (by have:=fZ hr.ok g3;simp[O.below,A.below];omega)
 two:=by
  have h1:id≠i2:=by have:=hr.nb2;simpa[qJ,g2]using this
  simp only[Hp.set];rw[if_neg hr.n23,if_neg (fun e=>h1 e.symm)];exact hr.two
 bgs:= .inr ⟨by simp,id,ver+1,by simp[Hp.set],by simp only[Hp.set];rw[if_neg g4];simp,g4⟩
 n23:=hr.n23
 nb2:=by
  have h1:id≠i2:=by have:=hr.nb2;simpa[qJ,g2]using this
  simp[qJ,Hp.set];exact h1
theorem aKH(Q:Exit→St→Prop)(ks:List KF)(i2 i3 i5:Nat)(bg:List Nat)(x:Nd)(hbg:∀ (j b:Nat),bg[j]? =some b→b≤j)(hsm:bg.length≤1000)(has:x.args.length≤1000000)(tm:Nat→D)(h:Hp)(nx nx0:Nat)(hnx:nx0=nx)
  (h2:tm 2= .one (.ptr ⟨i2,0,1,0,0⟩)) (h3:tm 3= .one (.ptr ⟨i3,0,1,0,0⟩)) (h4:tm 4= .one (.t (I bg.length))) (h5:tm 5= .one (.ptr ⟨i5,0,5,0,0⟩))
  (hi:HI i2 i3 bg h nx) (h5':h i5=some (.arr 0 false 5 [x.row.map .t]))
  (hret:∀ st,st.tmps 2=tm 2→st.heap i2=some (.arr 0 false 1 [[.t (.bool false)]])→dU bg x=none→cX prog 113 Q ks .ret st)
  (hgo:∀ st n,dU bg x=some n→n≤bg.length→(∀t,t≤3∨14≤t∧t≤16→st.tmps t=tm t)→HI i2 i3 (bg++[n]) st.heap st.nx→nx≤st.nx→cX prog 113 Q ks .normal st):
  aZ prog 113 Q (.seq (.region 25 false 3 a3z) (.seq (.seq (.region 26 false 3 a3A) (.block 3 (.rng (X.tmp 80) [81,82] (.region 27 false 1 a1G) a03))) (.region 31 false 5 a1w))) ks ⟨tm,h,nx⟩:=by
 obtain⟨e1,e2,e3,e4⟩:=aK hi.two;obtain⟨f1,f2,f3,f4⟩:=aK h5';have hlt5:=fZ hi.ok h5';have hn5:∀ c,¬i5=nx+c:=fun c=>by omega
 simp[a3z,h4,h5,a3A,f1,f2,f3,hn5,Nd.row,aX]
 have hcl:(h.set (nx+1) (O.arr 0 false 1 [[.t (T.int IntKind.i64 0)]])).set (nx+1) (O.arr 0 false 1 [[.t (I bg.length)]])=h.set (nx+1) (O.arr 0 false 1 [[.t (I bg.length)]]):=by
  funext j;simp only[Hp.set];split<;>rfl
 rw[hcl];obtain⟨h1,hh1⟩:∃ h1,h1=h.set (nx+1) (O.arr 0 false 1 [[.t (I bg.length)]]):=⟨_,rfl⟩;rw[←hh1];have hk1:aF h1 (nx+3+2):=by rw[hh1];exact aF.set (aF.more hi.ok (by omega)) (by omega) (by simp[O.below,A.below])
 refine aD.imp (aI8 _ _ _ hk1) ?_;obtain⟨hb,hhb⟩:∃ hb,hb=h1.set (nx+3+2) (.arr 0 false 1 [[.t (.rows 1 (x.args.map fun a=>[I a]))]]):=⟨_,rfl⟩;rw[←hhb];have hkb:aF hb (nx+3+3):=by rw[hhb];exact aF.set (aF.more hk1 (by omega)) (by omega) (by simp[O.below,A.below])
 have hobox:hb (nx+3+2)=some (.arr 0 false 1 [[.t (.rows 1 (x.args.map fun a=>[I a]))]]):=by rw[hhb];simp[Hp.set]
 obtain⟨b1,b2,b3,b4⟩:=aK hobox
 have heq:∀ j,j<nx→(hb.close [nx+3+2]) j=h j:=fun j hj=>by
  simp only[Hp.close];rw[if_neg (by simp;omega),hhb,hh1];simp only[Hp.set];rw[if_neg (by omega),if_neg (by omega)]
 have hir:RI i2 i3 (nx+1) bg bg.length (hb.close [nx+3+2]) (nx+3+3):=by
  have:=hi.other (aF.close (ids:=[nx+3+2]) hkb) heq;refine⟨this.ok,this.two,?_,this.bgs,this.n23,?_,?_,this.nb2,?_⟩
  ·simp only[Hp.close];rw[if_neg (by simp),hhb,hh1];simp[Hp.set]
  ·have:=fZ hi.ok hi.two;omega
  ·have:=hi.lt3;omega
  ·have:=hi.ltb;simp only[qJ]at this ⊢;rw[heq _ hi.lt3];omega
 simp only[wK]
 refine W.back (f:=280) (pt:=⟨nx+3+2,0,1,0,0⟩) (rs:=x.args.map fun a=>[I a]) rfl aN6 (by kernel_rfl) b1 b3 b2 ⟨rfl,rfl⟩ (by simp;omega) (by decide)
  (fun j h nx=>∃ nxt,RI i2 i3 (nx0+1) bg nxt h nx∧nxt≤bg.length∧gK bg (x.args.take j).reverse nxt=dU bg x∧nx0+3+3≤nx)
  (fun e h _=>e= .ret∧dU bg x=none∧h i2=some (.arr 0 false 1 [[.t (.bool false)]])) ⟨bg.length,by rw[hnx];exact hir,Nat.le_refl _,by simp[dU],by rw[hnx];exact Nat.le_refl _⟩ (fun e h nx he=> .inl he.1) ?_ ?_ ?_
 ·rintro j h' nx' r ⟨nxt,hr,hn,hx,hnx'⟩ hrj;rw[List.getElem?_map,oM9]at hrj;obtain⟨a,ha,rfl⟩:=hrj;refine⟨I a,rfl,?_⟩;refine W.mono (aI9 i2 i3 (nx0+1) bg x hbg hsm _ h' nx' j a nxt (by simp[h2]) (by simp[h3]) (by simp[hnx]) (by simp) hr hn ha hx) ?_;rintro e st' ⟨he,hw⟩;refine⟨he,W.mono hw ?_⟩;rintro e st'' hh;cases e with
  | normal=>
   obtain⟨m,k1,k2,k3,k4⟩:=hh;exact⟨m,k1,k2,k3,by omega⟩
  | _=>exact hh
 ·rintro h' nx' ⟨n,hr,hn,hx,hnx'⟩;simp only[List.take_zero,List.reverse_nil,gK]at hx;have hgo':=fun st=>hgo st n hx.symm hn
  show cX prog 113 Q (KF.blk 3::KF.thn (aB.region 31 false 5 a1w)::ks) .normal _;obtain⟨u1,u2,u3,u4⟩:=aK hr.eight;have hki:=hr.hi;rcases hr.bgs with⟨g1,g2⟩ | ⟨g1,id,ver,g2,g3,g4⟩
  ·obtain⟨p1,p2,p3,p4⟩:=aK g2;have hl3:=hki.lt3;have hn3:∀ c,¬i3=nx'+c:=fun c=>by omega
   subst hnx;simp[a1w,h3,p1,p2,p3,p4,u1,u2,u3,hn3];refine hgo' _ (fun t ht=>by simp only[upd];repeat rw[if_neg (by omega)]) ?_ (by simp only;omega);subst g1;exact hki.first
  ·obtain⟨p1,p2,p3,p4⟩:=aK g2;obtain⟨q1,q2,q3,q4⟩:=aK g3;have hl3:=hki.lt3;have hn3:∀ c,¬i3=nx'+c:=fun c=>by omega
   have g4':¬ i3=id:=fun e=>g4 e.symm
   subst hnx;simp[a1w,h3,p1,p2,p3,p4,q1,q2,q3,q4,u1,u2,u3,g4'];refine⟨by omega,hgo' _ (fun t ht=>by simp only[upd];repeat rw[if_neg (by omega)]) ?_ (by simp only;omega)⟩;exact hki.next g1 g2 g3 g4
 ·rintro e h' nx' ⟨rfl,k1,k2⟩;show cX prog 113 Q (KF.blk 3::KF.thn (aB.region 31 false 5 a1w)::ks) .ret _;simp;exact hret _ (by simp) k2 k1
end
section
open Go Go.Ab
theorem wR{tm tm':Nat→D}(h0:tm' 0=tm 0)(h1:tm' 1=tm 1)(h2:tm' 2=tm 2)(h3:tm' 3=tm 3)(h4:tm' 4=tm 4)(h5:tm' 5=tm 5)(h14:tm' 14=tm 14)(h15:tm' 15=tm 15)(h16:tm' 16=tm 16):
  ∀t,t≤5∨14≤t∧t≤16→tm' t=tm t:=fun t ht=>by
 have:t=0∨t=1∨t=2∨t=3∨t=4∨t=5∨t=14∨t=15∨t=16:=by omega
 rcases this with rfl | rfl | rfl | rfl | rfl | rfl | rfl | rfl | rfl<;>assumption
theorem aN7(n:Nat):((n:Int)==0)=decide (n=0):=by by_cases h:n=0<;>simp[h]
theorem aPV(n:Nat):((n:Int)==1)=decide (n=1):=by
 by_cases h:n=1
 ·simp[h]
 ·have:¬ (n:Int)=1:=by omega
  simp[h,this]
theorem aIA(n:Nat):((n:Int)==2)=decide (n=2):=by
 by_cases h:n=2
 ·simp[h]
 ·have:¬ (n:Int)=2:=by omega
  simp[h,this]
def sF:aB:= .seq (.seq (.region 23 false 27 a00) (.cond (X.tmp 76) (.seq (.region 24 false 1 a1C) .ret) .skip)) (.seq (.region 25 false 3 a3z) (.seq (.seq (.region 26 false 3 a3A) (.block 3 (.rng (X.tmp 80) [81,82] (.region 27 false 1 a1G) a03))) (.region 31 false 5 a1w)))
def aKI:aB:= .block 2 (.seq (.seq (.region 11 false 2 a0Y) (.cond (X.tmp 26) .skip (.region 12 false 2 a0Z))) (.cond (X.tmp 26) (.region 13 false 3 a5Q) (.seq (.seq (.region 14 false 2 a01) (.cond (X.tmp 31) .skip (.region 15 false 2 a02))) (.cond (X.tmp 31) (.region 16 false 3 a5R) (.seq (.seq (.region 17 false 2 a1z) (.cond (X.tmp 36) .skip (.seq (.region 18 false 2 a1A) (.cond (X.tmp 36) .skip (.region 19 false 2 a1B))))) (.cond (X.tmp 36) (.region 20 false 3 a3y) (.seq (.region 21 false 2 a5S) (.cond (X.tmp 42) (.region 22 false 7 a8g) (.seq (.region 10 false 1 a8h) .ret)))))))))
theorem aIB(Q:Exit→St→Prop)(ks:List KF)(i2 i3 i5:Nat)(bg:List Nat)(x:Nd)(hbg:∀ (j b:Nat),bg[j]? =some b→b≤j)(hsm:bg.length≤1000)(has:x.args.length≤1000000)(tm:Nat→D)(h:Hp)(nx:Nat)
  (h2:tm 2= .one (.ptr ⟨i2,0,1,0,0⟩)) (h3:tm 3= .one (.ptr ⟨i3,0,1,0,0⟩)) (h4:tm 4= .one (.t (I bg.length))) (h5:tm 5= .one (.ptr ⟨i5,0,5,0,0⟩)) (h7:tm 7= .one (.t (.bool x.right)))
  (hi:HI i2 i3 bg h nx) (h5':h i5=some (.arr 0 false 5 [x.row.map .t]))
  (hret:∀ st,st.tmps 2=tm 2→st.heap i2=some (.arr 0 false 1 [[.t (.bool false)]])→(x.ok=false∨dU bg x=none)→cX prog 113 Q ks .ret st)
  (hgo:∀ st n,x.ok=true→dU bg x=some n→n≤bg.length→(∀t,t≤3∨14≤t∧t≤16→st.tmps t=tm t)→HI i2 i3 (bg++[n]) st.heap st.nx→cX prog 113 Q ks .normal st):
  aZ prog 113 Q sF ks ⟨tm,h,nx⟩:=by
 obtain⟨e1,e2,e3,e4⟩:=aK hi.two;obtain⟨f1,f2,f3,f4⟩:=aK h5';simp only[Nd.row,List.map_cons,List.map_nil]at f2;have bad:x.ok=false→∀st,st.tmps 2=tm 2→st.heap=h.set i2 (.arr 0 false 1 [[.t (.bool false)]])→cX prog 113 Q ks .ret st:=fun hb st k1 k2=>hret st k1 (by rw[k2];simp[Hp.set]) (.inl hb)
 have good:x.ok=true→∀tm' nx',(∀t,t≤5∨14≤t∧t≤16→tm' t=tm t)→nx≤nx'→aZ prog 113 Q (.seq (.region 25 false 3 a3z) (.seq (.seq (.region 26 false 3 a3A) (.block 3 (.rng (X.tmp 80) [81,82] (.region 27 false 1 a1G) a03))) (.region 31 false 5 a1w))) ks ⟨tm',h,nx'⟩:=fun ho tm' nx' ht hnx'=>by
  refine aKH Q ks i2 i3 i5 bg x hbg hsm has tm' h nx' nx' rfl (by rw[ht 2 (by omega)];exact h2) (by rw[ht 3 (by omega)];exact h3) (by rw[ht 4 (by omega)];exact h4) (by rw[ht 5 (by omega)];exact h5) (hi.other (aF.more hi.ok hnx') fun _ _=>rfl) h5' ?_ ?_
  ·intro st k1 k2 k3;exact hret st (by rw[k1,ht 2 (by omega)]) k2 (.inr k3)
  ·intro st n k1 k2 k3 k4 _;exact hgo st n ho k1 k2 (fun t h=>by rw[k3 t h,ht t (by omega)]) k4
 unfold sF
 by_cases hR:x.right=true
 ·by_cases hk0:x.k=0
  ·by_cases hs:x.s.toList=(bs []).toList
   ·have hok:x.ok=true:=by simp[Nd.ok,hR,hk0,hs]
    simp -implicitDefEqProofs [a00,h7,hR,h5,f1,f2,f3,hk0,hs];exact good hok _ _ (wR rfl rfl rfl rfl rfl rfl rfl rfl rfl) (by omega)
   ·have hok:x.ok=false:=by simp[Nd.ok,hk0,hs]
    simp -implicitDefEqProofs [a00,a1C,h2,h7,hR,h5,f1,f2,f3,hk0,hs,e1,e2,e3,e4];exact bad hok _ rfl rfl
  ·have hb0:(x.k != 0)=true:=by simp[hk0]
   by_cases hlo:x.lo=0
   ·by_cases hhi:x.hi=0
    ·by_cases hk1:x.k=1
     ·have hok:x.ok=true:=by simp[Nd.ok,hR,hk1,hlo,hhi]
      simp -implicitDefEqProofs [a00,h7,hR,h5,f1,f2,f3,hk1,hlo,hhi];exact good hok _ _ (wR rfl rfl rfl rfl rfl rfl rfl rfl rfl) (by omega)
     ·have hb1:(x.k != 1)=true:=by simp[hk1]
      by_cases hs:x.s.toList=(bs []).toList
      ·have hok:x.ok=true:=by simp[Nd.ok,hR,hs,hlo,hhi]
       simp -implicitDefEqProofs [a00,h7,hR,h5,f1,f2,f3,hb0,hb1,hs,hlo,hhi];exact good hok _ _ (wR rfl rfl rfl rfl rfl rfl rfl rfl rfl) (by omega)
      ·have hok:x.ok=false:=by simp[Nd.ok,hs,hk1]
       simp -implicitDefEqProofs [a00,a1C,h2,h7,hR,h5,f1,f2,f3,hb0,hb1,hs,hlo,hhi,e1,e2,e3,e4];exact bad hok _ rfl rfl
    ·have hbh:(x.hi != 0)=true:=by simp[hhi]
     have hok:x.ok=false:=by simp[Nd.ok,hk0,hhi]
     simp -implicitDefEqProofs [a00,a1C,h2,h7,hR,h5,f1,f2,f3,hb0,hlo,hbh,e1,e2,e3,e4];exact bad hok _ rfl rfl
   ·have hbl:(x.lo != 0)=true:=by simp[hlo]
    have hok:x.ok=false:=by simp[Nd.ok,hk0,hlo]
    simp -implicitDefEqProofs [a00,a1C,h2,h7,hR,h5,f1,f2,f3,hb0,hbl,e1,e2,e3,e4];exact bad hok _ rfl rfl
 ·have hok:x.ok=false:=by simp[Nd.ok,hR]
  simp at hR;simp -implicitDefEqProofs [a00,a1C,h2,h7,hR,h5,f1,f2,f3,e1,e2,e3,e4];exact bad hok _ rfl rfl
theorem aFQ(Q:Exit→St→Prop)(ks:List KF)(i2 i3 i5:Nat)(bg:List Nat)(x:Nd)(hbg:∀ (j b:Nat),bg[j]? =some b→b≤j)(hsm:bg.length≤1000)(has:x.args.length≤1000000)(tm:Nat→D)(h:Hp)(nx:Nat)
  (h2:tm 2= .one (.ptr ⟨i2,0,1,0,0⟩)) (h3:tm 3= .one (.ptr ⟨i3,0,1,0,0⟩)) (h4:tm 4= .one (.t (I bg.length))) (h5:tm 5= .one (.ptr ⟨i5,0,5,0,0⟩))
  (hi:HI i2 i3 bg h nx) (h5':h i5=some (.arr 0 false 5 [x.row.map .t]))
  (hret:∀ st,st.tmps 2=tm 2→st.heap i2=some (.arr 0 false 1 [[.t (.bool false)]])→(x.ok=false∨dU bg x=none)→cX prog 113 Q ks .ret st)
  (hgo:∀ st n,x.ok=true→dU bg x=some n→n≤bg.length→(∀t,t≤3∨14≤t∧t≤16→st.tmps t=tm t)→HI i2 i3 (bg++[n]) st.heap st.nx→cX prog 113 Q ks .normal st):
  aZ prog 113 Q (.seq (.region 7 false 4 a0V) (.seq (.region 8 false 1 a0W) (.seq (.seq (.region 9 false 2 a0X) aKI) sF))) ks ⟨tm,h,nx⟩:=by
 obtain⟨e1,e2,e3,e4⟩:=aK hi.two;obtain⟨f1,f2,f3,f4⟩:=aK h5';simp only[Nd.row,List.map_cons,List.map_nil,aX]at f2
 have rest:∀ tm' nx',(∀t,t≤5∨14≤t∧t≤16→tm' t=tm t)→nx≤nx'→tm' 7= .one (.t (.bool x.right))→aZ prog 113 Q sF ks ⟨tm',h,nx'⟩:=fun tm' nx' ht hnx' h7=>by
  refine aIB Q ks i2 i3 i5 bg x hbg hsm has tm' h nx' (by rw[ht 2 (by omega)];exact h2) (by rw[ht 3 (by omega)];exact h3) (by rw[ht 4 (by omega)];exact h4) (by rw[ht 5 (by omega)];exact h5) h7 (hi.other (aF.more hi.ok hnx') fun _ _=>rfl) h5' ?_ ?_
  ·intro st k1 k2 k3;exact hret st (by rw[k1,ht 2 (by omega)]) k2 k3
  ·intro st n k0 k1 k2 k3 k4;exact hgo st n k0 k1 k2 (fun t h=>by rw[k3 t h,ht t (by omega)]) k4
 unfold aKI;have hcase:x.k=0∨x.k=1∨x.k=2∨x.k=3∨x.k=4∨x.k=5∨x.k=6∨x.k=7∨(x.k≠0∧x.k≠1∧x.k≠2∧x.k≠3∧x.k≠4∧x.k≠5∧x.k≠6∧x.k≠7):=by omega
 rcases hcase with hk | hk | hk | hk | hk | hk | hk | hk | ⟨k0,k1,k2,k3,k4,k5,k6,k7⟩
 ·have hR:x.right=decide (x.args.length=0):=by simp[Nd.right,hk]
  simp -implicitDefEqProofs [a0V,a0W,a0X,a0Y,a0Z,a5Q,h5,f1,f2,f3,hk];exact rest _ _ (wR rfl rfl rfl rfl rfl rfl rfl rfl rfl) (by omega) (by rw[hR];simp[aN7])
 ·have hR:x.right=decide (x.args.length=0):=by simp[Nd.right,hk]
  simp -implicitDefEqProofs [a0V,a0W,a0X,a0Y,a0Z,a5Q,h5,f1,f2,f3,hk];exact rest _ _ (wR rfl rfl rfl rfl rfl rfl rfl rfl rfl) (by omega) (by rw[hR];simp[aN7])
 ·have hR:x.right=decide (x.args.length=1):=by simp[Nd.right,hk]
  simp -implicitDefEqProofs [a0V,a0W,a0X,a0Y,a0Z,a01,a02,a5R,h5,f1,f2,f3,hk];exact rest _ _ (wR rfl rfl rfl rfl rfl rfl rfl rfl rfl) (by omega) (by rw[hR];simp[aPV])
 ·have hR:x.right=decide (x.args.length=1):=by simp[Nd.right,hk]
  simp -implicitDefEqProofs [a0V,a0W,a0X,a0Y,a0Z,a01,a02,a5R,h5,f1,f2,f3,hk];exact rest _ _ (wR rfl rfl rfl rfl rfl rfl rfl rfl rfl) (by omega) (by rw[hR];simp[aPV])
 ·have hR:x.right=decide (x.args.length=2):=by simp[Nd.right,hk]
  simp -implicitDefEqProofs [a0V,a0W,a0X,a0Y,a0Z,a01,a02,a1z,a1A,a1B,a3y,h5,f1,f2,f3,hk];exact rest _ _ (wR rfl rfl rfl rfl rfl rfl rfl rfl rfl) (by omega) (by rw[hR];simp[aIA])
 ·have hR:x.right=decide (x.args.length=2):=by simp[Nd.right,hk]
  simp -implicitDefEqProofs [a0V,a0W,a0X,a0Y,a0Z,a01,a02,a1z,a1A,a1B,a3y,h5,f1,f2,f3,hk];exact rest _ _ (wR rfl rfl rfl rfl rfl rfl rfl rfl rfl) (by omega) (by rw[hR];simp[aIA])
 ·have hR:x.right=decide (x.args.length=2):=by simp[Nd.right,hk]
  simp -implicitDefEqProofs [a0V,a0W,a0X,a0Y,a0Z,a01,a02,a1z,a1A,a1B,a3y,h5,f1,f2,f3,hk];exact rest _ _ (wR rfl rfl rfl rfl rfl rfl rfl rfl rfl) (by omega) (by rw[hR];simp[aIA])
 ·have hR:x.right=decide (x.args.length=1∨x.args.length=2):=by simp[Nd.right,hk]
  simp -implicitDefEqProofs [a0V,a0W,a0X,a0Y,a0Z,a01,a02,a1z,a1A,a1B,a5S,a8g,h5,f1,f2,f3,hk];exact rest _ _ (wR rfl rfl rfl rfl rfl rfl rfl rfl rfl) (by omega) (by rw[hR];simp[aPV,aIA])
 ·have hok:x.ok=false:=by simp[Nd.ok,Nd.right,k0,k1,k2,k3,k4,k5,k6,k7]
  have b0:(x.k==0)=false:=by simp[k0]
  have b1:(x.k==1)=false:=by simp[k1]
  have b2:(x.k==2)=false:=by simp[k2]
  have b3:(x.k==3)=false:=by simp[k3]
  have b4:(x.k==4)=false:=by simp[k4]
  have b5:(x.k==5)=false:=by simp[k5]
  have b6:(x.k==6)=false:=by simp[k6]
  have b7:(x.k==7)=false:=by simp[k7]
  simp -implicitDefEqProofs [a0V,a0W,a0X,a8h,a0Y,a0Z,a01,a02,a1z,a1A,a1B,a5S,h2,h5,f1,f2,f3,b0,b1,b2,b3,b4,b5,b6,b7,e1,e2,e3,e4];exact hret _ rfl (by simp[Hp.set]) (.inl hok)
theorem aKJ(Q:Exit→St→Prop)(ks:List KF)(i2 i3:Nat)(l:List Nd)(bg:List Nat)(x:Nd)(hx:l[bg.length]? =some x)(hbg:∀ (j b:Nat),bg[j]? =some b→b≤j)(hsm:bg.length≤1000)(has:x.args.length≤1000000)(tm:Nat→D)(h:Hp)(nx:Nat)
  (h2:tm 2= .one (.ptr ⟨i2,0,1,0,0⟩)) (h3:tm 3= .one (.ptr ⟨i3,0,1,0,0⟩)) (h14:tm 14= .one (.t (aG l))) (h15:tm 15= .one (.t (I l.length))) (h16:tm 16= .one (.t (I bg.length)))
  (hi:HI i2 i3 bg h nx)
  (hret:∀ st,st.tmps 2=tm 2→st.heap i2=some (.arr 0 false 1 [[.t (.bool false)]])→(x.ok=false∨dU bg x=none)→cX prog 113 Q ks .ret st)
  (hgo:∀ st n,x.ok=true→dU bg x=some n→n≤bg.length→(∀t,t≤3∨14≤t∧t≤15→st.tmps t=tm t)→st.tmps 16= .one (.t (I ((bg.length+1:Nat):Int)))→HI i2 i3 (bg++[n]) st.heap st.nx→cX prog 113 Q ks .normal st):
  aZ prog 113 Q a3B ks ⟨tm,h,nx⟩:=by
 obtain⟨e1,e2,e3,e4⟩:=aK hi.two;have aUT:=fZ hi.ok hi.two;have hlen:bg.length<l.length:=(gS9.1 hx).1;have hlI:(bg.length:Int)<l.length:=by omega
 have hrow:∀ hh,(l.map Nd.row)[bg.length]'hh=x.row:=fun hh=>by
  rw[List.getElem_map];congr 1;exact(gS9.1 hx).2
 have hn2:∀ c,¬i2=nx+c:=fun c=>by omega
 obtain⟨h',hh'⟩:∃ h',h'=h.set (nx+4) (.arr 0 false 5 [x.row.map .t]):=⟨_,rfl⟩
 have hk':aF h' (nx+7):=by
  rw[hh'];exact aF.set (aF.more hi.ok (by omega)) (by omega) (by simp only[O.below,List.all_cons,List.all_nil,List.all_map,Bool.and_true];exact List.all_eq_true.2 fun _ _=>rfl)
 have hi':HI i2 i3 bg h' (nx+7):=hi.other hk' fun j hj=>by rw[hh'];simp only[Hp.set];rw[if_neg (by omega)]
 have hset:(h.set (nx+1+3) (O.arr 0 false 5 [[A.t (T.int IntKind.i64 0),A.t (T.int IntKind.i64 0),A.t (T.int IntKind.i64 0),A.t (T.str (bs [])),A.tt 1 []]])).set (nx+1+3) (O.arr 0 false 5 [List.take 5 (List.map A.t x.row)++List.drop (min 5 x.row.length) [A.t (T.int IntKind.i64 0),A.t (T.int IntKind.i64 0),A.t (T.int IntKind.i64 0),A.t (T.str (bs [])),A.tt 1 []]])=h':=by
  rw[hh'];funext j;simp only[Hp.set,Nd.row];split<;>rfl
 simp -implicitDefEqProofs [a3B,a5P,b4L,h14,h15,h16,aG,hlI,hlen,hrow];refine⟨by simp[Nd.row],⟨by simp[Nd.row],by simp[Nd.row]⟩,?_⟩;rw[hset];refine aFQ Q (.blk 1:: .thn (.region 32 false 2 a8j)::ks) i2 i3 (nx+4) bg x hbg hsm has _ h' (nx+7) h2 h3 rfl rfl hi' (by rw[hh'];simp[Hp.set]) ?_ ?_
 ·intro st k1 k2 k3;simp;exact hret st k1 k2 k3
 ·intro st n k0 k1 k2 k3 k4;have hw:IntKind.i64.wrap ((bg.length:Int)+1)=((bg.length+1:Nat):Int):=aH _ (by omega) (by omega);have e16:st.tmps 16= .one (.t (I bg.length)):=(k3 16 (by omega)).trans h16;simp -implicitDefEqProofs [a8j,e16,hw];refine hgo _ n k0 k1 k2 (fun t ht=>?_) (by simp) ?_
  ·have e1:t≠100:=by omega
   have e2:t≠16:=by omega
   simp only[upd];rw[if_neg e2,if_neg e1,k3 t (by omega)];have:t=0∨t=1∨t=2∨t=3∨t=14∨t=15:=by omega
   rcases this with rfl | rfl | rfl | rfl | rfl | rfl<;>rfl
  ·exact k4.other (aF.more k4.ok (by simp only;omega)) fun _ _=>rfl
end
section
open Go Go.Ab
structure TI (l:List Nd) (k:Nat) (st:St):Prop where
 out:∃ bg:List Nat,k=l.length - bg.length∧bg.length≤l.length∧(∀(j b:Nat),bg[j]? =some b→b≤j)∧cP (l.drop bg.length) bg=cP l []∧
  st.tmps 0= .one (.t (aG l))∧st.tmps 2= .one (.ptr ⟨0,0,1,0,0⟩)∧st.tmps 3= .one (.ptr ⟨4,0,1,0,0⟩)∧st.tmps 14= .one (.t (aG l))∧st.tmps 15= .one (.t (I l.length))∧st.tmps 16= .one (.t (I bg.length))∧HI 0 4 bg st.heap st.nx
theorem aN8(l:List Nd)(ha:∀ x∈l,x.args.length≤1000000):PSp prog 217 [.one (.t (aG l))] (.one (.t (.bool (bC l)))):=by
 refine k217.aI (by simp) rfl rfl ?_
 have aRW:∀ st:St,st.tmps 2= .one (.ptr ⟨0,0,1,0,0⟩)→st.heap 0=some (.arr 0 false 1 [[.t (.bool false)]])→bC l=false→aC [.cell 2 1 false] (.one (.t (.bool (bC l)))) .ret st:=fun st h2 hh hF=>by
  obtain⟨e1,e2,e3,e4⟩:=aK hh;rw[hF];simp[aC,h2,e1,e2,e3]
 by_cases hl:l.length≤20
 ·have hlI:¬ (20:Int)<l.length:=by omega
  simp -implicitDefEqProofs [c217,a8e,a8f,b4J,b4K,aG,hlI];refine W.cU (fun k st=>TI l k st) l.length ⟨[],by simp,by simp,by simp,rfl,by simp[aG],by simp,by simp,by simp[aG],by simp,by simp,?_⟩ ?_
  ·refine⟨⟨fun j hj=>?_,fun j o hj=>?_⟩,by simp[Hp.set],.inl ⟨rfl,by simp[Hp.set]⟩,by decide,by simp[qJ,Hp.set]⟩
   ·simp only at hj;simp only[Hp.set];rw[if_neg (by omega),if_neg (by omega)];rfl
   ·simp only[Hp.set]at hj;split at hj
    ·simp only[sI9]at hj;subst hj;simp[O.below,A.below]
    ·split at hj
     ·simp only[sI9]at hj;subst hj;simp[O.below,A.below]
     ·cases hj
  ·rintro k st ⟨bg,hk,hle,hbg,hgo,h0,h2,h3,h14,h15,h16,hi⟩;have none:cP l []=none→bC l=false:=fun e=>by simp[bC,e]
   rcases Nat.lt_or_ge bg.length l.length with hlt | hge
   ·rw[List.drop_eq_getElem_cons hlt,cP]at hgo;refine aKJ _ _ 0 4 l bg l[bg.length] (gE9 hlt) hbg (by omega) (ha _ (gL9 hlt)) st.tmps st.heap st.nx h2 h3 h14 h15 h16 hi ?_ ?_
    ·intro st' k2 k3 k4;simp;refine aRW _ (k2.trans h2) k3 (none ?_);rw[←hgo];rcases k4 with e | e<;>simp[e]
    ·intro st' n k0 k1 k2 k3 k4 k5;rw[k0,k1]at hgo;simp only[if_true]at hgo;simp;refine⟨l.length - (bg.length+1),by omega,bg++[n],by simp,by simp;omega,fun j b hj=>?_,by simpa using hgo,by rw[k3 0 (by omega)];exact h0,by rw[k3 2 (by omega)];exact h2,by rw[k3 3 (by omega)];exact h3,by rw[k3 14 (by omega)];exact h14,by rw[k3 15 (by omega)];exact h15,by simpa using k4,k5⟩;rcases Nat.lt_or_ge j bg.length with h | h
     ·rw[List.getElem?_append_left h]at hj;exact hbg j b hj
     ·rw[List.getElem?_append_right h]at hj
      have:j - bg.length=0:=by
       rcases Nat.eq_zero_or_pos (j - bg.length)with e | e
       ·exact e
       ·rw[List.getElem?_eq_none (by simp;omega)]at hj;cases hj
      rw[this]at hj;simp at hj;omega
   ·have heq:bg.length=l.length:=by omega
    have hlI:¬ (bg.length:Int)<l.length:=by omega
    rw[List.drop_eq_nil_of_le hge,cP]at hgo;have hF:bC l=decide (l.length=0∨bg.getD (l.length - 1) 0=0):=by simp[bC,←hgo,hl]
    obtain⟨e1,e2,e3,e4⟩:=aK hi.two;rcases hi.bgs with⟨g1,g2⟩ | ⟨g1,id,ver,g2,g3,g4⟩
    ·have hl0:l.length=0:=by rw[←heq,g1];rfl
     have aPW:l=[]:=List.length_eq_zero_iff.1 hl0;subst aPW;subst g1;rw[hF];simp[a3B,a5P,h15,h16,a8k,h0,aG,h2,e1,e2,e3,e4,aC]
    ·obtain⟨p1,p2,p3,p4⟩:=aK g2;obtain⟨q1,q2,q3,q4⟩:=aK g3;have hpos:0<l.length:=by rw[←heq];exact List.length_pos_iff.2 g1
     obtain⟨m,hm⟩:∃ m,l.length=m+1:=⟨l.length - 1,by omega⟩;have hmb:m<bg.length:=by omega
     have hmI:(m:Int)<bg.length:=by omega
     have hw:IntKind.i64.wrap (m:Int)=m:=wrap_i64 (by omega) (by omega);have hge:bg.getD m 0=bg[m]:=by simp[List.getD_eq_getElem?_getD,gE9 hmb]
     rw[hF,hm,Nat.add_sub_cancel,hge];have hz:¬ (m:Int)+1=0:=by omega
     have hw':IntKind.i64.wrap ((m:Int)+1 - 1)=m:=by rw[Int.add_sub_cancel];exact hw
     simp[a3B,a5P,h15,h16,hlI];simp[a8k,h0,h2,h3,aG,hm,e1,e2,e3,e4,p1,p2,p3,q1,q2,q3,aC,hz,hw,hmI,hmb];rw[aN7,show((m:Int)+1==0)=false by simp;omega];rfl
 ·have hF:bC l=false:=by simp[bC,hl]
  have hlI:(20:Int)<l.length:=by omega
  simp -implicitDefEqProofs [c217,a8e,a8f,b4I,aG,hlI];exact aRW _ rfl rfl hF
end
section
open Go Go.Ab
inductive Vl where
 | mk (kind n e:Int) (s:ByteArray) (names:List ByteArray) (items:List Vl)
structure Tg where
 cls:Int
 num:Int
 way:Int
mutual
inductive Ty where
 | mk (kind:Int) (name:ByteArray) (tags:List Tg) (fields:List Fd) (opn:Bool) (root:Int) (of:List Ty) (limits:List Nd)
inductive Fd where
 | mk (name:ByteArray) (num:Int) (ty:Ty) (pres:Int) (dflt:List Vl) (grp:Int)
end
def aO(l:List ByteArray):T:= .rows 1 (l.map fun s=>[.str s])
def Tg.row(g:Tg):List T:=[I g.cls,I g.num,I g.way]
mutual
def Vl.row:Vl→List T
 | .mk k n e s ns is=>[I k,I n,I e,.str s,aO ns,.rows 6 (aA5 is)]
def aA5:List Vl→List (List T)
 | []=>[]
 | v::r=>v.row::aA5 r
end
mutual
def Ty.row:Ty→List T
 | .mk k nm tg fs o r of l=>[I k,.str nm,.rows 3 (tg.map Tg.row),.rows 13 (aDB fs),.bool o,I r,.rows 8 (wS of),aG l]
def Fd.row:Fd→List T
 | .mk nm n t p d g=>[.str nm,I n]++t.row++[I p,.rows 6 (aA5 d),I g]
def aDB:List Fd→List (List T)
 | []=>[]
 | f::r=>f.row::aDB r
def wS:List Ty→List (List T)
 | []=>[]
 | t::r=>t.row::wS r
end
theorem dV:∀ l:List Vl,aA5 l=l.map Vl.row
 | []=>by simp[aA5]
 | v::r=>by simp[aA5,dV r]
theorem iS:∀ l:List Fd,aDB l=l.map Fd.row
 | []=>by simp[aDB]
 | v::r=>by simp[aDB,iS r]
theorem jN:∀ l:List Ty,wS l=l.map Ty.row
 | []=>by simp[wS]
 | v::r=>by simp[wS,jN r]
def uO:A→Bool
 | .t _=>true
 | _=>false
def _root_.Go.Ab.D.kB:D→Bool
 | .one x=>uO x
 | .agg cs=>cs.all uO
 | _=>false
theorem mW(h:Hp){x:D}(hx:x.kB=true):x.cE h∧x.frz h=x∧x.ids h=[]:=by
 cases x with
 | one x=>cases x<;>simp_all [D.kB,uO]
 | agg cs=>
  simp only[D.kB,List.all_eq_true]at hx;refine⟨fun x hxm=>?_,?_,?_⟩
  ·have:=hx x hxm;cases x<;>simp_all [uO,aHB]
  ·simp only[D.frz,D.agg.injEq];refine(List.map_congr_left fun x hxm=>?_).trans (List.map_id _);have:=hx x hxm;cases x<;>simp_all [uO,aP1]
  ·simp only[D.ids];refine List.flatMap_eq_nil_iff.2 fun x hxm=>?_
   have:=hx x hxm;cases x<;>simp_all [uO,aP2]
 | tup xs=>simp[D.kB]at hx
theorem aA6(h:Hp):h.close []=h:=by funext j;simp[Hp.close]
theorem _root_.Go.Ab.aD.tree{P:Program}{f:FuncId}{xs:List D}{h:Hp}{new:Nat}{K:D→Hp→Prop}{r:D}(hs:PSp P f xs r)(hx:xs.all D.kB=true)(hK:K r h):aD P false f xs h new K:=by
 have hx':=List.all_eq_true.1 hx;refine aD.pure hs (fun x hm=>(mW h (hx' x hm)).1) ((List.map_congr_left fun x hm=>(mW h (hx' x hm)).2.1).trans (List.map_id _)) ?_;have e:xs.flatMap (D.ids h)=[]:=List.flatMap_eq_nil_iff.2 fun x hm=>(mW h (hx' x hm)).2.2
 rw[e,aA6];split<;>exact hK
theorem _root_.Go.Ab.aD.bN{P:Program}{f:FuncId}{xs:List D}{h:Hp}{new:Nat}{K:D→Hp→Prop}{r:D}(hs:PSp P f xs r)(hx:xs.all D.kB=true)(hK:K r h):aD P true f xs h new K:=by
 have hx':=List.all_eq_true.1 hx;exact aD.draw hs (fun x hm=>(mW h (hx' x hm)).1) ((List.map_congr_left fun x hm=>(mW h (hx' x hm)).2.1).trans (List.map_id _)) (.inr (List.flatMap_eq_nil_iff.2 fun x hm=>(mW h (hx' x hm)).2.2)) hK
theorem eW(a b:Int):a=b∨((a==b)=false∧¬a=b∧¬b=a∧(b==a)=false):=by
 by_cases h:a=b
 ·exact .inl h
 ·exact .inr ⟨by simp[h],h,fun e=>h e.symm,by simp;exact fun e=>h e.symm⟩
theorem mB(a b:Int):(a≤b∧¬b<a)∨(¬a≤b∧b<a):=by omega
theorem pX(a b:Int):(a<b∧¬b≤a)∨(¬a<b∧b≤a):=by omega
def short{α:Type}(l:List α):Prop:=l.length≤9223372036854775807
mutual
def Vl.fine:Vl→Prop
 | .mk _ _ _ s ns is=>s.size≤9223372036854775807∧short ns∧(∀x∈ns,x.size≤9223372036854775807)∧short is∧mC is
def mC:List Vl→Prop
 | []=>True
 | v::r=>v.fine∧mC r
end
def Nd.fine(x:Nd):Prop:=x.s.size≤9223372036854775807∧short x.args
mutual
def Ty.fine:Ty→Prop
 | .mk _ nm tg fs _ _ of l=>nm.size≤9223372036854775807∧short tg∧short fs∧wT fs∧short of∧aA7 of∧short l∧∀x∈l,x.fine
def Fd.fine:Fd→Prop
 | .mk nm _ t _ d _=>nm.size≤9223372036854775807∧t.fine∧short d∧mC d
def wT:List Fd→Prop
 | []=>True
 | f::r=>f.fine∧wT r
def aA7:List Ty→Prop
 | []=>True
 | t::r=>t.fine∧aA7 r
end
end
end Go.Proofs.YtdpbobkcbakpfaaGreatDoor
