/- Texts of this proof. -/
import Derived.Test.YtdpbobkcbakpfaaGreatDoorProg
import Derived.Shelf.Small.Strs
import Derived.Shelf.Strings.Prefix
import Derived.Shelf.Strings.Search3
import Derived.Shelf.Strings.SlTrimAscii
import Derived.Shelf.GgClosure.StringsIndexFuncTop
import Derived.WalkKit
import Derived.Below
import Derived.Test.YtdpbobkcbakpfaaGreatDoorMraC
namespace Go.Proofs.YtdpbobkcbakpfaaGreatDoor
open Go Go.Ab
open Go.Proofs.Tryz
set_option maxRecDepth 100000
set_option maxHeartbeats 4000000
def c12:aB:=zs 0 1 [zW 0 false] (zs 1 8 [zc 9 56 [],zc 10 40 [zi 8],zq 11 22 [9,10],zv 8 11,zE 12 0 8,zE 13 1 8,zv 1 12,zv 2 13] (zs 2 8 [zc 15 56 [],zc 16 40 [zi 8],zq 17 24 [15,16],zv 14 17,zE 18 0 14,zE 19 1 14,zv 3 18,zv 4 19] (zs 3 10 [zc 21 56 [],zq 22 43 [21],zv 20 22,zE 23 0 20,zE 24 1 20,zE 25 2 20,zo 5 (.alloc [za,za]),zS 2 5 23,zv 6 24,zv 7 25] (zs 4 31 [zv 26 2,zK 27 .eql 26 0,zv 28 27,.grp 28 true [zg 29 (zm 1) 28 true],zP 30 28 29,zv 31 30,.grp 31 true [zg 32 (zm 4) 31 true,zg 33 (zU .eql 32 0) 31 true],zP 34 31 33,zv 35 34,.grp 35 true [zg 36 (zm 3) 35 true,zg 37 (zV 36) 35 true],zP 38 35 37,zv 39 38,.grp 39 true [zg 40 (zm 7) 39 true,zg 41 (zU .eql 40 0) 39 true],zP 42 39 41,zv 43 42,.grp 43 true [zg 44 (zm 6) 43 true],zP 45 43 44,zv 46 45,.grp 46 true [zg 47 (zF 0 5) 46 true,zg 48 (zy 47) 46 true,zg 49 (zU .eql 48 1) 46 true],zP 50 46 49,zv 51 50,.grp 51 true [zg 52 (zF 1 5) 51 true,zg 53 (zy 52) 51 true,zg 54 (zU .eql 53 5) 51 true],zP 55 51 54,zv 0 55] .ret))))
theorem k12:Compiled prog 12 56 [.tmp 0] c12:=kMk [] func12
def a8q:aB:=zd 12 (zs 3 3 [zv 13 4,zM 2 0,zv 3 13] .ret) .skip
def a8r:aB:=zs 2 2 [zv 11 4,zK 12 .neq 11 0] a8q
def a8s:aB:=zd 17 (zs 5 2 [zM 2 0,zM 3 0] .ret) .skip
def a8t:aB:=zd 33 (zs 13 2 [zM 2 0,zM 3 4] .ret) .skip
def a8u:aB:=zd 29 (zr 11 1 [zM 6 2]) (zs 12 4 [zf 34 0 1,zl 35 34,zK 36 .neq 35 2,zv 33 36] a8t)
def a8v:aB:=zd 25 (zr 9 1 [zM 6 1]) (zs 10 4 [zf 30 0 1,zl 31 30,zq 32 61 [31],zv 29 32] a8u)
def a8w:aB:=zd 54 (zs 20 4 [zv 55 7,zv 56 8,zv 2 55,zv 3 56] .ret) .skip
def a8x:aB:=zs 19 2 [zv 53 8,zK 54 .neq 53 0] a8w
def a8y:aB:=zs 18 4 [zv 50 5,zv 51 7,zq 52 63 [50,51],zv 8 52] a8x
def a8z:aB:= .seq (.block 2 (zs 17 2 [zv 49 47,zv 7 49] a8y)) (zr 21 2 [zK 57 .add 47 1,zv 47 57])
def a8A:aB:= .seq (zd 48 .skip (.exit 1)) a8z
def a8B:aB:=zs 16 1 [zB 48 .lss 47 46] a8A
def a8C:aB:= .block 1 (.loop a8B)
def a8D:aB:= .seq (zs 15 4 [zf 44 7 1,zl 45 44,zL 46 45,zM 47 0] a8C) (zs 22 5 [zf 58 7 1,zl 59 58,zL 60 59,zv 2 60,zM 3 0] .ret)
def a8E:aB:=zs 14 7 [zv 37 5,zf 38 7 1,zl 39 38,zL 40 39,zK 41 .sub 40 1,zv 42 6,zq 43 62 [37,41,42]] a8D
def a8F:aB:= .seq (.block 0 (zs 8 4 [zf 26 0 1,zl 27 26,zq 28 60 [27],zv 25 28] a8v)) a8E
def a8G:aB:=zs 7 1 [zM 6 0] a8F
def a8H:aB:= .seq (.region 6 true 8 [zA 18 8 1,zf 19 7 1,zl 20 19,zL 21 20,zo 22 (.mks 1 8 [za] (.tmp 21) (.tmp 21)),zo 23 (.build [za,.t (.str (bs [])),.tt 3 [],.tt 13 [],.t (.bool false),za,.tt 8 [],.tt 5 [],.tt 1 []] [(0,(8,.tmp 18)),(8,(1,.tmp 22))]),zX 24 9 23,zv 5 24]) a8G
def a8I:aB:= .seq (zs 4 4 [zf 14 7 1,zl 15 14,zL 16 15,zK 17 .eql 16 0] a8s) a8H
def a8J:aB:= .seq (zs 1 3 [zA 9 8 1,zq 10 59 [9],zv 4 10] a8r) a8I
def c14:aB:=zs 0 3 [zX 1 8 0,zM 2 0,zM 3 0] a8J
theorem k14:Compiled prog 14 61 [.tmp 2,.tmp 3] c14:=kMk [] func14
def c22:aB:=zs 0 4 [zX 2 8 0,zX 3 6 1,zW 4 false,zM 5 0] (.seq (zs 1 4 [zA 7 8 2,zA 8 6 3,zq 9 71 [7,8],zv 6 9] (zs 2 2 [zv 10 6,zK 11 .neq 10 0] (zd 11 (zs 3 3 [zv 12 6,zW 4 false,zv 5 12] .ret) .skip))) (zs 4 16 [zf 13 7 2,zl 14 13,zL 15 14,zK 16 .eql 15 0,zv 17 16,.br 17 false [zg 18 (zF 7 2) 17 false,zg 19 (zy 18) 17 false,zg 20 (zF 7 2) 17 false,zg 21 (zy 20) 17 false,zg 22 (.len false (.tmp 21)) 17 false,zg 23 (zU .sub 22 1) 17 false,zg 24 (zt 6 3) 17 false,.mk (some 25) (zw 72 [19,23,24]) (some (17,false))],zQ 26 17 25,zv 4 26,zM 5 0] .ret))
theorem k22:Compiled prog 22 27 [.tmp 4,.tmp 5] c22:=kMk [] func22
def c24:aB:=zs 0 4 [zX 2 8 0,zX 3 6 1,zW 4 false,zM 5 0] (.seq (zs 1 4 [zA 9 8 2,zA 10 6 3,zq 11 71 [9,10],zv 6 11] (zs 2 2 [zv 12 6,zK 13 .neq 12 0] (zd 13 (zs 3 3 [zv 14 6,zW 4 false,zv 5 14] .ret) .skip))) (zs 4 8 [zf 16 7 2,zl 17 16,zq 18 74 [17],zv 15 18,zE 19 0 15,zE 20 1 15,zv 7 19,zv 8 20] (zs 5 11 [zv 21 7,zK 22 .lss 21 0,zv 23 22,.br 23 false [zg 24 (zF 7 2) 23 false,zg 25 (zy 24) 23 false,zg 26 (zm 7) 23 false,zg 27 (zt 6 3) 23 false,.mk (some 28) (zw 72 [25,26,27]) (some (23,false))],zQ 29 23 28,zv 4 29,zM 5 0] .ret)))
theorem k24:Compiled prog 24 30 [.tmp 4,.tmp 5] c24:=kMk [] func24
def c40:aB:=zs 0 1 [zo 2 (.alloc [za,za,za,.t (.str (bs [])),.tt 1 [],.tt 6 []])] (zs 1 3 [zv 3 0,zo 4 (.build [za,za,za,.t (.str (bs [])),.tt 1 [],.tt 6 []] [(0,(1,zi 2)),(1,(1,.tmp 3))]),zS 6 2 4] .ret)
theorem k40:Compiled prog 40 5 [.cell 2 6 true] c40:=kMk [] func40
def c43:aB:=zs 0 4 [zX 1 8 0,zo 2 (.alloc [za,za]),zW 3 false,zM 4 0] (.seq (.seq (.region 1 true 9 [zA 8 8 1,zq 9 80 [8],zf 10 0 1,zl 11 10,zK 12 .eql 11 2,zc 13 81 [.tmp 12,zi 4],zo 14 (.bslice 1 2 [za,za] [(0,(1,.tmp 9)),(1,(1,.tmp 13))]),zq 15 79 [14],zv 5 15]) (zs 2 2 [zv 16 5,zK 17 .neq 16 0] (zd 17 (zs 3 5 [zo 18 (.build [za,za] []),zv 19 5,zS 2 2 18,zW 3 false,zv 4 19] .ret) .skip))) (zs 4 8 [zf 21 7 1,zl 22 21,zq 23 74 [22],zv 20 23,zE 24 0 20,zE 25 1 20,zv 6 24,zv 7 25] (.seq (zs 5 2 [zv 26 6,zK 27 .lss 26 0] (zd 27 (.seq (.region 6 true 10 [zA 28 8 1,zA 29 8 1,zq 30 82 [29],zq 31 89 [28,30],zE 32 0 31,zE 33 1 31,zE 34 2 31,zS 2 2 32,zv 3 33,zv 4 34]) .ret) .skip)) (.seq (.region 7 true 12 [zA 35 8 1,zf 36 7 1,zl 37 36,zv 38 6,zq 39 90 [37,38],zq 40 89 [35,39],zE 41 0 40,zE 42 1 40,zE 43 2 40,zS 2 2 41,zv 3 42,zv 4 43]) .ret))))
theorem k43:Compiled prog 43 44 [.cell 2 2 true,.tmp 3,.tmp 4] c43:=kMk [] func43
def b4Q:aB:=zd 12 (zs 4 1 [zM 2 2] .ret) .skip
def b4R:aB:=zs 3 4 [zv 9 3,zC 10 9,zf 11 1 10,zl 12 11] b4Q
def b4S:aB:= .seq (zs 2 3 [zv 6 3,zA 7 8 1,zc 8 106 [.tmp 6,.tmp 7,zi 9]] b4R) (zs 5 3 [zA 13 8 1,zq 14 107 [13],zv 2 14] .ret)
def b4T:aB:=zs 1 3 [zo 4 (.build [za,.t (.bool false)] [(0,(1,zi 60))]),zX 5 2 4,zv 3 5] b4S
def c59:aB:=zs 0 2 [zX 1 8 0,zM 2 0] b4T
theorem k59:Compiled prog 59 15 [.tmp 2] c59:=kMk [] func59
def c60:aB:=zs 0 1 [zW 2 false] (zs 1 11 [zv 3 0,zK 4 .eql 3 6,zv 5 4,.grp 5 false [zg 6 (zm 0) 5 false,zg 7 (zU .eql 6 4) 5 false],zQ 8 5 7,zv 9 8,.grp 9 false [zg 10 (zm 0) 9 false,zg 11 (zU .eql 10 5) 9 false],zQ 12 9 11,zv 2 12] .ret)
theorem k60:Compiled prog 60 13 [.tmp 2] c60:=kMk [] func60
def c61:aB:=zs 0 1 [zW 2 false] (zs 1 7 [zv 3 0,zK 4 .eql 3 11,zv 5 4,.grp 5 false [zg 6 (zm 0) 5 false,zg 7 (zU .eql 6 12) 5 false],zQ 8 5 7,zv 2 8] .ret)
theorem k61:Compiled prog 61 9 [.tmp 2] c61:=kMk [] func61
def b4U:aB:=zd 42 (zr 9 1 [zM 8 4]) .skip
def b4V:aB:=zd 40 (zr 7 1 [zM 8 3]) (zs 8 2 [zK 43 .eql 39 3,zv 42 43] b4U)
def b4W:aB:= .block 2 (zs 6 2 [zK 41 .eql 39 2,zv 40 41] b4V)
def b4X:aB:= .seq (zs 5 9 [zv 31 0,zC 32 31,zf 33 0 32,zf 34 7 33,zl 35 34,zv 36 1,zI 37 5 35 36,zf 38 0 37,zl 39 38] b4W) (zr 10 4 [zv 44 0,zv 45 7,zv 46 8,zq 47 62 [44,45,46]])
def b4Y:aB:=zs 4 2 [zv 30 2,zv 8 30] b4X
def b4Z:aB:= .seq (.block 1 (zs 3 3 [zI 28 1 24 26,zl 29 28,zv 7 29] b4Y)) (zr 11 2 [zK 48 .add 26 1,zv 26 48])
def b40:aB:= .seq (zd 27 .skip (.exit 0)) b4Z
def b41:aB:=zs 2 1 [zB 27 .lss 26 25] b40
def b42:aB:= .block 0 (.loop b41)
def b43:aB:=zs 1 11 [zv 16 0,zC 17 16,zf 18 0 17,zf 19 7 18,zl 20 19,zv 21 1,zI 22 5 20 21,zf 23 4 22,zl 24 23,zL 25 24,zM 26 0] b42
def c62:aB:=zs 0 8 [zv 9 0,zC 10 9,zf 11 8 10,zl 12 11,zv 13 1,zv 14 2,zI 15 1 12 13,zS 1 15 14] b43
theorem k62:Compiled prog 62 49 [] c62:=kMk [] func62
def b44:aB:=zd 40 (zs 5 2 [zv 41 7,zv 4 41] .ret) .skip
def b45:aB:=zs 4 2 [zv 39 7,zK 40 .neq 39 0] b44
def b46:aB:=zd 69 (.seq (.region 11 true 12 [zv 71 0,zv 72 1,zq 73 110 [71,72],zc 74 81 [.tmp 73,zi 17],zf 75 3 5,zl 76 75,zp 77 76,zK 78 .leq 77 200,zc 79 81 [.tmp 78,zi 2],zo 80 (.bslice 1 2 [za,za] [(0,(1,.tmp 74)),(1,(1,.tmp 79))]),zq 81 79 [80],zv 4 81]) .ret) .skip
def b47:aB:=zd 44 (zs 8 5 [zv 46 0,zv 47 1,zq 48 109 [46,47],zo 8 (.alloc [za,za]),zS 2 8 48] (zs 9 21 [zf 49 1 5,zl 50 49,zf 51 2 5,zl 52 51,zB 53 .leq 50 52,zv 54 53,.grp 54 true [zg 55 (zF 0 8) 54 true,zg 56 (zy 55) 54 true,zg 57 (zF 1 5) 54 true,zg 58 (zy 57) 54 true,zg 59 (zO .leq 56 58) 54 true],zP 60 54 59,zv 61 60,.grp 61 true [zg 62 (zF 2 5) 61 true,zg 63 (zy 62) 61 true,zg 64 (zF 1 8) 61 true,zg 65 (zy 64) 61 true,zg 66 (zO .leq 63 65) 61 true],zP 67 61 66,zc 68 81 [.tmp 67,zi 3],zv 4 68] .ret)) (zs 10 2 [zK 70 .eql 43 1,zv 69 70] b46)
def b48:aB:= .block 0 (zs 7 2 [zK 45 .eql 43 0,zv 44 45] b47)
def b49:aB:= .seq (zs 6 2 [zf 42 0 5,zl 43 42] b48) (zs 12 1 [zM 4 0] .ret)
def b5a:aB:= .seq (zs 3 14 [zf 26 0 5,zl 27 26,zK 28 .neq 27 7,zv 29 28,.grp 29 false [zg 30 (zm 6) 29 false],zQ 31 29 30,zc 32 81 [.tmp 31,zi 28],zv 33 0,zv 34 1,zq 35 108 [33,34],zc 36 81 [.tmp 35,zi 17],zo 37 (.bslice 1 2 [za,za] [(0,(1,.tmp 32)),(1,(1,.tmp 36))]),zq 38 79 [37],zv 7 38] b45) b49
def b5b:aB:=zs 2 10 [zv 17 1,zv 18 0,zC 19 18,zf 20 0 19,zf 21 7 20,zl 22 21,zL 23 22,zK 24 .sub 23 1,zB 25 .eql 17 24,zv 6 25] b5a
def b5c:aB:=zs 1 10 [zv 9 0,zC 10 9,zf 11 0 10,zf 12 7 11,zl 13 12,zv 14 1,zI 15 5 13 14,zA 16 5 15,zo 5 (.alloc [za,za,za,.t (.str (bs [])),.tt 1 []]),zS 5 5 16] b5b
def c63:aB:=zs 0 1 [zM 4 0] b5c
theorem k63:Compiled prog 63 82 [.tmp 4] c63:=kMk [] func63
def c71:aB:=zs 0 3 [zX 2 8 0,zX 3 6 1,zM 4 0] (.seq (.seq (.region 1 true 7 [zA 6 8 2,zq 7 80 [6],zA 8 6 3,zq 9 118 [8],zo 10 (.bslice 1 2 [za,za] [(0,(1,.tmp 7)),(1,(1,.tmp 9))]),zq 11 79 [10],zv 5 11]) (zs 2 2 [zv 12 5,zK 13 .neq 12 0] (zd 13 (zs 3 2 [zv 14 5,zv 4 14] .ret) .skip))) (zs 4 5 [zA 15 8 2,zA 16 6 3,zq 17 119 [15,16],zc 18 81 [.tmp 17,zi 17],zv 4 18] .ret))
theorem k71:Compiled prog 71 19 [.tmp 4] c71:=kMk [] func71
def c72:aB:=zs 0 3 [zX 3 1 0,zX 5 6 2,zW 6 false] (zs 1 6 [zl 9 3,zv 10 1,zI 11 5 9 10,zA 12 5 11,zo 7 (.alloc [za,za,za,.t (.str (bs [])),.tt 1 []]),zS 5 7 12] (.seq (zs 2 2 [zf 13 0 7,zl 14 13] (.block 0 (zs 3 2 [zK 16 .eql 14 0,zv 15 16] (zd 15 (zs 4 8 [zf 17 1 5,zl 18 17,zf 19 1 7,zl 20 19,zf 21 2 7,zl 22 21,zq 23 85 [18,20,22],zv 6 23] .ret) (zs 5 2 [zK 25 .eql 14 1,zv 24 25] (zd 24 (zs 6 6 [zf 26 3 5,zl 27 26,zf 28 3 7,zl 29 28,zB 30 .eql 27 29,zv 6 30] .ret) (zs 7 2 [zK 32 .eql 14 2,zv 31 32] (zd 31 (.seq (.region 8 true 10 [zl 33 3,zf 34 4 7,zl 35 34,zj 36 1 35 0,zl 37 36,zq 38 90 [33,37],zA 39 6 5,zq 40 121 [39],zq 41 120 [38,40],zv 6 41]) .ret) (zs 9 2 [zK 43 .eql 14 3,zv 42 43] (zd 42 (.seq (.region 10 true 8 [zl 44 3,zf 45 4 7,zl 46 45,zj 47 1 46 0,zl 48 47,zq 49 90 [44,48],zo 8 (.alloc [.tt 2 []]),zS 1 8 49]) (zs 11 7 [zf 50 3 5,zl 51 50,zo 52 (.lW (.tmp 51)),zo 53 (.mkfn 123 [.tmp 8]),zq 54 122 [52,53],zN 55 54,zv 6 55] .ret)) (zs 12 2 [zK 57 .eql 14 5,zv 56 57] (zd 56 (.seq (.region 13 true 17 [zl 58 3,zf 59 4 7,zl 60 59,zj 61 1 60 0,zl 62 61,zA 63 6 5,zq 64 72 [58,62,63],zv 65 64,.br 65 true [zg 66 (zy 3) 65 true,zg 67 (zF 4 7) 65 true,zg 68 (zy 67) 65 true,zg 69 (.ia 1 (.tmp 68) (zi 1)) 65 true,zg 70 (zy 69) 65 true,zg 71 (zt 6 5) 65 true,.mk (some 72) (zw 72 [66,70,71]) (some (65,true))],zP 73 65 72,zv 6 73]) .ret) (zs 14 2 [zK 75 .eql 14 6,zv 74 75] (zd 74 (.seq (.region 15 true 18 [zl 76 3,zf 77 4 7,zl 78 77,zj 79 1 78 0,zl 80 79,zA 81 6 5,zq 82 72 [76,80,81],zv 83 82,.br 83 true [zg 84 (zy 3) 83 true,zg 85 (zF 4 7) 83 true,zg 86 (zy 85) 83 true,zg 87 (.ia 1 (.tmp 86) (zi 1)) 83 true,zg 88 (zy 87) 83 true,zg 89 (zt 6 5) 83 true,.mk (some 90) (zw 72 [84,88,89]) (some (83,true)),zg 91 (zV 90) 83 true],zP 92 83 91,zv 6 92]) .ret) .skip)))))))))))))) (zs 16 5 [zf 93 4 7,zl 94 93,zo 95 (.mkfn 125 [.tmp 3,.tmp 5]),zq 96 124 [94,95],zv 6 96] .ret)))
theorem k72:Compiled prog 72 97 [.tmp 6] c72:=kMk [] func72
def c74:aB:=zs 0 2 [zM 2 0,zW 3 false] (.seq (zs 1 3 [zv 5 0,zL 6 5,zK 7 .eql 6 0] (zd 7 (zs 2 2 [zM 2 (-1),zW 3 false] .ret) .skip)) (.seq (zs 3 8 [zv 8 0,zv 9 0,zL 10 9,zK 11 .sub 10 1,zI 12 5 8 11,zA 13 5 12,zo 4 (.alloc [za,za,za,.t (.str (bs [])),.tt 1 []]),zS 5 4 13] (zs 4 3 [zf 14 0 4,zl 15 14,zK 16 .eql 15 7] (zd 16 (zs 5 6 [zf 17 4 4,zl 18 17,zj 19 1 18 0,zl 20 19,zv 2 20,zW 3 true] .ret) .skip))) (zs 6 5 [zv 21 0,zL 22 21,zK 23 .sub 22 1,zv 2 23,zW 3 false] .ret)))
theorem k74:Compiled prog 74 24 [.tmp 2,.tmp 3] c74:=kMk [] func74
def c80:aB:=zs 0 2 [zX 1 8 0,zM 2 0] (zs 1 7 [zA 6 8 1,zq 7 14 [6],zv 5 7,zE 8 0 5,zE 9 1 5,zv 3 8,zv 4 9] (zs 2 2 [zv 10 4,zv 2 10] .ret))
theorem k80:Compiled prog 80 11 [.tmp 2] c80:=kMk [] func80
def c89:aB:=zs 0 4 [zX 2 8 0,zo 4 (.alloc [za,za]),zW 5 false,zM 6 0] (.seq (zs 1 3 [zv 9 1,zL 10 9,zK 11 .eql 10 0] (zd 11 (zs 2 4 [zo 12 (.build [za,za] []),zS 2 4 12,zW 5 false,zM 6 23] .ret) .skip)) (zs 3 8 [zf 14 7 2,zl 15 14,zq 16 74 [15],zv 13 16,zE 17 0 13,zE 18 1 13,zv 7 17,zv 8 18] (.seq (.region 4 true 16 [zv 19 1,zj 20 2 19 0,zf 21 0 20,zl 22 21,zv 23 1,zv 24 1,zL 25 24,zK 26 .sub 25 1,zI 27 2 23 26,zf 28 1 27,zl 29 28,zo 30 (.build [za,za] [(0,(1,.tmp 22)),(1,(1,.tmp 29))]),zv 31 8,zS 2 4 30,zv 5 31,zM 6 0]) .ret)))
theorem k89:Compiled prog 89 32 [.cell 4 2 true,.tmp 5,.tmp 6] c89:=kMk [] func89
def a8K:aB:=zs 8 1 [zB 32 .lss 31 30] (.seq (zd 32 .skip (.exit 1)) (.seq (.block 2 (zs 9 3 [zI 33 1 29 31,zl 34 33,zv 8 34] (zr 10 9 [zv 35 6,zv 36 8,zo 37 (.dO .i64 (.tmp 36)),zv 38 8,zo 39 (.dO .i64 (.tmp 38)),zo 40 (.build [za,za] [(0,(1,.tmp 37)),(1,(1,.tmp 39))]),zo 41 (.bslice 2 1 [za,za] [(0,(2,.tmp 40))]),zo 42 (.app true 2 16 (.tmp 35) (.tmp 41)),zv 6 42]))) (zr 11 2 [zK 43 .add 31 1,zv 31 43])))
def c90:aB:=zs 0 1 [zo 4 (.mv (.con (.one (.tt 2 []))))] (zs 1 6 [zv 11 0,zv 12 1,zI 13 5 11 12,zA 14 5 13,zo 5 (.alloc [za,za,za,.t (.str (bs [])),.tt 1 []]),zS 5 5 14] (.seq (zs 2 2 [zf 15 0 5,zl 16 15] (.block 0 (zs 3 2 [zK 18 .eql 16 0,zv 17 18] (zd 17 (zs 4 7 [zf 19 1 5,zl 20 19,zf 21 2 5,zl 22 21,zo 23 (.build [za,za] [(0,(1,.tmp 20)),(1,(1,.tmp 22))]),zo 24 (.bslice 2 1 [za,za] [(0,(2,.tmp 23))]),zv 4 24] .ret) (zs 5 2 [zK 26 .eql 16 1,zv 25 26] (zd 25 (zs 6 1 [zo 6 (.mv (.con (.one (.tt 2 []))))] (.seq (zs 7 5 [zf 27 3 5,zl 28 27,zo 29 (.lW (.tmp 28)),zL 30 29,zM 31 0] (.block 1 (.loop a8K))) (zs 12 3 [zv 44 6,zq 45 130 [44],zv 4 45] .ret))) (zs 13 2 [zK 47 .eql 16 2,zv 46 47] (zd 46 (zs 14 7 [zv 48 0,zf 49 4 5,zl 50 49,zj 51 1 50 0,zl 52 51,zq 53 90 [48,52],zv 4 53] .ret) .skip)))))))) (zs 15 7 [zv 54 0,zf 55 4 5,zl 56 55,zj 57 1 56 0,zl 58 57,zq 59 90 [54,58],zv 9 59] (.seq (zs 16 4 [zf 60 4 5,zl 61 60,zL 62 61,zK 63 .lss 62 2] (zd 63 (zs 17 2 [zv 64 9,zv 4 64] .ret) .skip)) (zs 18 7 [zv 65 0,zf 66 4 5,zl 67 66,zj 68 1 67 1,zl 69 68,zq 70 90 [65,69],zv 10 70] (.seq (zs 19 2 [zf 71 0 5,zl 72 71] (.block 3 (zs 20 2 [zK 74 .eql 72 5,zv 73 74] (zd 73 (zs 21 4 [zv 75 9,zv 76 10,zq 77 132 [75,76],zv 4 77] .ret) (zs 22 2 [zK 79 .eql 72 6,zv 78 79] (zd 78 (zs 23 4 [zv 80 9,zv 81 10,zq 82 102 [80,81],zv 4 82] .ret) .skip)))))) (zs 24 4 [zv 83 9,zv 84 10,zc 85 86 [zi 0,.tmp 83,.tmp 84],zv 4 85] .ret)))))))
theorem k90:Compiled prog 90 86 [.tmp 4] c90:=kMk [] func90
def b5d:List Seg:=[zX 4 8 1]
def b5e:List Seg:=[zv 12 0,zv 13 2,zq 14 144 [12,13],zN 15 14]
def b5f:List Seg:=[zf 16 3 4,zl 17 16,zL 18 17,zM 19 0]
def a8L:List Seg:=[zB 20 .lss 19 18]
def b5g:List Seg:=[zI 21 13 17 19,zA 22 13 21,zo 7 (.alloc [.t (.str (bs [])),za,za,.t (.str (bs [])),.tt 3 [],.tt 13 [],.t (.bool false),za,.tt 8 [],.tt 5 [],za,.tt 6 [],za]),zS 13 7 22]
def b5h:List Seg:=[zv 23 0,zC 24 23,zf 25 1 24,zl 26 25]
def b5i:List Seg:=[zv 27 0,zf 28 2 7,zA 29 8 28,zv 30 2,zK 31 .sub 30 1,zq 32 106 [27,29,31]]
def b5j:List Seg:=[zf 33 11 7,zl 34 33,zL 35 34,zM 36 0]
def a8M:List Seg:=[zB 37 .lss 36 35]
def b5k:List Seg:=[zI 38 6 34 36,zA 39 6 38,zo 9 (.alloc [za,za,za,.t (.str (bs [])),.tt 1 [],.tt 6 []]),zS 6 9 39]
def b5l:List Seg:=[zv 40 0,zC 41 40,zf 42 1 41,zl 43 42]
def b5m:List Seg:=[zv 44 0,zA 45 6 9,zv 46 2,zK 47 .sub 46 1,zq 48 145 [44,45,47]]
def b5n:List Seg:=[zK 49 .add 36 1,zv 36 49]
def a8N:aB:=zs 8 1 a8M (.seq (zd 37 .skip (.exit 2)) (.seq (.block 3 (zs 9 4 b5k (.seq (zs 10 4 b5l (zd 43 .ret .skip)) (zr 11 5 b5m)))) (zr 12 2 b5n)))
def b5o:List Seg:=[zK 50 .add 19 1,zv 19 50]
def a8O:aB:=zs 3 1 a8L (.seq (zd 20 .skip (.exit 0)) (.seq (.block 1 (zs 4 4 b5g (.seq (zs 5 4 b5h (zd 26 .ret .skip)) (zs 6 6 b5i (zs 7 4 b5j (.block 2 (.loop a8N))))))) (zr 13 2 b5o)))
def b5p:List Seg:=[zf 51 6 4,zl 52 51,zL 53 52,zM 54 0]
def a8P:List Seg:=[zB 55 .lss 54 53]
def b5q:List Seg:=[zI 56 8 52 54,zA 57 8 56,zo 11 (.alloc [za,.t (.str (bs [])),.tt 3 [],.tt 13 [],.t (.bool false),za,.tt 8 [],.tt 5 []]),zS 8 11 57]
def b5r:List Seg:=[zv 58 0,zC 59 58,zf 60 1 59,zl 61 60]
def b5s:List Seg:=[zv 62 0,zA 63 8 11,zv 64 2,zK 65 .sub 64 1,zq 66 106 [62,63,65]]
def b5t:List Seg:=[zK 67 .add 54 1,zv 54 67]
def a8Q:aB:=zs 15 1 a8P (.seq (zd 55 .skip (.exit 4)) (.seq (.block 5 (zs 16 4 b5q (.seq (zs 17 4 b5r (zd 61 .ret .skip)) (zr 18 5 b5s)))) (zr 19 2 b5t)))
def c106:aB:=zs 0 1 b5d (.seq (zs 1 4 b5e (zd 15 .ret .skip)) (.seq (zs 2 4 b5f (.block 0 (.loop a8O))) (zs 14 4 b5p (.block 4 (.loop a8Q)))))
theorem k106:Compiled prog 106 68 [] c106:=kMk [] func106
def a3C:List Seg:=[zX 1 8 0,zM 2 0]
def a3D:List Seg:=[zA 14 8 1,zq 15 146 [14],zv 3 15]
def a3E:List Seg:=[zv 16 3,zK 17 .neq 16 0]
def a3F:List Seg:=[zv 18 3,zv 2 18]
def a3G:aB:=zd 17 (zs 3 2 a3F .ret) .skip
def a3H:aB:=zs 2 2 a3E a3G
def a3I:List Seg:=[zA 19 8 1,zq 20 147 [19],zv 4 20]
def a3J:List Seg:=[zv 21 4,zK 22 .neq 21 0]
def a3K:List Seg:=[zv 23 4,zv 2 23]
def a3L:aB:=zd 22 (zs 6 2 a3K .ret) .skip
def a3M:aB:=zs 5 2 a3J a3L
def a3N:List Seg:=[zf 24 3 1,zl 25 24,zL 26 25,zM 27 0]
def a3O:List Seg:=[zB 28 .lss 27 26]
def a3P:List Seg:=[zI 29 13 25 27,zA 30 13 29,zo 6 (.alloc [.t (.str (bs [])),za,za,.t (.str (bs [])),.tt 3 [],.tt 13 [],.t (.bool false),za,.tt 8 [],.tt 5 [],za,.tt 6 [],za]),zS 13 6 30]
def a3Q:List Seg:=[zf 31 0 1,zl 32 31,zq 33 148 [32]]
def a3R:List Seg:=[zf 34 2 6,zA 35 8 34,zq 36 107 [35],zv 7 36]
def a3S:List Seg:=[zv 37 7,zK 38 .neq 37 0]
def a3T:List Seg:=[zv 39 7,zv 2 39]
def a3U:aB:=zd 38 (zs 13 2 a3T .ret) .skip
def a3V:aB:=zs 12 2 a3S a3U
def a3W:aB:=zd 33 (zs 11 4 a3R a3V) .skip
def a3X:List Seg:=[zf 40 11 6,zl 41 40,zL 42 41,zM 43 0]
def a3Y:List Seg:=[zB 44 .lss 43 42]
def a3Z:List Seg:=[zI 45 6 41 43,zA 46 6 45,zo 9 (.alloc [za,za,za,.t (.str (bs [])),.tt 1 [],.tt 6 []]),zS 6 9 46]
def a30:List Seg:=[zA 47 6 9,zq 48 149 [47],zv 10 48]
def a34:List Seg:=[zv 49 10,zK 50 .neq 49 0]
def a36:List Seg:=[zv 51 10,zv 2 51]
def a38:aB:=zd 50 (zs 19 2 a36 .ret) .skip
def a4a:aB:=zs 18 2 a34 a38
def a4b:aB:=zs 17 3 a30 a4a
def a4c:List Seg:=[zK 52 .add 43 1,zv 43 52]
def a4d:aB:= .seq (.block 3 (zs 16 4 a3Z a4b)) (zr 20 2 a4c)
def a4e:aB:= .seq (zd 44 .skip (.exit 2)) a4d
def a4f:aB:=zs 15 1 a3Y a4e
def a4g:aB:= .block 2 (.loop a4f)
def a1H:aB:=zs 14 4 a3X a4g
def a4h:aB:= .seq (zs 10 3 a3Q a3W) a1H
def a1I:List Seg:=[zK 53 .add 27 1,zv 27 53]
def a4i:aB:= .seq (.block 1 (zs 9 4 a3P a4h)) (zr 21 2 a1I)
def a4j:aB:= .seq (zd 28 .skip (.exit 0)) a4i
def a4k:aB:=zs 8 1 a3O a4j
def a4l:aB:= .block 0 (.loop a4k)
def a4m:List Seg:=[zf 54 6 1,zl 55 54,zL 56 55,zM 57 0]
def a4n:List Seg:=[zB 58 .lss 57 56]
def a4o:List Seg:=[zI 59 8 55 57,zA 60 8 59,zo 12 (.alloc [za,.t (.str (bs [])),.tt 3 [],.tt 13 [],.t (.bool false),za,.tt 8 [],.tt 5 []]),zS 8 12 60]
def a4p:List Seg:=[zA 61 8 12,zq 62 107 [61],zv 13 62]
def a4q:List Seg:=[zv 63 13,zK 64 .neq 63 0]
def a4r:List Seg:=[zv 65 13,zv 2 65]
def a4s:aB:=zd 64 (zs 27 2 a4r .ret) .skip
def a4t:aB:=zs 26 2 a4q a4s
def a4u:aB:=zs 25 3 a4p a4t
def a4v:List Seg:=[zK 66 .add 57 1,zv 57 66]
def a4w:aB:= .seq (.block 5 (zs 24 4 a4o a4u)) (zr 28 2 a4v)
def a4x:aB:= .seq (zd 58 .skip (.exit 4)) a4w
def a4y:aB:=zs 23 1 a4n a4x
def a4z:aB:= .block 4 (.loop a4y)
def a4A:List Seg:=[zM 2 0]
def a1J:aB:= .seq (zs 22 4 a4m a4z) (zs 29 1 a4A .ret)
def a4B:aB:= .seq (zs 7 4 a3N a4l) a1J
def a4C:aB:= .seq (zs 4 3 a3I a3M) a4B
def a4D:aB:= .seq (zs 1 3 a3D a3H) a4C
def c107:aB:=zs 0 2 a3C a4D
theorem k107:Compiled prog 107 67 [.tmp 2] c107:=kMk [] func107
def c108:aB:=zs 0 1 [zW 4 false] (zs 1 8 [zv 6 0,zC 7 6,zf 8 8 7,zl 9 8,zv 10 1,zI 11 1 9 10,zl 12 11,zv 5 12] (.seq (zs 2 9 [zv 13 0,zC 14 13,zf 15 0 14,zf 16 7 15,zl 17 16,zv 18 1,zI 19 5 17 18,zf 20 0 19,zl 21 20] (.block 0 (zs 3 2 [zK 23 .eql 21 0,zv 22 23] (zd 22 (zs 4 11 [zv 24 5,zK 25 .eql 24 0,zv 26 25,.grp 26 false [zg 27 (zm 5) 26 false,zg 28 (zU .eql 27 3) 26 false],zQ 29 26 28,zv 30 29,.grp 30 false [zg 31 (zm 5) 30 false,zg 32 (zU .eql 31 4) 30 false],zQ 33 30 32,zv 4 33] .ret) (zs 5 2 [zK 35 .eql 21 1,zv 34 35] (zd 34 (zs 6 7 [zv 36 5,zK 37 .eql 36 1,zv 38 37,.grp 38 false [zg 39 (zm 5) 38 false,zg 40 (zU .eql 39 4) 38 false],zQ 41 38 40,zv 4 41] .ret) (zs 7 2 [zK 43 .eql 21 2,zv 42 43] (zd 42 (zs 8 7 [zv 44 5,zK 45 .eql 44 1,zv 46 45,.grp 46 false [zg 47 (zm 5) 46 false,zg 48 (zU .eql 47 2) 46 false],zQ 49 46 48,zv 4 49] .ret) (zs 9 2 [zK 51 .eql 21 3,zv 50 51] (zd 50 (zs 10 11 [zv 52 5,zK 53 .eql 52 1,zv 54 53,.br 54 true [zg 55 (zm 0) 54 true,zg 56 (.nilc (.tmp 55)) 54 true,zg 57 (zF 0 56) 54 true,zg 58 (zF 0 57) 54 true,zg 59 (zy 58) 54 true,zg 60 (zU .eql 59 6) 54 true],zP 61 54 60,zv 4 61] .ret) .skip)))))))))) (zs 11 1 [zW 4 true] .ret)))
theorem k108:Compiled prog 108 62 [.tmp 4] c108:=kMk [] func108
def c109:aB:=zs 0 1 [zo 4 (.alloc [za,za])] (.seq (zs 1 7 [zv 5 0,zC 6 5,zf 7 8 6,zl 8 7,zv 9 1,zI 10 1 8 9,zl 11 10] (.block 0 (zs 2 2 [zK 13 .eql 11 3,zv 12 13] (zd 12 (zs 3 7 [zv 14 0,zC 15 14,zf 16 0 15,zA 17 8 16,zq 18 91 [17],zo 19 (.build [za,za] [(1,(1,.tmp 18))]),zS 2 4 19] .ret) (zs 4 2 [zK 21 .eql 11 4,zv 20 21] (zd 20 (zs 5 2 [zo 22 (.build [za,za] [(1,(1,zi 127))]),zS 2 4 22] .ret) .skip)))))) (zs 6 2 [zo 23 (.build [za,za] [(0,(1,zi (-1152921504606846976))),(1,(1,zi 1152921504606846976))]),zS 2 4 23] .ret))
theorem k109:Compiled prog 109 24 [.cell 4 2 true] c109:=kMk [] func109
def b5u:aB:=zd 42 (zs 7 8 [zv 49 0,zC 50 49,zf 51 0 50,zf 52 1 51,zl 53 52,zv 54 5,zq 55 152 [53,54],zv 4 55] .ret) .skip
def b5v:aB:=zd 32 (zs 5 4 [zv 39 5,zc 40 151 [.tmp 39,.con (.one (.t (.str (bs [48,49]))))],zo 41 (.bin .eql false (.tmp 40) zu),zv 4 41] .ret) (zs 6 7 [zv 43 0,zC 44 43,zf 45 0 44,zf 46 0 45,zl 47 46,zK 48 .eql 47 6,zv 42 48] b5u)
def b5w:aB:=zd 15 (zs 3 9 [zv 24 5,zo 25 (.bin .neq false (.tmp 24) zu),zv 26 25,.br 26 true [zg 27 (zm 5) 26 true,zg 28 (.lW (.tmp 27)) 26 true,.mk (some 29) (.call 122 [.tmp 28,.con (.one (.fn 150 []))]) (some (26,true)),zg 30 (zV 29) 26 true],zP 31 26 30,zv 4 31] .ret) (zs 4 7 [zv 33 0,zC 34 33,zf 35 0 34,zf 36 0 35,zl 37 36,zK 38 .eql 37 4,zv 32 38] b5v)
def b5x:aB:= .seq (.block 0 (zs 2 9 [zv 16 0,zC 17 16,zf 18 8 17,zl 19 18,zv 20 1,zI 21 1 19 20,zl 22 21,zK 23 .eql 22 4,zv 15 23] b5w)) (zs 8 1 [zW 4 true] .ret)
def b5y:aB:=zs 1 10 [zv 6 0,zC 7 6,zf 8 0 7,zf 9 7 8,zl 10 9,zv 11 1,zI 12 5 10 11,zf 13 3 12,zl 14 13,zv 5 14] b5x
def c110:aB:=zs 0 1 [zW 4 false] b5y
theorem k110:Compiled prog 110 56 [.tmp 4] c110:=kMk [] func110
def c118:aB:=zs 0 2 [zX 1 6 0,zM 2 0] (zs 1 3 [zo 4 (.build [za,.t (.bool false)] [(0,(1,zi 120))]),zX 5 2 4,zv 3 5] (.seq (zs 2 3 [zv 6 3,zA 7 6 1,zc 8 145 [.tmp 6,.tmp 7,zi 8]] (zs 3 4 [zv 9 3,zC 10 9,zf 11 1 10,zl 12 11] (zd 12 (zs 4 1 [zM 2 2] .ret) .skip))) (zs 5 3 [zA 13 6 1,zq 14 149 [13],zv 2 14] .ret)))
theorem k118:Compiled prog 118 15 [.tmp 2] c118:=kMk [] func118
def c119:aB:=zs 0 3 [zX 2 8 0,zX 3 6 1,zW 4 false] (zs 1 2 [zo 6 (.bslice 1 15 [za,za,za,za,za,za,za,za,za,za,za,za,za,za,za] [(0,(1,zi 0)),(1,(1,zi 1)),(2,(1,zi 2)),(3,(1,zi 3)),(4,(1,zi 4)),(5,(1,zi 5)),(6,(1,zi 6)),(7,(1,zi 7)),(8,(1,zi 8)),(9,(1,zi 9)),(10,(1,zi 11)),(11,(1,zi 12)),(12,(1,zi 13)),(13,(1,zi 14)),(14,(1,zi 16))]),zv 5 6] (.seq (zs 2 8 [zf 7 0 3,zl 8 7,zK 9 .eql 8 9,zv 10 9,.grp 10 true [zg 11 (zF 0 2) 10 true,zg 12 (zy 11) 10 true,zg 13 (zU .eql 12 10) 10 true],zP 14 10 13] (zd 14 (zs 3 1 [zW 4 true] .ret) .skip)) (.seq (.region 4 true 21 [zv 15 5,zf 16 0 3,zl 17 16,zI 18 1 15 17,zl 19 18,zf 20 0 2,zl 21 20,zB 22 .eql 19 21,zv 23 22,.grp 23 true [zg 24 (zF 0 2) 23 true,zg 25 (zy 24) 23 true,zg 26 (zU .neq 25 6) 23 true,zg 27 (zm 26) 23 true],.br 27 false [zg 28 (zF 1 2) 27 false,zg 29 (zy 28) 27 false,zg 30 (zF 3 3) 27 false,zg 31 (zy 30) 27 false,.mk (some 32) (zw 152 [29,31]) (some (27,false))],.grp 23 true [zg 33 (.pick (.tmp 27) (zb true) (.tmp 32)) 23 true],zP 34 23 33,zv 4 34]) .ret)))
theorem k119:Compiled prog 119 35 [.tmp 4] c119:=kMk [] func119
def c124:aB:=zs 0 1 [zW 4 false] (zs 1 5 [zv 5 0,zv 6 1,zq 7 157 [5,6],zK 8 .geq 7 0,zv 4 8] .ret)
theorem k124:Compiled prog 124 9 [.tmp 4] c124:=kMk [] func124
def c125:aB:=zs 0 1 [zW 4 false] (zs 1 5 [zl 5 1,zv 6 0,zA 7 6 2,zq 8 72 [5,6,7],zv 4 8] .ret)
theorem k125:Compiled prog 125 9 [.tmp 4] c125:=kMk [] func125
def b5z:List Seg:=[zW 4 false]
def b5A:List Seg:=[zv 5 0,zC 6 5,zf 7 0 6,zl 8 7,zK 9 .sub 8 1,zC 10 5,zf 11 0 10,zS 1 11 9]
def b5B:List Seg:=[zv 12 0,zv 13 0,zC 14 13,zf 15 1 14,zl 16 15,zv 17 16,.br 17 false [zg 18 (zm 0) 17 false,zg 19 (.nilc (.tmp 18)) 17 false,zg 20 (zF 0 19) 17 false,zg 21 (zy 20) 17 false,zg 22 (zU .lss 21 0) 17 false],zQ 23 17 22,zv 24 23,.grp 24 false [zg 25 (zm 1) 24 false,zg 26 (zU .lss 25 1) 24 false],zQ 27 24 26,zC 28 12,zf 29 1 28,zS 1 29 27]
def b5C:List Seg:=[zv 30 0,zC 31 30,zf 32 1 31,zl 33 32,zN 34 33,zv 4 34]
def c144:aB:=zs 0 1 b5z (zs 1 8 b5A (zs 2 19 b5B (zs 3 6 b5C .ret)))
theorem k144:Compiled prog 144 35 [.tmp 4] c144:=kMk [] func144
def b5D:List Seg:=[zX 4 6 1]
def b5E:List Seg:=[zv 8 0,zv 9 2,zq 10 144 [8,9],zN 11 10]
def b5F:List Seg:=[zf 12 5 4,zl 13 12,zL 14 13,zM 15 0]
def a8R:List Seg:=[zB 16 .lss 15 14]
def b5G:List Seg:=[zI 17 6 13 15,zA 18 6 17,zo 7 (.alloc [za,za,za,.t (.str (bs [])),.tt 1 [],.tt 6 []]),zS 6 7 18]
def b5H:List Seg:=[zv 19 0,zC 20 19,zf 21 1 20,zl 22 21]
def b5I:List Seg:=[zv 23 0,zA 24 6 7,zv 25 2,zK 26 .sub 25 1,zq 27 145 [23,24,26]]
def b5J:List Seg:=[zK 28 .add 15 1,zv 15 28]
def a8S:aB:=zs 3 1 a8R (.seq (zd 16 .skip (.exit 0)) (.seq (.block 1 (zs 4 4 b5G (.seq (zs 5 4 b5H (zd 22 .ret .skip)) (zr 6 5 b5I)))) (zr 7 2 b5J)))
def c145:aB:=zs 0 1 b5D (.seq (zs 1 4 b5E (zd 11 .ret .skip)) (zs 2 4 b5F (.block 0 (.loop a8S))))
theorem k145:Compiled prog 145 29 [] c145:=kMk [] func145
def b5K:List Seg:=[zX 1 8 0,zM 2 0]
def b5L:List Seg:=[zf 7 0 1,zl 8 7,zc 9 170 [.tmp 8,zi 0,zi 15],zN 10 9]
def b5M:List Seg:=[zM 2 4]
def b5N:List Seg:=[zf 11 2 1,zl 12 11,zL 13 12,zK 14 .gtr 13 3,zv 15 14,.grp 15 false [zg 16 (zF 3 1) 15 false,zg 17 (zy 16) 15 false,zg 18 (.len false (.tmp 17)) 15 false,zg 19 (zU .gtr 18 16) 15 false],zQ 20 15 19,zv 21 20,.grp 21 false [zg 22 (zF 0 1) 21 false,zg 23 (zy 22) 21 false,zg 24 (zU .eql 23 15) 21 false,zg 25 (zm 24) 21 false],.grp 25 true [zg 26 (zF 3 1) 25 true,zg 27 (zy 26) 25 true,zg 28 (.len false (.tmp 27)) 25 true,zg 29 (zU .gtr 28 4) 25 true],.grp 21 false [zg 30 (.pick (.tmp 25) (.tmp 29) (zb false)) 21 false],zQ 31 21 30]
def b5O:List Seg:=[zM 2 2]
def b5P:List Seg:=[zf 32 2 1,zl 33 32,zL 34 33,zM 35 0]
def a8T:List Seg:=[zB 36 .lss 35 34]
def b5Q:List Seg:=[zI 37 3 33 35,zA 38 3 37,zo 4 (.alloc [za,za,za]),zS 3 4 38]
def b5R:List Seg:=[zf 39 0 4,zl 40 39,zc 41 170 [.tmp 40,zi 1,zi 3],zN 42 41,zv 43 42,.br 43 false [zg 44 (zF 1 4) 43 false,zg 45 (zy 44) 43 false,.mk (some 46) (.call 170 [.tmp 45,zi 0,zi 100000]) (some (43,false)),zg 47 (zV 46) 43 false],zQ 48 43 47,zv 49 48,.br 49 false [zg 50 (zF 2 4) 49 false,zg 51 (zy 50) 49 false,.mk (some 52) (.call 170 [.tmp 51,zi 0,zi 2]) (some (49,false)),zg 53 (zV 52) 49 false],zQ 54 49 53]
def a5U:List Seg:=[zM 2 3]
def b5S:List Seg:=[zK 55 .add 35 1,zv 35 55]
def a8U:aB:=zs 6 1 a8T (.seq (zd 36 .skip (.exit 0)) (.seq (.block 1 (zs 7 4 b5Q (zs 8 16 b5R (zd 54 (zs 9 1 a5U .ret) .skip)))) (zr 10 2 b5S)))
def b5T:List Seg:=[zf 56 3 1,zl 57 56,zL 58 57,zM 59 0]
def a8V:List Seg:=[zB 60 .lss 59 58]
def b5U:List Seg:=[zI 61 13 57 59,zA 62 13 61,zo 6 (.alloc [.t (.str (bs [])),za,za,.t (.str (bs [])),.tt 3 [],.tt 13 [],.t (.bool false),za,.tt 8 [],.tt 5 [],za,.tt 6 [],za]),zS 13 6 62]
def b5V:List Seg:=[zf 63 10 6,zl 64 63,zc 65 170 [.tmp 64,zi 0,zi 2],zN 66 65,zv 67 66,.grp 67 false [zg 68 (zF 12 6) 67 false,zg 69 (zy 68) 67 false,zg 70 (zU .lss 69 0) 67 false],zQ 71 67 70]
def b5W:List Seg:=[zM 2 3]
def b5X:List Seg:=[zK 72 .add 59 1,zv 59 72]
def a8W:aB:=zs 12 1 a8V (.seq (zd 60 .skip (.exit 2)) (.seq (.block 3 (zs 13 4 b5U (zs 14 9 b5V (zd 71 (zs 15 1 b5W .ret) .skip)))) (zr 16 2 b5X)))
def b5Y:List Seg:=[zf 73 5 1,zl 74 73,zf 75 3 1,zl 76 75,zL 77 76,zc 78 170 [.tmp 74,zi 0,.tmp 77],zc 79 171 [.tmp 78,zi 3],zv 2 79]
def c146:aB:=zs 0 2 b5K (.seq (zs 1 4 b5L (zd 10 (zs 2 1 b5M .ret) .skip)) (.seq (zs 3 21 b5N (zd 31 (zs 4 1 b5O .ret) .skip)) (.seq (zs 5 4 b5P (.block 0 (.loop a8U))) (.seq (zs 11 4 b5T (.block 2 (.loop a8W))) (zs 17 8 b5Y .ret)))))
theorem k146:Compiled prog 146 80 [.tmp 2] c146:=kMk [] func146
def a5V:aB:=zd 130 (zs 7 1 [zM 2 5] .ret) .skip
def a5W:aB:=zd 141 (zs 10 2 [zv 142 7,zv 2 142] .ret) .skip
def a5X:aB:=zs 9 2 [zv 140 7,zK 141 .neq 140 0] a5W
def a4E:aB:= .seq (.seq (.region 8 true 10 [zA 131 8 1,zq 132 180 [131],zc 133 171 [.tmp 132,zi 6],zA 134 8 1,zq 135 181 [134],zA 136 8 1,zq 137 182 [136],zo 138 (.bslice 1 3 [za,za,za] [(0,(1,.tmp 133)),(1,(1,.tmp 135)),(2,(1,.tmp 137))]),zq 139 179 [138],zv 7 139]) a5X) (zs 11 10 [zf 143 0 1,zl 144 143,zK 145 .neq 144 3,zv 146 145,.br 146 false [zg 147 (zF 3 1) 146 false,zg 148 (zy 147) 146 false,.mk (some 149) (.call 173 [.tmp 148,.con (.one (.fn 183 []))]) (some (146,false)),zg 150 (zV 149) 146 false],zQ 151 146 150,zv 8 151] (zs 12 14 [zf 152 0 1,zl 153 152,zq 154 172 [153],zN 155 154,zv 156 155,.br 156 false [zg 157 (zt 8 1) 156 false,.mk (some 158) (zw 185 [157]) (some (156,false))],zQ 159 156 158,zc 160 171 [.tmp 159,zi 14],zv 161 8,zc 162 171 [.tmp 161,zi 3],zo 163 (.bslice 1 2 [za,za] [(0,(1,.tmp 160)),(1,(1,.tmp 162))]),zq 164 179 [163],zv 2 164] .ret))
def a4F:aB:= .seq (zs 6 73 [zv 58 3,zN 59 58,zv 60 59,.grp 60 true [zg 61 (zF 1 1) 60 true,zg 62 (zy 61) 60 true,zg 63 (.bin .neq false (.tmp 62) zu) 60 true],zP 64 60 63,zv 65 64,.grp 65 false [zg 66 (zm 5) 65 false,zg 67 (zV 66) 65 false,zg 68 (zm 67) 65 false],.grp 68 true [zg 69 (zF 3 1) 68 true,zg 70 (zy 69) 68 true,zg 71 (.len false (.tmp 70)) 68 true,zg 72 (zU .gtr 71 0) 68 true],.grp 65 false [zg 73 (.pick (.tmp 68) (.tmp 72) (zb false)) 65 false],zQ 74 65 73,zv 75 74,.grp 75 false [zg 76 (zm 4) 75 false,zg 77 (zV 76) 75 false,zg 78 (zm 77) 75 false],.grp 78 true [zg 79 (zF 4 1) 78 true,zg 80 (zy 79) 78 true,zg 81 (zm 80) 78 true],.grp 81 false [zg 82 (zF 5 1) 81 false,zg 83 (zy 82) 81 false,zg 84 (zU .neq 83 0) 81 false],.grp 78 true [zg 85 (.pick (.tmp 81) (zb true) (.tmp 84)) 78 true],.grp 75 false [zg 86 (.pick (.tmp 78) (.tmp 85) (zb false)) 75 false],zQ 87 75 86,zv 88 87,.grp 88 false [zg 89 (zm 4) 88 false,zg 90 (zm 89) 88 false],.grp 90 true [zg 91 (zF 4 1) 90 true,zg 92 (zy 91) 90 true,zg 93 (zV 92) 90 true],.grp 88 false [zg 94 (.pick (.tmp 90) (.tmp 93) (zb false)) 88 false,zg 95 (zm 94) 88 false],.grp 95 true [zg 96 (zF 5 1) 95 true,zg 97 (zy 96) 95 true,zg 98 (zF 3 1) 95 true,zg 99 (zy 98) 95 true,zg 100 (.len false (.tmp 99)) 95 true,zg 101 (zO .neq 97 100) 95 true],.grp 88 false [zg 102 (.pick (.tmp 95) (.tmp 101) (zb false)) 88 false],zQ 103 88 102,zv 104 103,.br 104 false [zg 105 (zF 0 1) 104 false,zg 106 (zy 105) 104 false,.mk (some 107) (zw 177 [106]) (some (104,false)),zg 108 (zV 107) 104 false,zg 109 (zm 108) 104 false],.grp 109 true [zg 110 (zF 6 1) 109 true,zg 111 (zy 110) 109 true,zg 112 (.len false (.tmp 111)) 109 true,zg 113 (zU .gtr 112 0) 109 true],.grp 104 false [zg 114 (.pick (.tmp 109) (.tmp 113) (zb false)) 104 false],zQ 115 104 114,zv 116 115,.br 116 false [zg 117 (zF 0 1) 116 false,zg 118 (zy 117) 116 false,.mk (some 119) (zw 178 [118]) (some (116,false)),zg 120 (zV 119) 116 false,zg 121 (zm 120) 116 false],.grp 121 true [zg 122 (zF 7 1) 121 true,zg 123 (zy 122) 121 true,zg 124 (.len false (.tmp 123)) 121 true,zg 125 (zU .gtr 124 0) 121 true],.grp 116 false [zg 126 (.pick (.tmp 121) (.tmp 125) (zb false)) 116 false],zQ 127 116 126,zv 128 127,.grp 128 false [zg 129 (zm 6) 128 false],zQ 130 128 129] a5V) a4E
def a5Y:aB:=zs 5 14 [zv 45 6,zv 46 45,.br 46 false [zg 47 (zF 3 1) 46 false,zg 48 (zy 47) 46 false,zg 49 (zF 5 1) 46 false,zg 50 (zy 49) 46 false,zg 51 (zF 3 1) 46 false,zg 52 (zy 51) 46 false,zg 53 (.len false (.tmp 52)) 46 false,zg 54 (.mm false [.tmp 50,.tmp 53]) 46 false,zg 55 (.sl false 13 (.tmp 48) none (some (.tmp 54)) none) 46 false,.mk (some 56) (.call 173 [.tmp 55,.con (.one (.fn 176 []))]) (some (46,false))],zQ 57 46 56,zv 6 57] a4F
def a5Z:aB:=zs 4 5 [zf 41 3 1,zl 42 41,zo 43 (.mkfn 174 [.tmp 1]),zq 44 173 [42,43],zv 6 44] a5Y
def a50:aB:=zs 3 12 [zv 30 4,zv 31 30,.grp 31 false [zg 32 (zF 0 1) 31 false,zg 33 (zy 32) 31 false,zg 34 (zU .eql 33 14) 31 false],zQ 35 31 34,zv 36 35,.grp 36 false [zg 37 (zF 0 1) 36 false,zg 38 (zy 37) 36 false,zg 39 (zU .eql 38 15) 36 false],zQ 40 36 39,zv 5 40] a5Z
def a52:aB:=zs 2 9 [zf 22 0 1,zl 23 22,zq 24 172 [23],zv 25 24,.grp 25 false [zg 26 (zF 0 1) 25 false,zg 27 (zy 26) 25 false,zg 28 (zU .eql 27 3) 25 false],zQ 29 25 28,zv 4 29] a50
def a55:aB:=zs 1 14 [zf 9 0 1,zl 10 9,zK 11 .eql 10 6,zv 12 11,.grp 12 false [zg 13 (zF 0 1) 12 false,zg 14 (zy 13) 12 false,zg 15 (zU .eql 14 14) 12 false],zQ 16 12 15,zv 17 16,.grp 17 false [zg 18 (zF 0 1) 17 false,zg 19 (zy 18) 17 false,zg 20 (zU .eql 19 15) 17 false],zQ 21 17 20,zv 3 21] a52
def c147:aB:=zs 0 2 [zX 1 8 0,zM 2 0] a55
theorem k147:Compiled prog 147 165 [.tmp 2] c147:=kMk [] func147
def a8X:aB:=zd 10 (zs 3 2 [zv 11 3,zv 2 11] .ret) .skip
def a8Y:aB:=zs 2 2 [zv 9 3,zK 10 .neq 9 0] a8X
def a8Z:aB:=zd 22 (zs 9 2 [zv 23 6,zv 2 23] .ret) .skip
def a81:aB:=zs 8 2 [zv 21 6,zK 22 .neq 21 0] a8Z
def a83:aB:=zs 7 3 [zA 19 6 5,zq 20 149 [19],zv 6 20] a81
def a84:aB:= .seq (.block 1 (zs 6 4 [zI 17 6 13 15,zA 18 6 17,zo 5 (.alloc [za,za,za,.t (.str (bs [])),.tt 1 [],.tt 6 []]),zS 6 5 18] a83)) (zr 10 2 [zK 24 .add 15 1,zv 15 24])
def a86:aB:= .seq (zd 16 .skip (.exit 0)) a84
def a88:aB:=zs 5 1 [zB 16 .lss 15 14] a86
def a89:aB:= .block 0 (.loop a88)
def a9a:aB:= .seq (zs 4 4 [zf 12 5 1,zl 13 12,zL 14 13,zM 15 0] a89) (zs 11 1 [zM 2 0] .ret)
def a9b:aB:= .seq (zs 1 3 [zA 7 6 1,zq 8 186 [7],zv 3 8] a8Y) a9a
def c149:aB:=zs 0 2 [zX 1 6 0,zM 2 0] a9b
theorem k149:Compiled prog 149 25 [.tmp 2] c149:=kMk [] func149
def d0B:aB:=zs 2 1 [zB 9 .lss 8 7] (.seq (zd 9 .skip (.exit 0)) (.seq (.block 1 (zs 3 2 [zv 10 8,zv 5 10] (zs 4 6 [zv 11 1,zv 12 0,zv 13 5,zI 14 1 12 13,zl 15 14,.one (.mk (some 16) (.callv (.tmp 11) [.tmp 15]) none)] (zd 16 (zs 5 2 [zv 17 5,zv 4 17] .ret) .skip)))) (zr 6 2 [zK 18 .add 8 1,zv 8 18])))
def c157:aB:=zs 0 1 [zM 4 0] (.seq (zs 1 3 [zv 6 0,zL 7 6,zM 8 0] (.block 0 (.loop d0B))) (zs 7 1 [zM 4 (-1)] .ret))
theorem k157:Compiled prog 157 19 [.tmp 4] c157:=kMk [] func157
def c170:aB:=zs 0 1 [zW 6 false] (zs 1 9 [zv 7 1,zv 8 0,zB 9 .leq 7 8,zv 10 9,.grp 10 true [zg 11 (zm 0) 10 true,zg 12 (zm 2) 10 true,zg 13 (zO .leq 11 12) 10 true],zP 14 10 13,zv 6 14] .ret)
theorem k170:Compiled prog 170 15 [.tmp 6] c170:=kMk [] func170
def c171:aB:=zs 0 1 [zM 4 0] (.seq (zs 1 1 [zv 5 0] (zd 5 (zs 2 1 [zM 4 0] .ret) .skip)) (zs 3 2 [zv 6 1,zv 4 6] .ret))
theorem k171:Compiled prog 171 7 [.tmp 4] c171:=kMk [] func171
def c172:aB:=zs 0 1 [zW 2 false] (zs 1 7 [zv 3 0,zq 4 212 [3],zv 5 4,.grp 5 false [zg 6 (zm 0) 5 false,zg 7 (zU .eql 6 13) 5 false],zQ 8 5 7,zv 2 8] .ret)
theorem k172:Compiled prog 172 9 [.tmp 2] c172:=kMk [] func172
def a9c:List Seg:=[zW 4 false]
def d0C:List Seg:=[zv 5 0,zv 6 1,zq 7 213 [5,6],zK 8 .geq 7 0,zv 4 8]
def c173:aB:=zs 0 1 a9c (zs 1 5 d0C .ret)
theorem k173:Compiled prog 173 9 [.tmp 4] c173:=kMk [] func173
def c177:aB:=zs 0 1 [zW 2 false] (zs 1 7 [zv 3 0,zK 4 .eql 3 11,zv 5 4,.grp 5 false [zg 6 (zm 0) 5 false,zg 7 (zU .eql 6 12) 5 false],zQ 8 5 7,zv 2 8] .ret)
theorem k177:Compiled prog 177 9 [.tmp 2] c177:=kMk [] func177
def c178:aB:=zs 0 1 [zW 2 false] (zs 1 8 [zv 3 0,zq 4 177 [3],zv 5 4,.br 5 false [zg 6 (.bslice 1 5 [za,za,za,za,za] [(0,(1,zi 2)),(1,(1,zi 4)),(2,(1,zi 5)),(3,(1,zi 6)),(4,(1,zi 15))]) 5 false,zg 7 (zm 0) 5 false,.mk (some 8) (zw 215 [6,7]) (some (5,false))],zQ 9 5 8,zv 2 9] .ret)
theorem k178:Compiled prog 178 10 [.tmp 2] c178:=kMk [] func178
def b5Z:aB:=zs 2 1 [zB 8 .lss 7 6] (.seq (zd 8 .skip (.exit 0)) (.seq (.block 1 (zs 3 3 [zI 9 1 5 7,zl 10 9,zv 4 10] (zs 4 2 [zv 11 4,zK 12 .neq 11 0] (zd 12 (zs 5 2 [zv 13 4,zv 2 13] .ret) .skip)))) (zr 6 2 [zK 14 .add 7 1,zv 7 14])))
def c179:aB:=zs 0 1 [zM 2 0] (.seq (zs 1 3 [zv 5 0,zL 6 5,zM 7 0] (.block 0 (.loop b5Z))) (zs 7 1 [zM 2 0] .ret))
theorem k179:Compiled prog 179 15 [.tmp 2] c179:=kMk [] func179
def a9d:aB:=zd 28 (zs 2 1 [zW 2 false] .ret) .skip
def a9e:aB:=zd 56 (zs 5 1 [zW 2 false] .ret) .skip
def a9f:aB:=zs 4 25 [zf 32 0 1,zl 33 32,zK 34 .eql 33 14,zv 35 34,.grp 35 true [zg 36 (zF 1 1) 35 true,zg 37 (zy 36) 35 true,zg 38 (.bin .eql false (.tmp 37) zu) 35 true,zg 39 (zm 38) 35 true],.grp 39 true [zg 40 (zm 3) 39 true,zg 41 (zU .gtr 40 0) 39 true],.grp 35 true [zg 42 (.pick (.tmp 39) (.tmp 41) (zb false)) 35 true,zg 43 (zm 42) 35 true],.grp 43 false [zg 44 (zF 1 1) 43 false,zg 45 (zy 44) 43 false,zg 46 (.bin .neq false (.tmp 45) zu) 43 false,zg 47 (zm 46) 43 false],.grp 47 true [zg 48 (zm 3) 47 true,zg 49 (zU .neq 48 2) 47 true],.grp 43 false [zg 50 (.pick (.tmp 47) (.tmp 49) (zb false)) 43 false,zg 51 (zm 50) 43 false],.grp 51 true [zg 52 (zm 3) 51 true,zg 53 (zU .neq 52 3) 51 true],.grp 43 false [zg 54 (.pick (.tmp 51) (.tmp 53) (zb false)) 43 false],.grp 35 true [zg 55 (.pick (.tmp 43) (zb true) (.tmp 54)) 35 true],zP 56 35 55] a9e
def a9g:aB:= .seq (zs 3 4 [zf 29 3 1,zl 30 29,zL 31 30,zv 3 31] a9f) (zs 6 1 [zo 4 (.mv (.con (.one (.fn 216 []))))] (zs 7 11 [zf 57 3 1,zl 58 57,zv 59 4,zq 60 173 [58,59],zN 61 60,zv 62 61,.br 62 true [zg 63 (zF 7 1) 62 true,zg 64 (zy 63) 62 true,.mk (some 65) (zw 217 [64]) (some (62,true))],zP 66 62 65,zv 2 66] .ret))
def a9h:aB:= .seq (zs 1 24 [zf 5 0 1,zl 6 5,zq 7 177 [6],zv 8 7,.grp 8 true [zg 9 (zF 6 1) 8 true,zg 10 (zy 9) 8 true,zg 11 (.len false (.tmp 10)) 8 true,zg 12 (zU .neq 11 1) 8 true],zP 13 8 12,zv 14 13,.grp 14 false [zg 15 (zF 0 1) 14 false,zg 16 (zy 15) 14 false,zg 17 (zU .eql 16 3) 14 false,zg 18 (zm 17) 14 false],.grp 18 false [zg 19 (zF 0 1) 18 false,zg 20 (zy 19) 18 false,zg 21 (zU .eql 20 13) 18 false],.grp 14 false [zg 22 (.pick (.tmp 18) (zb true) (.tmp 21)) 14 false,zg 23 (zm 22) 14 false],.grp 23 true [zg 24 (zF 5 1) 23 true,zg 25 (zy 24) 23 true,zg 26 (zU .lss 25 1) 23 true],.grp 14 false [zg 27 (.pick (.tmp 23) (.tmp 26) (zb false)) 14 false],zQ 28 14 27] a9d) a9g
def c180:aB:=zs 0 2 [zX 1 8 0,zW 2 false] a9h
theorem k180:Compiled prog 180 67 [.tmp 2] c180:=kMk [] func180
def b50:aB:=zd 28 (zs 8 1 [zM 2 7] .ret) .skip
def b51:aB:=zd 18 (zs 7 9 [zf 20 1 1,zl 21 20,zo 22 (.bin .neq false (.tmp 21) zu),zv 23 22,.br 23 true [zg 24 (zF 1 1) 23 true,zg 25 (zy 24) 23 true,.mk (some 26) (zw 219 [25]) (some (23,true)),zg 27 (zV 26) 23 true],zP 28 23 27] b50) .skip
def b52:aB:=zd 12 (zs 5 5 [zf 14 1 1,zl 15 14,zq 16 219 [15],zc 17 171 [.tmp 16,zi 7],zv 2 17] .ret) (zs 6 2 [zK 19 .eql 4 14,zv 18 19] b51)
def b53:aB:=zd 5 (zs 3 6 [zo 7 (.bslice 1 4 [.t (.str (bs [])),.t (.str (bs [])),.t (.str (bs [])),.t (.str (bs []))] [(0,(1,.con (.one (.t (.str (bs [78,117,109,101,114,105,99,83,116,114,105,110,103])))))),(1,(1,.con (.one (.t (.str (bs [80,114,105,110,116,97,98,108,101,83,116,114,105,110,103])))))),(2,(1,.con (.one (.t (.str (bs [86,105,115,105,98,108,101,83,116,114,105,110,103])))))),(3,(1,.con (.one (.t (.str (bs [73,65,53,83,116,114,105,110,103]))))))]),zf 8 1 1,zl 9 8,zq 10 218 [7,9],zc 11 171 [.tmp 10,zi 7],zv 2 11] .ret) (zs 4 2 [zK 13 .eql 4 15,zv 12 13] b52)
def b54:aB:= .block 0 (zs 2 2 [zK 6 .eql 4 6,zv 5 6] b53)
def b55:aB:= .seq (zs 1 2 [zf 3 0 1,zl 4 3] b54) (zs 9 6 [zf 29 3 1,zl 30 29,zc 31 173 [.tmp 30,.con (.one (.fn 220 []))],zN 32 31,zc 33 171 [.tmp 32,zi 7],zv 2 33] .ret)
def c181:aB:=zs 0 2 [zX 1 8 0,zM 2 0] b55
theorem k181:Compiled prog 181 34 [.tmp 2] c181:=kMk [] func181
def a9i:aB:=zd 12 (zs 2 1 [zM 2 0] .ret) .skip
def a9j:aB:=zd 26 (zs 7 1 [zM 2 13] .ret) .skip
def a9k:aB:=zs 6 6 [zf 21 3 1,zl 22 21,zv 23 3,zo 24 (.sl false 13 (.tmp 22) none (some (.tmp 23)) none),zo 25 (.mkfn 221 [.tmp 4,.tmp 1]),zq 26 173 [24,25]] a9j
def a9l:aB:= .seq (.block 1 (zs 5 6 [zv 18 16,zI 19 13 14 16,zA 20 13 19,zo 4 (.alloc [.t (.str (bs [])),za,za,.t (.str (bs [])),.tt 3 [],.tt 13 [],.t (.bool false),za,.tt 8 [],.tt 5 [],za,.tt 6 [],za]),zv 3 18,zS 13 4 20] a9k)) (zr 8 2 [zK 27 .add 16 1,zv 16 27])
def a9m:aB:= .seq (zd 17 .skip (.exit 0)) a9l
def a9n:aB:=zs 4 1 [zB 17 .lss 16 15] a9m
def a9o:aB:= .block 0 (.loop a9n)
def a9p:aB:= .seq (zs 3 4 [zf 13 3 1,zl 14 13,zL 15 14,zM 16 0] a9o) (zs 9 1 [zM 2 0] .ret)
def a9q:aB:= .seq (zs 1 8 [zf 5 0 1,zl 6 5,zK 7 .eql 6 15,zv 8 7,.grp 8 false [zg 9 (zF 0 1) 8 false,zg 10 (zy 9) 8 false,zg 11 (zU .eql 10 14) 8 false],zQ 12 8 11] a9i) a9p
def c182:aB:=zs 0 2 [zX 1 8 0,zM 2 0] a9q
theorem k182:Compiled prog 182 28 [.tmp 2] c182:=kMk [] func182
def c184:aB:=zs 0 1 [zW 2 false] (zs 1 3 [zv 3 0,zc 4 170 [.tmp 3,zi (-1152921504606846976),zi 1152921504606846976],zv 2 4] .ret)
theorem k184:Compiled prog 184 5 [.tmp 2] c184:=kMk [] func184
def b56:aB:=zd 44 (zs 7 1 [zW 2 false] .ret) .skip
def b57:aB:= .seq (zs 6 2 [zv 43 7,zN 44 43] b56) (.region 8 true 8 [zv 45 3,zf 46 12 6,zl 47 46,zo 48 (.mm true [.tmp 45,.tmp 47]),zf 49 12 6,zl 50 49,zv 3 48,zv 4 50])
def b58:aB:=zs 5 28 [zf 16 12 6,zl 17 16,zK 18 .eql 17 0,zv 19 18,.grp 19 false [zg 20 (zm 5) 19 false,zg 21 (zF 5 1) 19 false,zg 22 (zy 21) 19 false,zg 23 (zO .geq 20 22) 19 false,zg 24 (zm 23) 19 false],.grp 24 true [zg 25 (zF 12 6) 24 true,zg 26 (zy 25) 24 true,zg 27 (zm 3) 24 true,zg 28 (zU .add 27 1) 24 true,zg 29 (zO .eql 26 28) 24 true,zg 30 (zm 29) 24 true],.grp 30 false [zg 31 (zF 12 6) 30 false,zg 32 (zy 31) 30 false,zg 33 (zm 3) 30 false,zg 34 (zO .eql 32 33) 30 false,zg 35 (zm 34) 30 false],.grp 35 true [zg 36 (zm 4) 35 true,zg 37 (zm 3) 35 true,zg 38 (zO .eql 36 37) 35 true],.grp 30 false [zg 39 (.pick (.tmp 35) (.tmp 38) (zb false)) 30 false],.grp 24 true [zg 40 (.pick (.tmp 30) (zb true) (.tmp 39)) 24 true],.grp 19 false [zg 41 (.pick (.tmp 24) (.tmp 40) (zb false)) 19 false],zQ 42 19 41,zv 7 42] b57
def b59:aB:= .seq (.block 1 (zs 4 6 [zv 13 11,zI 14 13 9 11,zA 15 13 14,zo 6 (.alloc [.t (.str (bs [])),za,za,.t (.str (bs [])),.tt 3 [],.tt 13 [],.t (.bool false),za,.tt 8 [],.tt 5 [],za,.tt 6 [],za]),zv 5 13,zS 13 6 15] b58)) (zr 9 2 [zK 51 .add 11 1,zv 11 51])
def b6a:aB:= .seq (zd 12 .skip (.exit 0)) b59
def b6b:aB:=zs 3 1 [zB 12 .lss 11 10] b6a
def b6c:aB:= .block 0 (.loop b6b)
def b6d:aB:= .seq (zs 2 4 [zf 8 3 1,zl 9 8,zL 10 9,zM 11 0] b6c) (zs 10 1 [zW 2 true] .ret)
def b6e:aB:=zs 1 2 [zM 3 0,zM 4 0] b6d
def c185:aB:=zs 0 2 [zX 1 8 0,zW 2 false] b6e
theorem k185:Compiled prog 185 52 [.tmp 2] c185:=kMk [] func185
def a04:aB:=zd 13 (zs 2 1 [zM 2 4] .ret) .skip
def a05:aB:=zd 66 (zs 5 1 [zM 2 5] .ret) .skip
def a06:aB:=zd 69 (zs 7 1 [zM 2 3] .ret) .skip
def a07:aB:=zd 85 (zr 11 1 [zM 5 16]) .skip
def a08:aB:=zd 99 (zs 13 1 [zM 2 2] .ret) .skip
def a09:aB:=zd 102 (zs 15 1 [zM 2 6] .ret) .skip
def a1a:aB:=zd 124 (zs 19 1 [zM 2 17] .ret) .skip
def a1b:aB:=zd 148 (zs 21 1 [zM 2 7] .ret) .skip
def a1c:aB:=zd 162 (zs 26 1 [zM 2 13] .ret) .skip
def a1d:aB:=zs 25 6 [zf 157 4 1,zl 158 157,zv 159 8,zo 160 (.sl false 1 (.tmp 158) none (some (.tmp 159)) none),zv 161 9,zq 162 218 [160,161]] a1c
def a1e:aB:= .seq (.block 1 (zs 24 5 [zv 154 152,zI 155 1 150 152,zl 156 155,zv 8 154,zv 9 156] a1d)) (zr 27 2 [zK 163 .add 152 1,zv 152 163])
def a1f:aB:= .seq (zd 153 .skip (.exit 0)) a1e
def a1g:aB:=zs 23 1 [zB 153 .lss 152 151] a1f
def a1h:aB:= .block 0 (.loop a1g)
def a1i:aB:= .seq (zs 22 4 [zf 149 4 1,zl 150 149,zL 151 150,zM 152 0] a1h) (zs 28 10 [zf 164 0 1,zl 165 164,zK 166 .neq 165 11,zv 167 166,.br 167 false [zg 168 (zF 5 1) 167 false,zg 169 (zy 168) 167 false,.mk (some 170) (.call 229 [.tmp 169,.con (.one (.fn 230 []))]) (some (167,false))],zQ 171 167 170,zc 172 171 [.tmp 171,zi 14],zv 2 172] .ret)
def a1j:aB:= .seq (zs 20 24 [zf 125 0 1,zl 126 125,zK 127 .eql 126 3,zv 128 127,.grp 128 false [zg 129 (zF 0 1) 128 false,zg 130 (zy 129) 128 false,zg 131 (zU .eql 130 13) 128 false,zg 132 (zm 131) 128 false],.grp 132 true [zg 133 (zF 3 1) 132 true,zg 134 (zy 133) 132 true,zg 135 (.bin .neq false (.tmp 134) zu) 132 true],.grp 128 false [zg 136 (.pick (.tmp 132) (.tmp 135) (zb false)) 128 false],zQ 137 128 136,zv 138 137,.br 138 true [zg 139 (zF 3 1) 138 true,zg 140 (zy 139) 138 true,.mk (some 141) (zw 219 [140]) (some (138,true)),zg 142 (zV 141) 138 true],zP 143 138 142,zv 144 143,.br 144 false [zg 145 (zF 4 1) 144 false,zg 146 (zy 145) 144 false,.mk (some 147) (.call 227 [.tmp 146,.con (.one (.fn 228 []))]) (some (144,false))],zQ 148 144 147] a1b) a1i
def a1k:aB:= .seq (zs 18 4 [zv 121 6,zv 122 121,.grp 122 false [zg 123 (zm 7) 122 false],zQ 124 122 123] a1a) a1j
def a1l:aB:=zs 17 10 [zf 112 0 1,zl 113 112,zK 114 .eql 113 6,zv 115 114,.br 115 true [zg 116 (zF 3 1) 115 true,zg 117 (zy 116) 115 true,.mk (some 118) (.call 225 [.tmp 117,.con (.one (.fn 226 []))]) (some (115,true)),zg 119 (zU .geq 118 0) 115 true],zP 120 115 119,zv 7 120] a1k
def a1m:aB:=zs 16 10 [zf 103 0 1,zl 104 103,zK 105 .eql 104 4,zv 106 105,.br 106 true [zg 107 (zF 3 1) 106 true,zg 108 (zy 107) 106 true,.mk (some 109) (.call 151 [.tmp 108,.con (.one (.t (.str (bs [48,49]))))]) (some (106,true)),zg 110 (.bin .neq false (.tmp 109) zu) 106 true],zP 111 106 110,zv 6 111] a1l
def a1n:aB:= .seq (zs 14 3 [zA 100 6 1,zq 101 224 [100],zN 102 101] a09) a1m
def a1o:aB:= .seq (zs 12 14 [zv 86 4,zv 87 86,.grp 87 true [zg 88 (zF 3 1) 87 true,zg 89 (zy 88) 87 true,zg 90 (.len true (.tmp 89)) 87 true,zg 91 (zU .gtr 90 200) 87 true],zP 92 87 91,zv 93 92,.grp 93 false [zg 94 (zF 5 1) 93 false,zg 95 (zy 94) 93 false,zg 96 (.len false (.tmp 95)) 93 false,zg 97 (zm 5) 93 false,zg 98 (zO .gtr 96 97) 93 false],zQ 99 93 98] a08) a1n
def a1p:aB:= .seq (zs 10 3 [zf 83 0 1,zl 84 83,zK 85 .eql 84 9] a07) a1o
def a1q:aB:=zs 9 1 [zM 5 40] a1p
def a1r:aB:=zs 8 14 [zf 70 0 1,zl 71 70,zK 72 .eql 71 4,zv 73 72,.grp 73 false [zg 74 (zF 0 1) 73 false,zg 75 (zy 74) 73 false,zg 76 (zU .eql 75 5) 73 false],zQ 77 73 76,zv 78 77,.grp 78 false [zg 79 (zF 0 1) 78 false,zg 80 (zy 79) 78 false,zg 81 (zU .eql 80 6) 78 false],zQ 82 78 81,zv 4 82] a1q
def a1s:aB:= .seq (zs 6 3 [zA 67 6 1,zq 68 223 [67],zN 69 68] a06) a1r
def a1t:aB:= .seq (zs 4 50 [zf 17 0 3,zl 18 17,zN 19 18,zv 20 19,.grp 20 true [zg 21 (zF 1 1) 20 true,zg 22 (zy 21) 20 true,zg 23 (zU .neq 22 0) 20 true],zP 24 20 23,zv 25 24,.grp 25 false [zg 26 (zF 1 3) 25 false,zg 27 (zy 26) 25 false,zg 28 (zV 27) 25 false,zg 29 (zm 28) 25 false],.grp 29 true [zg 30 (zF 2 1) 29 true,zg 31 (zy 30) 29 true,zg 32 (zU .neq 31 0) 29 true],.grp 25 false [zg 33 (.pick (.tmp 29) (.tmp 32) (zb false)) 25 false],zQ 34 25 33,zv 35 34,.grp 35 false [zg 36 (zF 2 3) 35 false,zg 37 (zy 36) 35 false,zg 38 (zV 37) 35 false,zg 39 (zm 38) 35 false],.grp 39 true [zg 40 (zF 3 1) 39 true,zg 41 (zy 40) 39 true,zg 42 (.bin .neq false (.tmp 41) zu) 39 true],.grp 35 false [zg 43 (.pick (.tmp 39) (.tmp 42) (zb false)) 35 false],zQ 44 35 43,zv 45 44,.grp 45 false [zg 46 (zF 3 3) 45 false,zg 47 (zy 46) 45 false,zg 48 (zV 47) 45 false,zg 49 (zm 48) 45 false],.grp 49 true [zg 50 (zF 4 1) 49 true,zg 51 (zy 50) 49 true,zg 52 (.len false (.tmp 51)) 49 true,zg 53 (zU .gtr 52 0) 49 true],.grp 45 false [zg 54 (.pick (.tmp 49) (.tmp 53) (zb false)) 45 false],zQ 55 45 54,zv 56 55,.grp 56 false [zg 57 (zF 4 3) 56 false,zg 58 (zy 57) 56 false,zg 59 (zV 58) 56 false,zg 60 (zm 59) 56 false],.grp 60 true [zg 61 (zF 5 1) 60 true,zg 62 (zy 61) 60 true,zg 63 (.len false (.tmp 62)) 60 true,zg 64 (zU .gtr 63 0) 60 true],.grp 56 false [zg 65 (.pick (.tmp 60) (.tmp 64) (zb false)) 56 false],zQ 66 56 65] a05) a1s
def a1u:aB:=zs 3 5 [zf 14 0 1,zl 15 14,zq 16 222 [15],zo 3 (.alloc [.t (.bool false),.t (.bool false),.t (.bool false),.t (.bool false),.t (.bool false)]),zS 5 3 16] a1t
def a1v:aB:= .seq (zs 1 4 [zf 10 0 1,zl 11 10,zc 12 170 [.tmp 11,zi 0,zi 14],zN 13 12] a04) a1u
def c186:aB:=zs 0 2 [zX 1 6 0,zM 2 0] a1v
theorem k186:Compiled prog 186 173 [.tmp 2] c186:=kMk [] func186
def c212:aB:=zs 0 1 [zW 2 false] (zs 1 7 [zv 3 0,zK 4 .eql 3 9,zv 5 4,.grp 5 false [zg 6 (zm 0) 5 false,zg 7 (zU .eql 6 10) 5 false],zQ 8 5 7,zv 2 8] .ret)
theorem k212:Compiled prog 212 9 [.tmp 2] c212:=kMk [] func212
def a9r:List Seg:=[zM 4 0]
def a9s:List Seg:=[zv 6 0,zL 7 6,zM 8 0]
def a9t:List Seg:=[zB 9 .lss 8 7]
def a9u:List Seg:=[zv 10 8,zv 5 10]
def d0D:List Seg:=[zv 11 1,zv 12 0,zv 13 5,zI 14 13 12 13,zA 15 13 14,.one (.mk (some 16) (.callv (.tmp 11) [.tmp 15]) none)]
def a9v:List Seg:=[zv 17 5,zv 4 17]
def a9w:List Seg:=[zK 18 .add 8 1,zv 8 18]
def d0E:aB:=zs 2 1 a9t (.seq (zd 9 .skip (.exit 0)) (.seq (.block 1 (zs 3 2 a9u (zs 4 6 d0D (zd 16 (zs 5 2 a9v .ret) .skip)))) (zr 6 2 a9w)))
def a9x:List Seg:=[zM 4 (-1)]
def c213:aB:=zs 0 1 a9r (.seq (zs 1 3 a9s (.block 0 (.loop d0E))) (zs 7 1 a9x .ret))
theorem k213:Compiled prog 213 19 [.tmp 4] c213:=kMk [] func213
def c215:aB:=zs 0 1 [zW 4 false] (zs 1 5 [zv 5 0,zv 6 1,zq 7 254 [5,6],zK 8 .geq 7 0,zv 4 8] .ret)
theorem k215:Compiled prog 215 9 [.tmp 4] c215:=kMk [] func215
def c222:aB:=zs 0 1 [zo 2 (.alloc [.t (.bool false),.t (.bool false),.t (.bool false),.t (.bool false),.t (.bool false)])] (.seq (zs 1 1 [zv 3 0] (.block 0 (.seq (zs 2 2 [zK 5 .eql 3 1,zv 4 5] (zd 4 .skip (zs 3 2 [zK 6 .eql 3 2,zv 4 6] (zd 4 .skip (zr 4 2 [zK 7 .eql 3 14,zv 4 7]))))) (zd 4 (zs 5 2 [zo 8 (.build [.t (.bool false),.t (.bool false),.t (.bool false),.t (.bool false),.t (.bool false)] [(0,(1,zb true))]),zS 5 2 8] .ret) (.seq (zs 6 2 [zK 10 .eql 3 3,zv 9 10] (zd 9 .skip (zs 7 2 [zK 11 .eql 3 4,zv 9 11] (zd 9 .skip (zs 8 2 [zK 12 .eql 3 5,zv 9 12] (zd 9 .skip (zr 9 2 [zK 13 .eql 3 6,zv 9 13]))))))) (zd 9 (zs 10 2 [zo 14 (.build [.t (.bool false),.t (.bool false),.t (.bool false),.t (.bool false),.t (.bool false)] [(2,(1,zb true))]),zS 5 2 14] .ret) (.seq (zs 11 2 [zK 16 .eql 3 7,zv 15 16] (zd 15 .skip (zs 12 2 [zK 17 .eql 3 10,zv 15 17] (zd 15 .skip (zr 13 2 [zK 18 .eql 3 11,zv 15 18]))))) (zd 15 (zs 14 2 [zo 19 (.build [.t (.bool false),.t (.bool false),.t (.bool false),.t (.bool false),.t (.bool false)] [(4,(1,zb true))]),zS 5 2 19] .ret) (zs 15 2 [zK 21 .eql 3 8,zv 20 21] (zd 20 (zs 16 2 [zo 22 (.build [.t (.bool false),.t (.bool false),.t (.bool false),.t (.bool false),.t (.bool false)] [(0,(1,zb true)),(1,(1,zb true))]),zS 5 2 22] .ret) (.seq (zs 17 2 [zK 24 .eql 3 9,zv 23 24] (zd 23 .skip (zr 18 2 [zK 25 .eql 3 12,zv 23 25]))) (zd 23 (zs 19 2 [zo 26 (.build [.t (.bool false),.t (.bool false),.t (.bool false),.t (.bool false),.t (.bool false)] [(3,(1,zb true)),(4,(1,zb true))]),zS 5 2 26] .ret) (zs 20 2 [zK 28 .eql 3 13,zv 27 28] (zd 27 (zs 21 2 [zo 29 (.build [.t (.bool false),.t (.bool false),.t (.bool false),.t (.bool false),.t (.bool false)] [(2,(1,zb true)),(4,(1,zb true))]),zS 5 2 29] .ret) .skip)))))))))))))) (zs 22 2 [zo 30 (.build [.t (.bool false),.t (.bool false),.t (.bool false),.t (.bool false),.t (.bool false)] []),zS 5 2 30] .ret))
theorem k222:Compiled prog 222 31 [.cell 2 5 true] c222:=kMk [] func222
def b6f:aB:=zd 46 (zs 11 4 [zf 48 5 1,zl 49 48,zq 50 261 [49],zv 2 50] .ret) .skip
def b6g:aB:=zd 41 (zs 9 4 [zf 43 1 1,zl 44 43,zc 45 170 [.tmp 44,zi 0,zi 4],zv 2 45] .ret) (zs 10 2 [zK 47 .eql 4 7,zv 46 47] b6f)
def b6h:aB:=zd 15 (zs 7 25 [zf 17 1 1,zl 18 17,zK 19 .eql 18 0,zv 20 19,.grp 20 true [zg 21 (zF 2 1) 20 true,zg 22 (zy 21) 20 true,zg 23 (zU .eql 22 0) 20 true],zP 24 20 23,zv 25 24,.br 25 false [zg 26 (zF 1 1) 25 false,zg 27 (zy 26) 25 false,.mk (some 28) (zw 184 [27]) (some (25,false)),zg 29 (zm 28) 25 false],.br 29 true [zg 30 (zF 1 1) 29 true,zg 31 (zy 30) 29 true,zg 32 (zU .rem 31 2) 29 true,zg 33 (zU .neq 32 0) 29 true],.grp 25 false [zg 34 (.pick (.tmp 29) (.tmp 33) (zb false)) 25 false,zg 35 (zm 34) 25 false],.br 35 true [zg 36 (zF 2 1) 35 true,zg 37 (zy 36) 35 true,.mk (some 38) (.call 170 [.tmp 37,zi (-1000),zi 1000]) (some (35,true))],.grp 25 false [zg 39 (.pick (.tmp 35) (.tmp 38) (zb false)) 25 false],zQ 40 25 39,zv 2 40] .ret) (zs 8 2 [zK 42 .eql 4 14,zv 41 42] b6g)
def b6i:aB:=zd 10 (zs 5 4 [zf 12 1 1,zl 13 12,zq 14 184 [13],zv 2 14] .ret) (zs 6 2 [zK 16 .eql 4 8,zv 15 16] b6h)
def b6j:aB:=zd 5 (zs 3 4 [zf 7 1 1,zl 8 7,zc 9 170 [.tmp 8,zi 0,zi 1],zv 2 9] .ret) (zs 4 2 [zK 11 .eql 4 2,zv 10 11] b6i)
def b6k:aB:= .block 0 (zs 2 2 [zK 6 .eql 4 1,zv 5 6] b6j)
def b6l:aB:= .seq (zs 1 2 [zf 3 0 1,zl 4 3] b6k) (zs 12 1 [zW 2 true] .ret)
def c223:aB:=zs 0 2 [zX 1 6 0,zW 2 false] b6l
theorem k223:Compiled prog 223 51 [.tmp 2] c223:=kMk [] func223
def b6m:aB:=zd 38 (zs 11 16 [zv 40 3,zK 41 .eql 40 1,zv 42 41,.grp 42 true [zg 43 (zF 3 1) 42 true,zg 44 (zy 43) 42 true,zg 45 (.bin .neq false (.tmp 44) zu) 42 true,zg 46 (zm 45) 42 true],.br 46 false [zg 47 (zF 5 1) 46 false,zg 48 (zy 47) 46 false,zg 49 (.ia 6 (.tmp 48) (zi 0)) 46 false,zg 50 (zF 0 49) 46 false,zg 51 (zy 50) 46 false,zg 52 (zU .eql 51 5) 46 false],.grp 42 true [zg 53 (.pick (.tmp 46) (zb true) (.tmp 52)) 42 true],zP 54 42 53,zv 2 54] .ret) .skip
def b6n:aB:=zd 28 (zs 9 9 [zf 30 4 1,zl 31 30,zL 32 31,zK 33 .eql 32 1,zv 34 33,.grp 34 true [zg 35 (zm 3) 34 true,zg 36 (zU .eql 35 1) 34 true],zP 37 34 36,zv 2 37] .ret) (zs 10 2 [zK 39 .eql 9 13,zv 38 39] b6m)
def b6o:aB:=zd 21 (zs 7 6 [zf 23 4 1,zl 24 23,zL 25 24,zv 26 3,zB 27 .eql 25 26,zv 2 27] .ret) (zs 8 2 [zK 29 .eql 9 12,zv 28 29] b6n)
def b6p:aB:=zd 10 (zs 5 10 [zv 12 3,zK 13 .geq 12 2,zv 14 13,.br 14 true [zg 15 (zF 5 1) 14 true,zg 16 (zy 15) 14 true,zg 17 (.mkfn 264 [.tmp 4]) 14 true,.mk (some 18) (zw 263 [16,17]) (some (14,true)),zg 19 (zV 18) 14 true],zP 20 14 19,zv 2 20] .ret) (zs 6 2 [zK 22 .eql 9 9,zv 21 22] b6o)
def b6q:aB:= .block 0 (zs 4 2 [zK 11 .eql 9 7,zv 10 11] b6p)
def b6r:aB:= .seq (zs 3 2 [zf 8 0 1,zl 9 8] b6q) (zs 12 1 [zW 2 true] .ret)
def b6s:aB:=zs 2 2 [zo 4 (.alloc [.t .nilf]),zn (.store 1 (.tmp 4) (.con (.one (.fn 262 []))))] b6r
def b6t:aB:=zs 1 4 [zf 5 5 1,zl 6 5,zL 7 6,zv 3 7] b6s
def c224:aB:=zs 0 2 [zX 1 6 0,zW 2 false] b6t
theorem k224:Compiled prog 224 55 [.tmp 2] c224:=kMk [] func224
def c227:aB:=zs 0 1 [zW 4 false] (zs 1 5 [zv 5 0,zv 6 1,zq 7 266 [5,6],zK 8 .geq 7 0,zv 4 8] .ret)
theorem k227:Compiled prog 227 9 [.tmp 4] c227:=kMk [] func227
def b6u:aB:=zs 2 1 [zB 9 .lss 8 7] (.seq (zd 9 .skip (.exit 0)) (.seq (.block 1 (zs 3 2 [zv 10 8,zv 5 10] (zs 4 6 [zv 11 1,zv 12 0,zv 13 5,zI 14 1 12 13,zl 15 14,zB 16 .eql 11 15] (zd 16 (zs 5 2 [zv 17 5,zv 4 17] .ret) .skip)))) (zr 6 2 [zK 18 .add 8 1,zv 8 18])))
def c254:aB:=zs 0 1 [zM 4 0] (.seq (zs 1 3 [zv 6 0,zL 7 6,zM 8 0] (.block 0 (.loop b6u))) (zs 7 1 [zM 4 (-1)] .ret))
theorem k254:Compiled prog 254 19 [.tmp 4] c254:=kMk [] func254
def d0F:aB:=zs 2 1 [zB 9 .lss 8 7] (.seq (zd 9 .skip (.exit 0)) (.seq (.block 1 (zs 3 2 [zv 10 8,zv 5 10] (zs 4 6 [zv 11 1,zv 12 0,zv 13 5,zI 14 1 12 13,zl 15 14,.one (.mk (some 16) (.callv (.tmp 11) [.tmp 15]) none)] (zd 16 (zs 5 2 [zv 17 5,zv 4 17] .ret) .skip)))) (zr 6 2 [zK 18 .add 8 1,zv 8 18])))
def c266:aB:=zs 0 1 [zM 4 0] (.seq (zs 1 3 [zv 6 0,zL 7 6,zM 8 0] (.block 0 (.loop d0F))) (zs 7 1 [zM 4 (-1)] .ret))
theorem k266:Compiled prog 266 19 [.tmp 4] c266:=kMk [] func266
def d0G:aB:=zd 13 (zs 2 1 [zW 4 false] .ret) .skip
def d0H:aB:=zd 21 (zs 4 1 [zW 4 true] .ret) .skip
def d0I:aB:= .seq (zs 3 8 [zA 14 8 2,zq 15 13 [14],zN 16 15,zv 17 16,.grp 17 false [zg 18 (zm 1) 17 false,zg 19 (.len true (.tmp 18)) 17 false,zg 20 (zU .gtr 19 60) 17 false],zQ 21 17 20] d0H) (zs 5 8 [zA 23 8 2,zq 24 15 [23],zq 25 14 [24],zv 22 25,zE 26 0 22,zE 27 1 22,zv 5 26,zv 6 27] (zs 6 7 [zA 29 8 2,zq 30 16 [29],zv 28 30,zE 31 0 28,zE 32 1 28,zv 7 31,zv 8 32] (zs 7 7 [zv 34 1,zq 35 17 [34],zv 33 35,zE 36 0 33,zE 37 1 33,zv 9 36,zv 10 37] (zs 8 3 [zv 38 1,zq 39 18 [38],zv 11 39] (zs 9 23 [zv 40 6,zv 41 8,zB 42 .eql 40 41,zv 43 42,.grp 43 true [zg 44 (zm 5) 43 true,zg 45 (zm 7) 43 true,zg 46 (zO .eql 44 45) 43 true],zP 47 43 46,zv 48 47,.br 48 true [zg 49 (zm 10) 48 true,zg 50 (zm 11) 48 true,zg 51 (.len false (.tmp 50)) 48 true,zg 52 (zU .eql 51 0) 48 true,.mk (some 53) (zw 19 [52]) (some (48,true)),zg 54 (.bin .mul false (zi 7) (.tmp 53)) 48 true,zg 55 (zO .eql 49 54) 48 true],zP 56 48 55,zv 57 56,.br 57 true [zg 58 (zm 9) 57 true,zg 59 (zm 11) 57 true,.mk (some 60) (zw 20 [58,59]) (some (57,true))],zP 61 57 60,zv 4 61] .ret)))))
def d0J:aB:= .seq (zs 1 2 [zc 12 12 [],zN 13 12] d0G) d0I
def c3:aB:=zs 0 2 [zX 2 8 0,zW 4 false] d0J
theorem k3:Compiled prog 3 62 [.tmp 4] c3:=kMk [] func3
def c13:aB:=zs 0 2 [zX 1 8 0,zW 2 false] (zs 1 3 [zo 4 (.build [za,.t (.bool false)] [(0,(1,zi 400))]),zX 5 2 4,zv 3 5] (zs 2 3 [zv 6 3,zA 7 8 1,zc 8 57 [.tmp 6,.tmp 7,zi 12]] (zs 3 10 [zv 9 3,zC 10 9,zf 11 1 10,zl 12 11,zN 13 12,zv 14 13,.br 14 true [zg 15 (zt 8 1) 14 true,.mk (some 16) (zw 58 [15]) (some (14,true))],zP 17 14 16,zv 2 17] .ret)))
theorem k13:Compiled prog 13 18 [.tmp 2] c13:=kMk [] func13
def a9y:aB:=zd 17 .skip (.exit 0)
def a9z:aB:= .seq (zs 5 5 [zv 13 4,zf 14 3 1,zl 15 14,zL 16 15,zB 17 .lss 13 16] a9y) (.seq (.block 1 (zs 7 7 [zf 20 3 1,zl 21 20,zv 22 4,zI 23 13 21 22,zA 24 13 23,zo 5 (.alloc [.t (.str (bs [])),za,za,.t (.str (bs [])),.tt 3 [],.tt 13 [],.t (.bool false),za,.tt 8 [],.tt 5 [],za,.tt 6 [],za]),zS 13 5 24] (.seq (.region 8 true 10 [zf 25 2 5,zA 26 8 25,zq 27 15 [26],zf 28 11 5,zl 29 28,zq 30 64 [29],zf 31 2 5,zS 8 31 27,zf 32 11 5,zS 1 32 30]) (zr 9 7 [zf 33 3 3,zl 34 33,zA 35 13 5,zo 36 (.bslice 13 1 [.t (.str (bs [])),za,za,.t (.str (bs [])),.tt 3 [],.tt 13 [],.t (.bool false),za,.tt 8 [],.tt 5 [],za,.tt 6 [],za] [(0,(13,.tmp 35))]),zo 37 (.app true 13 200 (.tmp 34) (.tmp 36)),zf 38 3 3,zS 1 38 37])))) (zr 6 3 [zv 18 4,zK 19 .add 18 1,zv 4 19]))
def a9A:aB:= .block 0 (.loop a9z)
def a9B:aB:= .seq (zs 4 1 [zM 4 0] a9A) (zs 10 5 [zf 39 6 1,zl 40 39,zq 41 65 [40],zf 42 6 3,zS 1 42 41] (zs 11 5 [zf 43 7 1,zl 44 43,zq 45 66 [44],zf 46 7 3,zS 1 46 45] (zs 12 2 [zA 47 8 3,zS 8 2 47] .ret)))
def a9C:aB:=zs 3 2 [zf 12 3 3,zn (.store 1 (.tmp 12) (.con (.one (.tt 13 []))))] a9B
def a9D:aB:=zs 2 6 [zo 7 (.bslice 3 0 [] []),zf 8 2 1,zl 9 8,zo 10 (.app true 3 24 (.tmp 7) (.tmp 9)),zf 11 2 3,zS 1 11 10] a9C
def a9E:aB:=zs 1 3 [zA 6 8 1,zo 3 (.alloc [za,.t (.str (bs [])),.tt 3 [],.tt 13 [],.t (.bool false),za,.tt 8 [],.tt 5 []]),zS 8 3 6] a9D
def c15:aB:=zs 0 2 [zX 1 8 0,zo 2 (.alloc [za,.t (.str (bs [])),.tt 3 [],.tt 13 [],.t (.bool false),za,.tt 8 [],.tt 5 []])] a9E
theorem k15:Compiled prog 15 48 [.cell 2 8 true] c15:=kMk [] func15
def c16:aB:=zs 0 3 [zX 1 8 0,zM 2 0,zM 3 0] (.seq (zs 1 3 [zA 5 8 1,zq 6 67 [5],zv 4 6] (zs 2 2 [zv 7 4,zK 8 .neq 7 0] (zd 8 (zs 3 3 [zv 9 4,zM 2 0,zv 3 9] .ret) .skip))) (zs 4 6 [zA 10 8 1,zq 11 68 [10],zE 12 0 11,zE 13 1 11,zv 2 12,zv 3 13] .ret))
theorem k16:Compiled prog 16 14 [.tmp 2,.tmp 3] c16:=kMk [] func16
def b6v:aB:=zd 24 (zs 9 4 [zo 26 (.build [za,za] [(1,(1,zi 127))]),zo 27 (.bslice 2 1 [za,za] [(0,(2,.tmp 26))]),zv 2 27,zM 3 0] .ret) .skip
def b6w:aB:=zd 20 (zs 7 4 [zo 22 (.build [za,za] [(0,(1,zi 32)),(1,(1,zi 126))]),zo 23 (.bslice 2 1 [za,za] [(0,(2,.tmp 22))]),zv 2 23,zM 3 0] .ret) (zs 8 2 [zo 25 (.bin .eql false (.tmp 4) (.con (.one (.t (.str (bs [73,65,53,83,116,114,105,110,103])))))),zv 24 25] b6v)
def b6x:aB:=zd 10 (zs 5 10 [zo 12 (.build [za,za] [(0,(1,zi 32)),(1,(1,zi 32))]),zo 13 (.build [za,za] [(0,(1,zi 39)),(1,(1,zi 41))]),zo 14 (.build [za,za] [(0,(1,zi 43)),(1,(1,zi 58))]),zo 15 (.build [za,za] [(0,(1,zi 61)),(1,(1,zi 61))]),zo 16 (.build [za,za] [(0,(1,zi 63)),(1,(1,zi 63))]),zo 17 (.build [za,za] [(0,(1,zi 65)),(1,(1,zi 90))]),zo 18 (.build [za,za] [(0,(1,zi 97)),(1,(1,zi 122))]),zo 19 (.bslice 2 7 [za,za,za,za,za,za,za,za,za,za,za,za,za,za] [(0,(2,.tmp 12)),(2,(2,.tmp 13)),(4,(2,.tmp 14)),(6,(2,.tmp 15)),(8,(2,.tmp 16)),(10,(2,.tmp 17)),(12,(2,.tmp 18))]),zv 2 19,zM 3 0] .ret) (zs 6 2 [zo 21 (.bin .eql false (.tmp 4) (.con (.one (.t (.str (bs [86,105,115,105,98,108,101,83,116,114,105,110,103])))))),zv 20 21] b6w)
def b6y:aB:=zd 5 (zs 3 5 [zo 7 (.build [za,za] [(0,(1,zi 32)),(1,(1,zi 32))]),zo 8 (.build [za,za] [(0,(1,zi 48)),(1,(1,zi 57))]),zo 9 (.bslice 2 2 [za,za,za,za] [(0,(2,.tmp 7)),(2,(2,.tmp 8))]),zv 2 9,zM 3 0] .ret) (zs 4 2 [zo 11 (.bin .eql false (.tmp 4) (.con (.one (.t (.str (bs [80,114,105,110,116,97,98,108,101,83,116,114,105,110,103])))))),zv 10 11] b6x)
def b6z:aB:= .block 0 (zs 2 2 [zo 6 (.bin .eql false (.tmp 4) (.con (.one (.t (.str (bs [78,117,109,101,114,105,99,83,116,114,105,110,103])))))),zv 5 6] b6y)
def b6A:aB:= .seq (zs 1 1 [zv 4 0] b6z) (zs 10 2 [zo 2 (.mv (.con (.one (.tt 2 [])))),zM 3 7] .ret)
def c17:aB:=zs 0 2 [zo 2 (.mv (.con (.one (.tt 2 [])))),zM 3 0] b6A
theorem k17:Compiled prog 17 28 [.tmp 2,.tmp 3] c17:=kMk [] func17
def b6B:aB:=zd 23 (zs 9 3 [zo 25 (.build [za,za] [(0,(1,zi 0)),(1,(1,zi 127))]),zo 26 (.bslice 2 1 [za,za] [(0,(2,.tmp 25))]),zv 2 26] .ret) .skip
def b6C:aB:=zd 19 (zs 7 3 [zo 21 (.build [za,za] [(0,(1,zi 32)),(1,(1,zi 126))]),zo 22 (.bslice 2 1 [za,za] [(0,(2,.tmp 21))]),zv 2 22] .ret) (zs 8 2 [zo 24 (.bin .eql false (.tmp 3) (.con (.one (.t (.str (bs [73,65,53,83,116,114,105,110,103])))))),zv 23 24] b6B)
def b6D:aB:=zd 9 (zs 5 9 [zo 11 (.build [za,za] [(0,(1,zi 32)),(1,(1,zi 32))]),zo 12 (.build [za,za] [(0,(1,zi 39)),(1,(1,zi 41))]),zo 13 (.build [za,za] [(0,(1,zi 43)),(1,(1,zi 58))]),zo 14 (.build [za,za] [(0,(1,zi 61)),(1,(1,zi 61))]),zo 15 (.build [za,za] [(0,(1,zi 63)),(1,(1,zi 63))]),zo 16 (.build [za,za] [(0,(1,zi 65)),(1,(1,zi 90))]),zo 17 (.build [za,za] [(0,(1,zi 97)),(1,(1,zi 122))]),zo 18 (.bslice 2 7 [za,za,za,za,za,za,za,za,za,za,za,za,za,za] [(0,(2,.tmp 11)),(2,(2,.tmp 12)),(4,(2,.tmp 13)),(6,(2,.tmp 14)),(8,(2,.tmp 15)),(10,(2,.tmp 16)),(12,(2,.tmp 17))]),zv 2 18] .ret) (zs 6 2 [zo 20 (.bin .eql false (.tmp 3) (.con (.one (.t (.str (bs [86,105,115,105,98,108,101,83,116,114,105,110,103])))))),zv 19 20] b6C)
def b6E:aB:=zd 4 (zs 3 4 [zo 6 (.build [za,za] [(0,(1,zi 32)),(1,(1,zi 32))]),zo 7 (.build [za,za] [(0,(1,zi 48)),(1,(1,zi 57))]),zo 8 (.bslice 2 2 [za,za,za,za] [(0,(2,.tmp 6)),(2,(2,.tmp 7))]),zv 2 8] .ret) (zs 4 2 [zo 10 (.bin .eql false (.tmp 3) (.con (.one (.t (.str (bs [80,114,105,110,116,97,98,108,101,83,116,114,105,110,103])))))),zv 9 10] b6D)
def b6F:aB:= .block 0 (zs 2 2 [zo 5 (.bin .eql false (.tmp 3) (.con (.one (.t (.str (bs [78,117,109,101,114,105,99,83,116,114,105,110,103])))))),zv 4 5] b6E)
def b6G:aB:= .seq (zs 1 1 [zv 3 0] b6F) (zs 10 1 [zo 2 (.mv (.con (.one (.tt 2 []))))] .ret)
def c18:aB:=zs 0 1 [zo 2 (.mv (.con (.one (.tt 2 []))))] b6G
theorem k18:Compiled prog 18 27 [.tmp 2] c18:=kMk [] func18
def c19:aB:=zs 0 1 [zM 2 0] (.seq (zs 1 1 [zv 3 0] (zd 3 (zs 2 1 [zM 2 1] .ret) .skip)) (zs 3 1 [zM 2 0] .ret))
theorem k19:Compiled prog 19 4 [.tmp 2] c19:=kMk [] func19
def c21:aB:=zs 0 2 [zX 1 6 0,zW 2 false] (zs 1 8 [zA 3 6 1,zo 4 (.bslice 6 1 [za,za,za,.t (.str (bs [])),.tt 1 [],.tt 6 []] [(0,(6,.tmp 3))]),zc 5 69 [.tmp 4,zi 400,zi 12],zv 6 5,.br 6 true [zg 7 (zt 6 1) 6 true,.mk (some 8) (zw 70 [7]) (some (6,true))],zP 9 6 8,zv 2 9] .ret)
theorem k21:Compiled prog 21 10 [.tmp 2] c21:=kMk [] func21
def c23:aB:=zs 0 2 [zX 1 6 0,zo 2 (.alloc [za,za,za,.t (.str (bs [])),.tt 1 [],.tt 6 []])] (.seq (.region 1 true 10 [zf 3 4 1,zl 4 3,zq 5 73 [4],zf 6 5 1,zl 7 6,zq 8 64 [7],zf 9 4 1,zS 1 9 5,zf 10 5 1,zS 1 10 8]) (zs 2 2 [zA 11 6 1,zS 6 2 11] .ret))
theorem k23:Compiled prog 23 12 [.cell 2 6 true] c23:=kMk [] func23
def c30:aB:=zs 0 1 [zW 2 false] (zs 1 7 [zv 3 0,zK 4 .eql 3 11,zv 5 4,.grp 5 false [zg 6 (zm 0) 5 false,zg 7 (zU .eql 6 12) 5 false],zQ 8 5 7,zv 2 8] .ret)
theorem k30:Compiled prog 30 9 [.tmp 2] c30:=kMk [] func30
def b6H:aB:= .seq (zs 2 4 [zv 6 5,zv 7 0,zL 8 7,zB 9 .lss 6 8] (zd 9 .skip (.exit 0))) (.seq (.block 1 (zs 4 6 [zv 12 0,zv 13 5,zI 14 1 12 13,zl 15 14,zv 16 1,zB 17 .eql 15 16] (zd 17 (zs 5 1 [zW 4 true] .ret) .skip))) (zr 3 3 [zv 10 5,zK 11 .add 10 1,zv 5 11]))
def c46:aB:=zs 0 1 [zW 4 false] (.seq (zs 1 1 [zM 5 0] (.block 0 (.loop b6H))) (zs 6 1 [zW 4 false] .ret))
theorem k46:Compiled prog 46 18 [.tmp 4] c46:=kMk [] func46
def c49:aB:=zs 0 1 [zM 2 0] (.seq (zs 1 1 [zv 3 0] (.block 0 (zs 2 2 [zK 5 .eql 3 2,zv 4 5] (zd 4 (zs 3 1 [zM 2 1] .ret) (zs 4 2 [zK 7 .eql 3 6,zv 6 7] (zd 6 (zs 5 1 [zM 2 2] .ret) (.seq (zs 6 2 [zK 9 .eql 3 4,zv 8 9] (zd 8 .skip (zr 7 2 [zK 10 .eql 3 5,zv 8 10]))) (zd 8 (zs 8 1 [zM 2 3] .ret) (.seq (zs 9 2 [zK 12 .eql 3 11,zv 11 12] (zd 11 .skip (zr 10 2 [zK 13 .eql 3 12,zv 11 13]))) (zd 11 (zs 11 1 [zM 2 4] .ret) .skip)))))))))) (zs 12 1 [zM 2 0] .ret))
theorem k49:Compiled prog 49 14 [.tmp 2] c49:=kMk [] func49
def a56:aB:=zd 12 .ret .skip
def a57:aB:=zd 24 .skip (.exit 0)
def a6a:aB:=zd 52 .skip (.exit 2)
def a6b:aB:= .seq (zs 7 16 [zv 37 7,zf 38 3 4,zl 39 38,zv 40 6,zI 41 13 39 40,zf 42 11 41,zl 43 42,zL 44 43,zB 45 .lss 37 44,zv 46 45,.br 46 true [zg 47 (zm 0) 46 true,zg 48 (.nilc (.tmp 47)) 46 true,zg 49 (zF 1 48) 46 true,zg 50 (zy 49) 46 true,zg 51 (zV 50) 46 true],zP 52 46 51] a6a) (.seq (.block 3 (zr 9 13 [zv 55 0,zf 56 3 4,zl 57 56,zv 58 6,zI 59 13 57 58,zf 60 11 59,zl 61 60,zv 62 7,zI 63 6 61 62,zA 64 6 63,zv 65 2,zK 66 .sub 65 1,zq 67 105 [55,64,66]])) (zr 8 3 [zv 53 7,zK 54 .add 53 1,zv 7 54]))
def a6c:aB:= .block 2 (.loop a6b)
def a6d:aB:=zs 6 1 [zM 7 0] a6c
def a6e:aB:= .seq (.block 1 (zs 5 10 [zv 27 0,zf 28 3 4,zl 29 28,zv 30 6,zI 31 13 29 30,zf 32 2 31,zA 33 8 32,zv 34 2,zK 35 .sub 34 1,zq 36 57 [27,33,35]] a6d)) (zr 4 3 [zv 25 6,zK 26 .add 25 1,zv 6 26])
def a6f:aB:= .seq (zs 3 12 [zv 13 6,zf 14 3 4,zl 15 14,zL 16 15,zB 17 .lss 13 16,zv 18 17,.br 18 true [zg 19 (zm 0) 18 true,zg 20 (.nilc (.tmp 19)) 18 true,zg 21 (zF 1 20) 18 true,zg 22 (zy 21) 18 true,zg 23 (zV 22) 18 true],zP 24 18 23] a57) a6e
def a6g:aB:= .block 0 (.loop a6f)
def a6h:aB:=zd 79 .skip (.exit 4)
def a6i:aB:= .seq (zs 11 12 [zv 68 8,zf 69 6 4,zl 70 69,zL 71 70,zB 72 .lss 68 71,zv 73 72,.br 73 true [zg 74 (zm 0) 73 true,zg 75 (.nilc (.tmp 74)) 73 true,zg 76 (zF 1 75) 73 true,zg 77 (zy 76) 73 true,zg 78 (zV 77) 73 true],zP 79 73 78] a6h) (.seq (.block 5 (zr 13 9 [zv 82 0,zf 83 6 4,zl 84 83,zv 85 8,zI 86 8 84 85,zA 87 8 86,zv 88 2,zK 89 .sub 88 1,zq 90 57 [82,87,89]])) (zr 12 3 [zv 80 8,zK 81 .add 80 1,zv 8 81]))
def a6j:aB:= .block 4 (.loop a6i)
def a6k:aB:=zs 10 1 [zM 8 0] a6j
def a6l:aB:= .seq (zs 2 1 [zM 6 0] a6g) a6k
def a6m:aB:= .seq (zs 1 4 [zv 9 0,zv 10 2,zq 11 104 [9,10],zN 12 11] a56) a6l
def c57:aB:=zs 0 1 [zX 4 8 1] a6m
theorem k57:Compiled prog 57 91 [] c57:=kMk [] func57
def a1K:aB:=zd 35 (zs 2 1 [zW 2 false] .ret) .skip
def a1L:aB:=zd 40 .skip (.exit 0)
def a1M:aB:=zd 60 (zs 7 1 [zW 2 false] .ret) .skip
def a1N:aB:= .seq (.block 1 (zs 6 18 [zf 43 7 1,zl 44 43,zv 45 3,zI 46 5 44 45,zf 47 3 46,zl 48 47,zp 49 48,zK 50 .gtr 49 500,zv 51 50,.br 51 false [zg 52 (zF 7 1) 51 false,zg 53 (zy 52) 51 false,zg 54 (zm 3) 51 false,zg 55 (.ia 5 (.tmp 53) (.tmp 54)) 51 false,zg 56 (zF 4 55) 51 false,zg 57 (zy 56) 51 false,zg 58 (.len false (.tmp 57)) 51 false,zg 59 (zU .gtr 58 5) 51 false],zQ 60 51 59] a1M)) (zr 5 3 [zv 41 3,zK 42 .add 41 1,zv 3 42])
def a1O:aB:= .seq (zs 4 5 [zv 36 3,zf 37 7 1,zl 38 37,zL 39 38,zB 40 .lss 36 39] a1L) a1N
def a1P:aB:= .block 0 (.loop a1O)
def a1Q:aB:=zd 65 .skip (.exit 2)
def a1R:aB:=zd 88 (zs 13 1 [zW 2 false] .ret) .skip
def a1S:aB:=zd 93 .skip (.exit 4)
def a1T:aB:=zd 102 (zs 18 1 [zW 2 false] .ret) .skip
def a1U:aB:= .seq (.block 5 (zs 17 7 [zf 96 11 5,zl 97 96,zv 98 6,zI 99 6 97 98,zA 100 6 99,zq 101 21 [100],zN 102 101] a1T)) (zr 16 3 [zv 94 6,zK 95 .add 94 1,zv 6 95])
def a1V:aB:= .seq (zs 15 5 [zv 89 6,zf 90 11 5,zl 91 90,zL 92 91,zB 93 .lss 89 92] a1S) a1U
def a1W:aB:= .block 4 (.loop a1V)
def a1X:aB:=zs 14 1 [zM 6 0] a1W
def a1Y:aB:= .seq (zs 12 16 [zf 73 0 5,zl 74 73,zp 75 74,zK 76 .gtr 75 60,zv 77 76,.grp 77 false [zg 78 (zF 11 5) 77 false,zg 79 (zy 78) 77 false,zg 80 (.len false (.tmp 79)) 77 false,zg 81 (zU .gtr 80 3) 77 false],zQ 82 77 81,zv 83 82,.br 83 false [zg 84 (zF 2 5) 83 false,zg 85 (zt 8 84) 83 false,.mk (some 86) (zw 58 [85]) (some (83,false)),zg 87 (zV 86) 83 false],zQ 88 83 87] a1R) a1X
def a1Z:aB:= .seq (.block 3 (zs 11 7 [zf 68 3 1,zl 69 68,zv 70 4,zI 71 13 69 70,zA 72 13 71,zo 5 (.alloc [.t (.str (bs [])),za,za,.t (.str (bs [])),.tt 3 [],.tt 13 [],.t (.bool false),za,.tt 8 [],.tt 5 [],za,.tt 6 [],za]),zS 13 5 72] a1Y)) (zr 10 3 [zv 66 4,zK 67 .add 66 1,zv 4 67])
def a10:aB:= .seq (zs 9 5 [zv 61 4,zf 62 3 1,zl 63 62,zL 64 63,zB 65 .lss 61 64] a1Q) a1Z
def a13:aB:= .block 2 (.loop a10)
def a14:aB:=zd 107 .skip (.exit 6)
def a15:aB:=zd 116 (zs 23 1 [zW 2 false] .ret) .skip
def a16:aB:= .seq (.block 7 (zs 22 7 [zf 110 6 1,zl 111 110,zv 112 7,zI 113 8 111 112,zA 114 8 113,zq 115 58 [114],zN 116 115] a15)) (zr 21 3 [zv 108 7,zK 109 .add 108 1,zv 7 109])
def a18:aB:= .seq (zs 20 5 [zv 103 7,zf 104 6 1,zl 105 104,zL 106 105,zB 107 .lss 103 106] a14) a16
def a19:aB:= .block 6 (.loop a18)
def a4G:aB:= .seq (zs 19 1 [zM 7 0] a19) (zs 24 1 [zW 2 true] .ret)
def a2a:aB:= .seq (zs 8 1 [zM 4 0] a13) a4G
def a2b:aB:= .seq (zs 3 1 [zM 3 0] a1P) a2a
def a2c:aB:= .seq (zs 1 28 [zf 8 1 1,zl 9 8,zp 10 9,zK 11 .gtr 10 60,zv 12 11,.grp 12 false [zg 13 (zF 2 1) 12 false,zg 14 (zy 13) 12 false,zg 15 (.len false (.tmp 14)) 12 false,zg 16 (zU .gtr 15 8) 12 false],zQ 17 12 16,zv 18 17,.grp 18 false [zg 19 (zF 3 1) 18 false,zg 20 (zy 19) 18 false,zg 21 (.len false (.tmp 20)) 18 false,zg 22 (zU .gtr 21 40) 18 false],zQ 23 18 22,zv 24 23,.grp 24 false [zg 25 (zF 6 1) 24 false,zg 26 (zy 25) 24 false,zg 27 (.len false (.tmp 26)) 24 false,zg 28 (zU .gtr 27 4) 24 false],zQ 29 24 28,zv 30 29,.grp 30 false [zg 31 (zF 7 1) 30 false,zg 32 (zy 31) 30 false,zg 33 (.len false (.tmp 32)) 30 false,zg 34 (zU .gtr 33 40) 30 false],zQ 35 30 34] a1K) a2b
def c58:aB:=zs 0 2 [zX 1 8 0,zW 2 false] a2c
theorem k58:Compiled prog 58 117 [.tmp 2] c58:=kMk [] func58
def b6I:aB:= .seq (zs 3 4 [zv 5 4,zv 6 0,zL 7 6,zB 8 .lss 5 7] (zd 8 .skip (.exit 0))) (.seq (.block 1 (zr 5 9 [zv 11 3,zv 12 0,zv 13 4,zI 14 6 12 13,zA 15 6 14,zq 16 23 [15],zo 17 (.bslice 6 1 [za,za,za,.t (.str (bs [])),.tt 1 [],.tt 6 []] [(0,(6,.tmp 16))]),zo 18 (.app true 6 88 (.tmp 11) (.tmp 17)),zv 3 18])) (zr 4 3 [zv 9 4,zK 10 .add 9 1,zv 4 10]))
def c64:aB:=zs 0 1 [zo 2 (.mv (.con (.one (.tt 6 []))))] (zs 1 1 [zo 3 (.mv (.con (.one (.tt 6 []))))] (.seq (zs 2 1 [zM 4 0] (.block 0 (.loop b6I))) (zs 6 2 [zv 19 3,zv 2 19] .ret)))
theorem k64:Compiled prog 64 20 [.tmp 2] c64:=kMk [] func64
def b6J:aB:= .seq (zs 3 4 [zv 5 4,zv 6 0,zL 7 6,zB 8 .lss 5 7] (zd 8 .skip (.exit 0))) (.seq (.block 1 (zr 5 9 [zv 11 3,zv 12 0,zv 13 4,zI 14 8 12 13,zA 15 8 14,zq 16 15 [15],zo 17 (.bslice 8 1 [za,.t (.str (bs [])),.tt 3 [],.tt 13 [],.t (.bool false),za,.tt 8 [],.tt 5 []] [(0,(8,.tmp 16))]),zo 18 (.app true 8 136 (.tmp 11) (.tmp 17)),zv 3 18])) (zr 4 3 [zv 9 4,zK 10 .add 9 1,zv 4 10]))
def c65:aB:=zs 0 1 [zo 2 (.mv (.con (.one (.tt 8 []))))] (zs 1 1 [zo 3 (.mv (.con (.one (.tt 8 []))))] (.seq (zs 2 1 [zM 4 0] (.block 0 (.loop b6J))) (zs 6 2 [zv 19 3,zv 2 19] .ret)))
theorem k65:Compiled prog 65 20 [.tmp 2] c65:=kMk [] func65
def b6K:aB:= .seq (zs 3 4 [zv 6 4,zv 7 0,zL 8 7,zB 9 .lss 6 8] (zd 9 .skip (.exit 0))) (.seq (.block 1 (zs 5 6 [zv 12 0,zv 13 4,zI 14 5 12 13,zA 15 5 14,zo 5 (.alloc [za,za,za,.t (.str (bs [])),.tt 1 []]),zS 5 5 15] (zs 6 5 [zf 16 4 5,zl 17 16,zq 18 111 [17],zf 19 4 5,zS 1 19 18] (zr 7 5 [zv 20 3,zA 21 5 5,zo 22 (.bslice 5 1 [za,za,za,.t (.str (bs [])),.tt 1 []] [(0,(5,.tmp 21))]),zo 23 (.app true 5 64 (.tmp 20) (.tmp 22)),zv 3 23])))) (zr 4 3 [zv 10 4,zK 11 .add 10 1,zv 4 11]))
def c66:aB:=zs 0 1 [zo 2 (.mv (.con (.one (.tt 5 []))))] (zs 1 1 [zo 3 (.mv (.con (.one (.tt 5 []))))] (.seq (zs 2 1 [zM 4 0] (.block 0 (.loop b6K))) (zs 8 2 [zv 24 3,zv 2 24] .ret)))
theorem k66:Compiled prog 66 25 [.tmp 2] c66:=kMk [] func66
def c67:aB:=zs 0 2 [zX 1 8 0,zM 2 0] (.seq (zs 1 3 [zA 3 8 1,zc 4 112 [.tmp 3,zi 60],zN 5 4] (zd 5 (zs 2 1 [zM 2 2] .ret) .skip)) (zs 3 3 [zA 6 8 1,zq 7 113 [6],zv 2 7] .ret))
theorem k67:Compiled prog 67 8 [.tmp 2] c67:=kMk [] func67
def a9F:aB:=zd 17 (zs 2 2 [zM 2 0,zM 3 4] .ret) .skip
def a9G:aB:=zd 23 .skip (.exit 0)
def a9H:aB:=zd 40 (zs 9 3 [zv 41 5,zv 2 41,zM 3 28] .ret) .skip
def a9I:aB:=zd 49 (zs 11 3 [zv 50 5,zv 2 50,zM 3 17] .ret) .skip
def a9J:aB:=zd 63 (zs 13 3 [zv 64 5,zv 2 64,zM 3 3] .ret) .skip
def a9K:aB:=zd 77 (zs 17 4 [zv 78 5,zv 79 7,zv 2 78,zv 3 79] .ret) .skip
def a9L:aB:=zs 16 2 [zv 76 7,zK 77 .neq 76 0] a9K
def a9M:aB:=zd 67 (.seq (.region 15 true 9 [zA 68 8 1,zf 69 3 6,zl 70 69,zv 71 4,zv 72 5,zI 73 1 71 72,zl 74 73,zq 75 117 [68,70,74],zv 7 75]) a9L) .skip
def a9N:aB:=zs 14 3 [zf 65 0 6,zl 66 65,zK 67 .eql 66 1] a9M
def a9O:aB:= .seq (.seq (.region 12 true 13 [zf 51 0 6,zl 52 51,zK 53 .eql 52 0,zv 54 53,.br 54 true [zg 55 (zt 5 6) 54 true,zg 56 (zm 4) 54 true,zg 57 (zm 5) 54 true,zg 58 (.ia 1 (.tmp 56) (.tmp 57)) 54 true,zg 59 (zy 58) 54 true,zg 60 (zF 0 1) 54 true,zg 61 (zy 60) 54 true,.mk (some 62) (zw 116 [55,59,61]) (some (54,true))],zP 63 54 62]) a9J) a9N
def a9P:aB:= .seq (.seq (.region 10 true 8 [zf 42 0 6,zl 43 42,zv 44 4,zv 45 5,zI 46 1 44 45,zl 47 46,zq 48 115 [43,47],zN 49 48]) a9I) a9O
def a9Q:aB:= .seq (zs 8 10 [zf 31 0 6,zl 32 31,zK 33 .eql 32 7,zv 34 33,.grp 34 true [zg 35 (zm 5) 34 true,zg 36 (zm 4) 34 true,zg 37 (.len false (.tmp 36)) 34 true,zg 38 (zU .sub 37 1) 34 true,zg 39 (zO .lss 35 38) 34 true],zP 40 34 39] a9H) a9P
def a9R:aB:= .seq (.block 1 (zs 7 7 [zf 26 7 1,zl 27 26,zv 28 5,zI 29 5 27 28,zA 30 5 29,zo 6 (.alloc [za,za,za,.t (.str (bs [])),.tt 1 []]),zS 5 6 30] a9Q)) (zr 6 3 [zv 24 5,zK 25 .add 24 1,zv 5 25])
def a9S:aB:= .seq (zs 5 4 [zv 20 5,zv 21 4,zL 22 21,zB 23 .lss 20 22] a9G) a9R
def a9T:aB:= .block 0 (.loop a9S)
def a9U:aB:= .seq (zs 4 1 [zM 5 0] a9T) (zs 18 4 [zv 80 4,zL 81 80,zv 2 81,zM 3 0] .ret)
def a9V:aB:=zs 3 3 [zA 18 8 1,zq 19 114 [18],zv 4 19] a9U
def a9W:aB:= .seq (zs 1 10 [zf 8 7 1,zl 9 8,zL 10 9,zK 11 .gtr 10 0,zv 12 11,.br 12 true [zg 13 (zF 0 1) 12 true,zg 14 (zy 13) 12 true,.mk (some 15) (zw 49 [14]) (some (12,true)),zg 16 (zU .eql 15 0) 12 true],zP 17 12 16] a9F) a9V
def c68:aB:=zs 0 3 [zX 1 8 0,zM 2 0,zM 3 0] a9W
theorem k68:Compiled prog 68 82 [.tmp 2,.tmp 3] c68:=kMk [] func68
def b6L:aB:=zd 22 .skip (.exit 0)
def b6M:aB:= .seq (zs 3 11 [zv 12 8,zv 13 0,zL 14 13,zB 15 .lss 12 14,zv 16 15,.br 16 true [zg 17 (zm 7) 16 true,zg 18 (.nilc (.tmp 17)) 16 true,zg 19 (zF 1 18) 16 true,zg 20 (zy 19) 16 true,zg 21 (zV 20) 16 true],zP 22 16 21] b6L) (.seq (.block 1 (zr 5 7 [zv 25 7,zv 26 0,zv 27 8,zI 28 6 26 27,zA 29 6 28,zv 30 2,zq 31 105 [25,29,30]])) (zr 4 3 [zv 23 8,zK 24 .add 23 1,zv 8 24]))
def b6N:aB:= .block 0 (.loop b6M)
def b6O:aB:= .seq (zs 2 1 [zM 8 0] b6N) (zs 6 6 [zv 32 7,zC 33 32,zf 34 1 33,zl 35 34,zN 36 35,zv 6 36] .ret)
def b6P:aB:=zs 1 4 [zv 9 1,zo 10 (.build [za,.t (.bool false)] [(0,(1,.tmp 9))]),zX 11 2 10,zv 7 11] b6O
def c69:aB:=zs 0 1 [zW 6 false] b6P
theorem k69:Compiled prog 69 37 [.tmp 6] c69:=kMk [] func69
def a6n:aB:=zd 20 (zs 2 1 [zW 2 false] .ret) .skip
def a6o:aB:=zd 25 .skip (.exit 0)
def a6p:aB:=zd 34 (zs 7 1 [zW 2 false] .ret) .skip
def a6q:aB:= .seq (.block 1 (zs 6 7 [zf 28 4 1,zl 29 28,zv 30 3,zI 31 1 29 30,zl 32 31,zp 33 32,zK 34 .gtr 33 60] a6p)) (zr 5 3 [zv 26 3,zK 27 .add 26 1,zv 3 27])
def a6r:aB:= .seq (zs 4 5 [zv 21 3,zf 22 4 1,zl 23 22,zL 24 23,zB 25 .lss 21 24] a6o) a6q
def a6s:aB:= .block 0 (.loop a6r)
def a6t:aB:=zd 39 .skip (.exit 2)
def a6u:aB:=zd 48 (zs 12 1 [zW 2 false] .ret) .skip
def a6v:aB:= .seq (.block 3 (zs 11 7 [zf 42 5 1,zl 43 42,zv 44 4,zI 45 6 43 44,zA 46 6 45,zq 47 70 [46],zN 48 47] a6u)) (zr 10 3 [zv 40 4,zK 41 .add 40 1,zv 4 41])
def a6w:aB:= .seq (zs 9 5 [zv 35 4,zf 36 5 1,zl 37 36,zL 38 37,zB 39 .lss 35 38] a6t) a6v
def a6x:aB:= .block 2 (.loop a6w)
def a6y:aB:= .seq (zs 8 1 [zM 4 0] a6x) (zs 13 1 [zW 2 true] .ret)
def a6z:aB:= .seq (zs 3 1 [zM 3 0] a6s) a6y
def a6A:aB:= .seq (zs 1 16 [zf 5 3 1,zl 6 5,zp 7 6,zK 8 .gtr 7 500,zv 9 8,.grp 9 false [zg 10 (zF 4 1) 9 false,zg 11 (zy 10) 9 false,zg 12 (.len false (.tmp 11)) 9 false,zg 13 (zU .gtr 12 60) 9 false],zQ 14 9 13,zv 15 14,.grp 15 false [zg 16 (zF 5 1) 15 false,zg 17 (zy 16) 15 false,zg 18 (.len false (.tmp 17)) 15 false,zg 19 (zU .gtr 18 60) 15 false],zQ 20 15 19] a6n) a6z
def c70:aB:=zs 0 2 [zX 1 6 0,zW 2 false] a6A
theorem k70:Compiled prog 70 49 [.tmp 2] c70:=kMk [] func70
def c73:aB:=zs 0 1 [zo 2 (.mv (.con (.one (.tt 1 []))))] (zs 1 4 [zo 3 (.bslice 1 0 [] []),zv 4 0,zo 5 (.app true 1 16 (.tmp 3) (.tmp 4)),zv 2 5] .ret)
theorem k73:Compiled prog 73 6 [.tmp 2] c73:=kMk [] func73
def c75:aB:=zs 0 2 [zX 1 6 0,zM 2 0] (.seq (zs 1 3 [zA 3 6 1,zc 4 126 [.tmp 3,zi 120],zN 5 4] (zd 5 (zs 2 1 [zM 2 2] .ret) .skip)) (zs 3 3 [zA 6 6 1,zq 7 127 [6],zv 2 7] .ret))
theorem k75:Compiled prog 75 8 [.tmp 2] c75:=kMk [] func75
def c91:aB:=zs 0 2 [zX 1 8 0,zM 2 0] (.seq (zs 1 3 [zf 3 0 1,zl 4 3,zq 5 61 [4]] (zd 5 (zs 2 1 [zM 2 40] .ret) .skip)) (zs 3 1 [zM 2 200] .ret))
theorem k91:Compiled prog 91 6 [.tmp 2] c91:=kMk [] func91
def a4H:aB:=zd 23 (zs 3 2 [zv 24 5,zv 4 24] .ret) .skip
def a4I:aB:=zs 2 2 [zv 22 5,zK 23 .neq 22 0] a4H
def a4J:aB:=zd 29 (zs 5 9 [zf 30 3 2,zl 31 30,zf 32 3 3,zl 33 32,zB 34 .gtr 31 33,zq 35 19 [34],zo 36 (.bin .mul false (zi 2) (.tmp 35)),zK 37 .sub 36 1,zv 4 37] .ret) .skip
def a4K:aB:=zd 49 .skip (.exit 0)
def a4L:aB:=zd 62 (.seq (.region 10 true 15 [zf 63 4 2,zl 64 63,zv 65 6,zI 66 1 64 65,zl 67 66,zf 68 4 3,zl 69 68,zv 70 6,zI 71 1 69 70,zl 72 71,zB 73 .gtr 67 72,zq 74 19 [73],zo 75 (.bin .mul false (zi 2) (.tmp 74)),zK 76 .sub 75 1,zv 4 76]) .ret) .skip
def a4M:aB:= .seq (.block 1 (.seq (.region 9 true 11 [zf 52 4 2,zl 53 52,zv 54 6,zI 55 1 53 54,zl 56 55,zf 57 4 3,zl 58 57,zv 59 6,zI 60 1 58 59,zl 61 60,zB 62 .neq 56 61]) a4L)) (zr 8 3 [zv 50 6,zK 51 .add 50 1,zv 6 51])
def a4N:aB:= .seq (zs 7 12 [zv 38 6,zf 39 4 2,zl 40 39,zL 41 40,zB 42 .lss 38 41,zv 43 42,.grp 43 true [zg 44 (zm 6) 43 true,zg 45 (zF 4 3) 43 true,zg 46 (zy 45) 43 true,zg 47 (.len false (.tmp 46)) 43 true,zg 48 (zO .lss 44 47) 43 true],zP 49 43 48] a4K) a4M
def a4O:aB:= .block 0 (.loop a4N)
def a4P:aB:=zd 83 (zs 12 11 [zf 84 4 2,zl 85 84,zL 86 85,zf 87 4 3,zl 88 87,zL 89 88,zB 90 .gtr 86 89,zq 91 19 [90],zo 92 (.bin .mul false (zi 2) (.tmp 91)),zK 93 .sub 92 1,zv 4 93] .ret) .skip
def a4Q:aB:= .seq (zs 11 7 [zf 77 4 2,zl 78 77,zL 79 78,zf 80 4 3,zl 81 80,zL 82 81,zB 83 .neq 79 82] a4P) (zs 13 6 [zf 94 5 2,zl 95 94,zf 96 5 3,zl 97 96,zq 98 139 [95,97],zv 4 98] .ret)
def a4R:aB:= .seq (zs 6 1 [zM 6 0] a4O) a4Q
def a4S:aB:= .seq (zs 4 5 [zf 25 3 2,zl 26 25,zf 27 3 3,zl 28 27,zB 29 .neq 26 28] a4J) a4R
def a4T:aB:= .seq (zs 1 16 [zf 7 0 2,zl 8 7,zf 9 1 2,zl 10 9,zf 11 2 2,zl 12 11,zo 13 (.bslice 1 3 [za,za,za] [(0,(1,.tmp 8)),(1,(1,.tmp 10)),(2,(1,.tmp 12))]),zf 14 0 3,zl 15 14,zf 16 1 3,zl 17 16,zf 18 2 3,zl 19 18,zo 20 (.bslice 1 3 [za,za,za] [(0,(1,.tmp 15)),(1,(1,.tmp 17)),(2,(1,.tmp 19))]),zq 21 138 [13,20],zv 5 21] a4I) a4S
def c100:aB:=zs 0 3 [zX 2 6 0,zX 3 6 1,zM 4 0] a4T
theorem k100:Compiled prog 100 99 [.tmp 4] c100:=kMk [] func100
def b6Q:List Seg:=[zW 4 false]
def b6R:List Seg:=[zv 5 0,zv 6 0,zC 7 6,zf 8 0 7,zl 9 8,zK 10 .sub 9 1,zC 11 5,zf 12 0 11,zS 1 12 10]
def b6S:List Seg:=[zv 13 0,zv 14 0,zC 15 14,zf 16 1 15,zl 17 16,zv 18 17,.br 18 false [zg 19 (zm 0) 18 false,zg 20 (.nilc (.tmp 19)) 18 false,zg 21 (zF 0 20) 18 false,zg 22 (zy 21) 18 false,zg 23 (zU .lss 22 0) 18 false],zQ 24 18 23,zv 25 24,.grp 25 false [zg 26 (zm 1) 25 false,zg 27 (zU .lss 26 1) 25 false],zQ 28 25 27,zC 29 13,zf 30 1 29,zS 1 30 28]
def b6T:List Seg:=[zv 31 0,zC 32 31,zf 33 1 32,zl 34 33,zN 35 34,zv 4 35]
def c104:aB:=zs 0 1 b6Q (zs 1 9 b6R (zs 2 19 b6S (zs 3 6 b6T .ret)))
theorem k104:Compiled prog 104 36 [.tmp 4] c104:=kMk [] func104
def b6U:List Seg:=[zX 4 6 1]
def b6V:List Seg:=[zv 7 0,zv 8 2,zq 9 104 [7,8],zN 10 9]
def b6W:List Seg:=[zM 6 0]
def a9X:List Seg:=[zv 11 6,zf 12 5 4,zl 13 12,zL 14 13,zB 15 .lss 11 14,zv 16 15,.br 16 true [zg 17 (zm 0) 16 true,zg 18 (.nilc (.tmp 17)) 16 true,zg 19 (zF 1 18) 16 true,zg 20 (zy 19) 16 true,zg 21 (zV 20) 16 true],zP 22 16 21]
def b6X:List Seg:=[zv 25 0,zf 26 5 4,zl 27 26,zv 28 6,zI 29 6 27 28,zA 30 6 29,zv 31 2,zK 32 .sub 31 1,zq 33 105 [25,30,32]]
def b6Y:List Seg:=[zv 23 6,zK 24 .add 23 1,zv 6 24]
def a9Y:aB:= .seq (zs 3 12 a9X (zd 22 .skip (.exit 0))) (.seq (.block 1 (zr 5 9 b6X)) (zr 4 3 b6Y))
def c105:aB:=zs 0 1 b6U (.seq (zs 1 4 b6V (zd 10 .ret .skip)) (zs 2 1 b6W (.block 0 (.loop a9Y))))
theorem k105:Compiled prog 105 34 [] c105:=kMk [] func105
def c111:aB:=zs 0 1 [zo 2 (.mv (.con (.one (.tt 1 []))))] (zs 1 4 [zo 3 (.bslice 1 0 [] []),zv 4 0,zo 5 (.app true 1 8 (.tmp 3) (.tmp 4)),zv 2 5] .ret)
theorem k111:Compiled prog 111 6 [.tmp 2] c111:=kMk [] func111
def c112:aB:=zs 0 2 [zX 2 8 0,zW 4 false] (zs 1 4 [zv 6 1,zo 7 (.build [za,.t (.bool false)] [(0,(1,.tmp 6))]),zX 8 2 7,zv 5 8] (zs 2 3 [zv 9 5,zA 10 8 2,zc 11 57 [.tmp 9,.tmp 10,zi 9]] (zs 3 6 [zv 12 5,zC 13 12,zf 14 1 13,zl 15 14,zN 16 15,zv 4 16] .ret)))
theorem k112:Compiled prog 112 17 [.tmp 4] c112:=kMk [] func112
def a6B:aB:=zd 10 (zs 3 2 [zv 11 3,zv 2 11] .ret) .skip
def a6C:aB:=zs 2 2 [zv 9 3,zK 10 .neq 9 0] a6B
def a6D:aB:=zd 16 .skip (.exit 0)
def a6E:aB:=zd 26 (.exit 0) .skip
def a6F:aB:=zd 35 (zs 10 2 [zv 36 5,zv 2 36] .ret) .skip
def a6G:aB:=zs 9 2 [zv 34 5,zK 35 .neq 34 0] a6F
def a6H:aB:=zd 55 (zs 14 2 [zv 56 6,zv 2 56] .ret) .skip
def a6I:aB:=zs 13 2 [zv 54 6,zK 55 .neq 54 0] a6H
def a6J:aB:=zd 44 (zs 12 10 [zf 45 3 1,zl 46 45,zv 47 4,zI 48 13 46 47,zf 49 11 48,zl 50 49,zj 51 6 50 0,zA 52 6 51,zq 53 75 [52],zv 6 53] a6I) .skip
def a6K:aB:=zs 11 8 [zf 37 3 1,zl 38 37,zv 39 4,zI 40 13 38 39,zf 41 11 40,zl 42 41,zL 43 42,zK 44 .gtr 43 0] a6J
def a6L:aB:= .seq (zs 8 8 [zf 27 3 1,zl 28 27,zv 29 4,zI 30 13 28 29,zf 31 2 30,zA 32 8 31,zq 33 113 [32],zv 5 33] a6G) a6K
def a6M:aB:= .seq (.block 1 (.seq (zs 7 8 [zf 19 0 1,zl 20 19,zK 21 .eql 20 3,zv 22 21,.grp 22 false [zg 23 (zF 0 1) 22 false,zg 24 (zy 23) 22 false,zg 25 (zU .eql 24 14) 22 false],zQ 26 22 25] a6E) a6L)) (zr 6 3 [zv 17 4,zK 18 .add 17 1,zv 4 18])
def a6N:aB:= .seq (zs 5 5 [zv 12 4,zf 13 3 1,zl 14 13,zL 15 14,zB 16 .lss 12 15] a6D) a6M
def a6O:aB:= .block 0 (.loop a6N)
def a6P:aB:=zd 60 (zs 16 6 [zf 61 6 1,zl 62 61,zj 63 8 62 0,zA 64 8 63,zq 65 113 [64],zv 2 65] .ret) .skip
def a6Q:aB:= .seq (zs 15 4 [zf 57 6 1,zl 58 57,zL 59 58,zK 60 .gtr 59 0] a6P) (zs 17 1 [zM 2 0] .ret)
def a6R:aB:= .seq (zs 4 1 [zM 4 0] a6O) a6Q
def a6S:aB:= .seq (zs 1 3 [zA 7 8 1,zq 8 153 [7],zv 3 8] a6C) a6R
def c113:aB:=zs 0 2 [zX 1 8 0,zM 2 0] a6S
theorem k113:Compiled prog 113 66 [.tmp 2] c113:=kMk [] func113
def a9Z:aB:=zd 16 .skip (.exit 0)
def a90:aB:=zd 23 (zr 6 7 [zv 24 3,zv 25 4,zf 26 0 1,zl 27 26,zq 28 49 [27],zI 29 1 24 25,zS 1 29 28]) .skip
def a92:aB:=zd 39 .skip (.exit 2)
def a94:aB:=zd 48 (zr 13 1 [zM 7 5]) .skip
def a95:aB:=zd 51 (zr 15 1 [zM 7 6]) .skip
def a96:aB:= .seq (zs 14 3 [zf 49 0 5,zl 50 49,zK 51 .eql 50 3] a95) (zr 16 9 [zv 52 3,zf 53 4 5,zl 54 53,zv 55 6,zI 56 1 54 55,zl 57 56,zv 58 7,zI 59 1 52 57,zS 1 59 58])
def a97:aB:= .seq (zs 12 3 [zf 46 0 5,zl 47 46,zK 48 .eql 47 2] a94) a96
def a98:aB:= .seq (.block 3 (zs 11 5 [zv 42 3,zv 43 4,zI 44 1 42 43,zl 45 44,zv 7 45] a97)) (zr 10 3 [zv 40 6,zK 41 .add 40 1,zv 6 41])
def a99:aB:= .seq (zs 9 5 [zv 35 6,zf 36 4 5,zl 37 36,zL 38 37,zB 39 .lss 35 38] a92) a98
def b0a:aB:= .block 2 (.loop a99)
def b0b:aB:=zs 8 1 [zM 6 0] b0a
def b0c:aB:=zs 7 7 [zf 30 7 1,zl 31 30,zv 32 4,zI 33 5 31 32,zA 34 5 33,zo 5 (.alloc [za,za,za,.t (.str (bs [])),.tt 1 []]),zS 5 5 34] b0b
def b0d:aB:= .seq (.block 1 (.seq (zs 5 5 [zv 19 4,zv 20 3,zL 21 20,zK 22 .sub 21 1,zB 23 .eql 19 22] a90) b0c)) (zr 4 3 [zv 17 4,zK 18 .sub 17 1,zv 4 18])
def b0e:aB:= .seq (zs 3 2 [zv 15 4,zK 16 .geq 15 0] a9Z) b0d
def b0f:aB:= .block 0 (.loop b0e)
def b0g:aB:= .seq (zs 2 4 [zv 12 3,zL 13 12,zK 14 .sub 13 1,zv 4 14] b0f) (zs 17 2 [zv 60 3,zv 2 60] .ret)
def b0h:aB:=zs 1 5 [zf 8 7 1,zl 9 8,zL 10 9,zo 11 (.mks 1 8 [za] (.tmp 10) (.tmp 10)),zv 3 11] b0g
def c114:aB:=zs 0 2 [zX 1 8 0,zo 2 (.mv (.con (.one (.tt 1 []))))] b0h
theorem k114:Compiled prog 114 61 [.tmp 2] c114:=kMk [] func114
def c115:aB:=zs 0 1 [zW 4 false] (.seq (zs 1 1 [zv 5 0] (.block 0 (zs 2 2 [zK 7 .eql 5 0,zv 6 7] (zd 6 (zs 3 11 [zv 8 1,zK 9 .eql 8 1,zv 10 9,.grp 10 false [zg 11 (zm 1) 10 false,zg 12 (zU .eql 11 5) 10 false],zQ 13 10 12,zv 14 13,.grp 14 false [zg 15 (zm 1) 14 false,zg 16 (zU .eql 15 6) 14 false],zQ 17 14 16,zv 4 17] .ret) (zs 4 2 [zK 19 .eql 5 1,zv 18 19] (zd 18 (zs 5 11 [zv 20 1,zK 21 .eql 20 2,zv 22 21,.grp 22 false [zg 23 (zm 1) 22 false,zg 24 (zU .eql 23 3) 22 false],zQ 25 22 24,zv 26 25,.grp 26 false [zg 27 (zm 1) 26 false,zg 28 (zU .eql 27 6) 26 false],zQ 29 26 28,zv 4 29] .ret) (zs 6 2 [zK 31 .eql 5 2,zv 30 31] (zd 30 (zs 7 11 [zv 32 1,zK 33 .eql 32 2,zv 34 33,.grp 34 false [zg 35 (zm 1) 34 false,zg 36 (zU .eql 35 3) 34 false],zQ 37 34 36,zv 38 37,.grp 38 false [zg 39 (zm 1) 38 false,zg 40 (zU .eql 39 4) 38 false],zQ 41 38 40,zv 4 41] .ret) (zs 8 2 [zK 43 .eql 5 3,zv 42 43] (zd 42 (zs 9 3 [zv 44 1,zK 45 .eql 44 2,zv 4 45] .ret) .skip)))))))))) (zs 10 1 [zW 4 true] .ret))
theorem k115:Compiled prog 115 46 [.tmp 4] c115:=kMk [] func115
def b6Z:aB:=zd 10 (zr 3 4 [zv 11 2,zq 12 133 [11],zM 7 0,zv 8 12]) .skip
def b60:aB:=zd 14 (zr 5 2 [zM 7 0,zM 8 127]) .skip
def b61:aB:= .seq (zs 4 2 [zv 13 1,zK 14 .eql 13 6] b60) (zs 6 18 [zf 15 1 3,zl 16 15,zf 17 2 3,zl 18 17,zB 19 .gtr 16 18,zv 20 19,.grp 20 false [zg 21 (zF 1 3) 20 false,zg 22 (zy 21) 20 false,zg 23 (zm 7) 20 false,zg 24 (zO .lss 22 23) 20 false],zQ 25 20 24,zv 26 25,.grp 26 false [zg 27 (zF 2 3) 26 false,zg 28 (zy 27) 26 false,zg 29 (zm 8) 26 false,zg 30 (zO .gtr 28 29) 26 false],zQ 31 26 30,zv 6 31] .ret)
def b62:aB:= .seq (zs 2 2 [zv 9 1,zK 10 .eql 9 5] b6Z) b61
def b63:aB:=zs 1 2 [zM 7 (-1152921504606846976),zM 8 1152921504606846976] b62
def c116:aB:=zs 0 2 [zX 3 5 0,zW 6 false] b63
theorem k116:Compiled prog 116 32 [.tmp 6] c116:=kMk [] func116
def b0i:aB:=zd 15 (zr 3 2 [zc 16 18 [.con (.one (.t (.str (bs [73,65,53,83,116,114,105,110,103]))))],zv 7 16]) .skip
def b0j:aB:=zd 26 .skip (.exit 0)
def b0k:aB:=zd 34 (zr 10 15 [zv 35 8,zv 36 35,.grp 36 false [zg 37 (zF 0 3) 36 false,zg 38 (zy 37) 36 false,zg 39 (zU .eql 38 4) 36 false,zg 40 (zm 39) 36 false],.grp 40 true [zg 41 (zm 10) 40 true,zg 42 (zU .neq 41 48) 40 true],.grp 36 false [zg 43 (.pick (.tmp 40) (.tmp 42) (zb false)) 36 false,zg 44 (zm 43) 36 false],.grp 44 true [zg 45 (zm 10) 44 true,zg 46 (zU .neq 45 49) 44 true],.grp 36 false [zg 47 (.pick (.tmp 44) (.tmp 46) (zb false)) 36 false],zQ 48 36 47,zv 8 48]) (zr 11 8 [zv 49 8,zv 50 49,.br 50 false [zg 51 (zm 7) 50 false,zg 52 (zm 10) 50 false,.mk (some 53) (zw 41 [51,52]) (some (50,false)),zg 54 (zV 53) 50 false],zQ 55 50 54,zv 8 55])
def b0l:aB:=zs 9 2 [zv 33 2,zK 34 .eql 33 3] b0k
def b0m:aB:= .seq (.block 1 (zs 8 5 [zv 29 1,zv 30 9,zo 31 (.ixs (.tmp 29) (.tmp 30)),zo 32 (.dO .i64 (.tmp 31)),zv 10 32] b0l)) (zr 7 3 [zv 27 9,zK 28 .add 27 1,zv 9 28])
def b0n:aB:= .seq (zs 6 4 [zv 23 9,zv 24 1,zp 25 24,zB 26 .lss 23 25] b0j) b0m
def b0o:aB:= .block 0 (.loop b0n)
def b0p:aB:=zd 56 (zs 13 1 [zM 6 17] .ret) .skip
def b0q:aB:= .seq (zs 12 1 [zv 56 8] b0p) (zs 14 6 [zv 57 1,zp 58 57,zK 59 .gtr 58 200,zq 60 19 [59],zo 61 (.bin .mul false (zi 2) (.tmp 60)),zv 6 61] .ret)
def a6T:aB:= .seq (zs 5 1 [zM 9 0] b0o) b0q
def b0r:aB:=zs 4 7 [zv 17 2,zK 18 .eql 17 6,zv 19 18,.grp 19 true [zg 20 (zm 1) 19 true,zg 21 (.bin .eql false (.tmp 20) zu) 19 true],zP 22 19 21,zv 8 22] a6T
def b0s:aB:= .seq (zs 2 2 [zv 14 2,zK 15 .eql 14 6] b0i) b0r
def b0t:aB:=zs 1 4 [zf 11 1 3,zl 12 11,zq 13 18 [12],zv 7 13] b0s
def c117:aB:=zs 0 2 [zX 3 8 0,zM 6 0] b0t
theorem k117:Compiled prog 117 62 [.tmp 6] c117:=kMk [] func117
def c126:aB:=zs 0 2 [zX 2 6 0,zW 4 false] (zs 1 4 [zv 6 1,zo 7 (.build [za,.t (.bool false)] [(0,(1,.tmp 6))]),zX 8 2 7,zv 5 8] (zs 2 3 [zv 9 5,zA 10 6 2,zc 11 105 [.tmp 9,.tmp 10,zi 8]] (zs 3 6 [zv 12 5,zC 13 12,zf 14 1 13,zl 15 14,zN 16 15,zv 4 16] .ret)))
theorem k126:Compiled prog 126 17 [.tmp 4] c126:=kMk [] func126
def b0u:aB:=zd 9 (zs 3 2 [zv 10 3,zv 2 10] .ret) .skip
def b0v:aB:=zs 2 2 [zv 8 3,zK 9 .neq 8 0] b0u
def b0w:aB:=zd 15 .skip (.exit 0)
def b0x:aB:=zd 25 (zs 9 2 [zv 26 5,zv 2 26] .ret) .skip
def b0y:aB:=zs 8 2 [zv 24 5,zK 25 .neq 24 0] b0x
def b0z:aB:= .seq (.block 1 (zs 7 7 [zf 18 5 1,zl 19 18,zv 20 4,zI 21 6 19 20,zA 22 6 21,zq 23 127 [22],zv 5 23] b0y)) (zr 6 3 [zv 16 4,zK 17 .add 16 1,zv 4 17])
def b0A:aB:= .seq (zs 5 5 [zv 11 4,zf 12 5 1,zl 13 12,zL 14 13,zB 15 .lss 11 14] b0w) b0z
def b0B:aB:= .block 0 (.loop b0A)
def b0C:aB:= .seq (zs 4 1 [zM 4 0] b0B) (zs 10 1 [zM 2 0] .ret)
def b0D:aB:= .seq (zs 1 3 [zA 6 6 1,zq 7 158 [6],zv 3 7] b0v) b0C
def c127:aB:=zs 0 2 [zX 1 6 0,zM 2 0] b0D
theorem k127:Compiled prog 127 27 [.tmp 2] c127:=kMk [] func127
def c133:aB:=zs 0 1 [zM 2 0] (.seq (zs 1 2 [zv 3 0,zq 4 30 [3]] (zd 4 (zs 2 1 [zM 2 40] .ret) .skip)) (zs 3 1 [zM 2 200] .ret))
theorem k133:Compiled prog 133 5 [.tmp 2] c133:=kMk [] func133
def b64:aB:=zd 15 .skip (.exit 0)
def b65:aB:=zd 26 (.seq (.region 5 true 13 [zv 27 0,zv 28 5,zI 29 1 27 28,zl 30 29,zv 31 1,zv 32 5,zI 33 1 31 32,zl 34 33,zB 35 .gtr 30 34,zq 36 19 [35],zo 37 (.bin .mul false (zi 2) (.tmp 36)),zK 38 .sub 37 1,zv 4 38]) .ret) .skip
def b66:aB:= .seq (.block 1 (.seq (.region 4 true 9 [zv 18 0,zv 19 5,zI 20 1 18 19,zl 21 20,zv 22 1,zv 23 5,zI 24 1 22 23,zl 25 24,zB 26 .neq 21 25]) b65)) (zr 3 3 [zv 16 5,zK 17 .add 16 1,zv 5 17])
def b67:aB:= .seq (zs 2 10 [zv 6 5,zv 7 0,zL 8 7,zB 9 .lss 6 8,zv 10 9,.grp 10 true [zg 11 (zm 5) 10 true,zg 12 (zm 1) 10 true,zg 13 (.len false (.tmp 12)) 10 true,zg 14 (zO .lss 11 13) 10 true],zP 15 10 14] b64) b66
def b68:aB:= .block 0 (.loop b67)
def b69:aB:= .seq (zs 1 1 [zM 5 0] b68) (zs 6 14 [zv 39 0,zL 40 39,zv 41 1,zL 42 41,zB 43 .gtr 40 42,zq 44 19 [43],zv 45 0,zL 46 45,zv 47 1,zL 48 47,zB 49 .lss 46 48,zq 50 19 [49],zB 51 .sub 44 50,zv 4 51] .ret)
def c138:aB:=zs 0 1 [zM 4 0] b69
theorem k138:Compiled prog 138 52 [.tmp 4] c138:=kMk [] func138
def b7a:aB:=zd 16 .skip (.exit 0)
def b7b:aB:=zd 29 (zs 6 2 [zv 30 6,zv 4 30] .ret) .skip
def b7c:aB:=zs 5 2 [zv 28 6,zK 29 .neq 28 0] b7b
def b7d:aB:= .seq (.block 1 (.seq (.region 4 true 10 [zv 19 0,zv 20 5,zI 21 6 19 20,zA 22 6 21,zv 23 1,zv 24 5,zI 25 6 23 24,zA 26 6 25,zq 27 100 [22,26],zv 6 27]) b7c)) (zr 3 3 [zv 17 5,zK 18 .add 17 1,zv 5 18])
def b7e:aB:= .seq (zs 2 10 [zv 7 5,zv 8 0,zL 9 8,zB 10 .lss 7 9,zv 11 10,.grp 11 true [zg 12 (zm 5) 11 true,zg 13 (zm 1) 11 true,zg 14 (.len false (.tmp 13)) 11 true,zg 15 (zO .lss 12 14) 11 true],zP 16 11 15] b7a) b7d
def b7f:aB:= .block 0 (.loop b7e)
def b7g:aB:= .seq (zs 1 1 [zM 5 0] b7f) (zs 7 14 [zv 31 0,zL 32 31,zv 33 1,zL 34 33,zB 35 .gtr 32 34,zq 36 19 [35],zv 37 0,zL 38 37,zv 39 1,zL 40 39,zB 41 .lss 38 40,zq 42 19 [41],zB 43 .sub 36 42,zv 4 43] .ret)
def c139:aB:=zs 0 1 [zM 4 0] b7g
theorem k139:Compiled prog 139 44 [.tmp 4] c139:=kMk [] func139
def c148:aB:=zs 0 1 [zW 2 false] (zs 1 7 [zv 3 0,zq 4 172 [3],zv 5 4,.grp 5 false [zg 6 (zm 0) 5 false,zg 7 (zU .eql 6 15) 5 false],zQ 8 5 7,zv 2 8] .ret)
theorem k148:Compiled prog 148 9 [.tmp 2] c148:=kMk [] func148
def c150:aB:=zs 0 1 [zW 2 false] (zs 1 3 [zv 3 0,zo 4 (.bin .gtr false (.tmp 3) (.con (.one (.t (.int .u8 127))))),zv 2 4] .ret)
theorem k150:Compiled prog 150 5 [.tmp 2] c150:=kMk [] func150
def c152:aB:=zs 0 1 [zW 4 false] (zs 1 8 [zv 8 0,zq 9 17 [8],zv 7 9,zE 10 0 7,zE 11 1 7,zo 5 (.alloc [.tt 2 []]),zS 1 5 10,zv 6 11] (zs 2 6 [zv 12 1,zo 13 (.lW (.tmp 12)),zo 14 (.mkfn 194 [.tmp 5]),zq 15 122 [13,14],zN 16 15,zv 4 16] .ret))
theorem k152:Compiled prog 152 17 [.tmp 4] c152:=kMk [] func152
def b0E:aB:=zd 7 (zs 2 1 [zM 2 4] .ret) .skip
def b0F:aB:=zd 10 (zr 5 1 [zM 3 4]) .skip
def b0G:aB:=zd 21 (zs 7 1 [zM 2 2] .ret) .skip
def b0H:aB:=zd 23 (zs 9 1 [zM 2 3] .ret) .skip
def b0I:aB:=zd 25 (zs 11 1 [zM 2 5] .ret) .skip
def b0J:aB:=zd 27 (zs 13 1 [zM 2 6] .ret) .skip
def b0K:aB:= .seq (zs 12 2 [zA 26 8 1,zq 27 197 [26]] b0J) (zs 14 3 [zA 28 8 1,zq 29 198 [28],zv 2 29] .ret)
def b0L:aB:= .seq (zs 10 2 [zA 24 8 1,zq 25 196 [24]] b0I) b0K
def b0M:aB:= .seq (zs 8 2 [zA 22 8 1,zq 23 195 [22]] b0H) b0L
def b0N:aB:= .seq (zs 6 11 [zf 11 2 1,zl 12 11,zL 13 12,zK 14 .gtr 13 3,zv 15 14,.grp 15 false [zg 16 (zF 3 1) 15 false,zg 17 (zy 16) 15 false,zg 18 (.len false (.tmp 17)) 15 false,zg 19 (zm 3) 15 false,zg 20 (zO .gtr 18 19) 15 false],zQ 21 15 20] b0G) b0M
def b0O:aB:= .seq (zs 4 3 [zf 8 0 1,zl 9 8,zK 10 .eql 9 15] b0F) b0N
def b0P:aB:=zs 3 1 [zM 3 16] b0O
def b0Q:aB:= .seq (zs 1 4 [zf 4 0 1,zl 5 4,zc 6 37 [.tmp 5,zi 0,zi 15],zN 7 6] b0E) b0P
def c153:aB:=zs 0 2 [zX 1 8 0,zM 2 0] b0Q
theorem k153:Compiled prog 153 30 [.tmp 2] c153:=kMk [] func153
def a0b:aB:=zd 13 (zs 2 1 [zM 2 4] .ret) .skip
def a0c:aB:=zd 69 (zs 5 1 [zM 2 5] .ret) .skip
def a0d:aB:=zd 71 (zs 7 1 [zM 2 3] .ret) .skip
def a0e:aB:=zd 74 (zr 10 1 [zM 4 16]) .skip
def a0f:aB:=zd 95 (zs 12 1 [zM 2 2] .ret) .skip
def a0g:aB:=zd 97 (zs 14 1 [zM 2 6] .ret) .skip
def a0h:aB:=zd 105 .skip (.exit 0)
def a0i:aB:=zd 119 (zs 20 1 [zM 2 17] .ret) .skip
def a0j:aB:= .seq (.block 1 (zs 19 12 [zf 108 3 1,zl 109 108,zv 110 5,zo 111 (.ixs (.tmp 109) (.tmp 110)),zo 112 (.bin .neq false (.tmp 111) (.con (.one (.t (.int .u8 48))))),zv 113 112,.br 113 true [zg 114 (zF 3 1) 113 true,zg 115 (zy 114) 113 true,zg 116 (zm 5) 113 true,zg 117 (.ixs (.tmp 115) (.tmp 116)) 113 true,zg 118 (.bin .neq false (.tmp 117) (.con (.one (.t (.int .u8 49))))) 113 true],zP 119 113 118] a0i)) (zr 18 3 [zv 106 5,zK 107 .add 106 1,zv 5 107])
def a0k:aB:= .seq (zs 17 5 [zv 101 5,zf 102 3 1,zl 103 102,zp 104 103,zB 105 .lss 101 104] a0h) a0j
def a0l:aB:= .block 0 (.loop a0k)
def a0m:aB:=zd 100 (zs 16 1 [zM 5 0] a0l) .skip
def a0n:aB:=zd 129 .skip (.exit 2)
def a0o:aB:=zd 136 (zs 25 1 [zM 2 17] .ret) .skip
def a0p:aB:= .seq (.block 3 (zs 24 5 [zf 132 3 1,zl 133 132,zv 134 6,zo 135 (.ixs (.tmp 133) (.tmp 134)),zo 136 (.bin .gtr false (.tmp 135) (.con (.one (.t (.int .u8 127)))))] a0o)) (zr 23 3 [zv 130 6,zK 131 .add 130 1,zv 6 131])
def a0q:aB:= .seq (zs 22 10 [zv 120 6,zf 121 3 1,zl 122 121,zp 123 122,zB 124 .lss 120 123,zv 125 124,.grp 125 true [zg 126 (zF 0 1) 125 true,zg 127 (zy 126) 125 true,zg 128 (zU .eql 127 6) 125 true],zP 129 125 128] a0n) a0p
def a0r:aB:= .block 2 (.loop a0q)
def a0s:aB:=zd 161 (zs 27 1 [zM 2 7] .ret) .skip
def a0t:aB:=zd 166 .skip (.exit 4)
def a0u:aB:=zd 175 (zs 32 1 [zM 2 7] .ret) .skip
def a0v:aB:= .seq (.block 5 (zs 31 7 [zf 169 4 1,zl 170 169,zv 171 7,zI 172 1 170 171,zl 173 172,zq 174 205 [173],zN 175 174] a0u)) (zr 30 3 [zv 167 7,zK 168 .add 167 1,zv 7 168])
def a0w:aB:= .seq (zs 29 5 [zv 162 7,zf 163 4 1,zl 164 163,zL 165 164,zB 166 .lss 162 165] a0t) a0v
def a0x:aB:= .block 4 (.loop a0w)
def a0y:aB:=zd 180 .skip (.exit 6)
def a0z:aB:=zd 192 (zs 37 1 [zM 2 13] .ret) .skip
def a0A:aB:= .seq (.block 7 (.seq (.region 36 true 10 [zf 183 4 1,zl 184 183,zv 185 8,zo 186 (.sl false 1 (.tmp 184) none (some (.tmp 185)) none),zf 187 4 1,zl 188 187,zv 189 8,zI 190 1 188 189,zl 191 190,zq 192 206 [186,191]]) a0z)) (zr 35 3 [zv 181 8,zK 182 .add 181 1,zv 8 182])
def a0B:aB:= .seq (zs 34 5 [zv 176 8,zf 177 4 1,zl 178 177,zL 179 178,zB 180 .lss 176 179] a0y) a0A
def a0C:aB:= .block 6 (.loop a0B)
def a0D:aB:=zd 202 .skip (.exit 8)
def a0E:aB:=zd 217 (zs 42 1 [zM 2 14] .ret) .skip
def a0F:aB:= .seq (.block 9 (.seq (.region 41 true 13 [zf 205 5 1,zl 206 205,zv 207 9,zK 208 .sub 207 1,zI 209 6 206 208,zA 210 6 209,zf 211 5 1,zl 212 211,zv 213 9,zI 214 6 212 213,zA 215 6 214,zq 216 100 [210,215],zK 217 .gtr 216 0]) a0E)) (zr 40 3 [zv 203 9,zK 204 .add 203 1,zv 9 204])
def a0G:aB:= .seq (zs 39 10 [zv 193 9,zf 194 5 1,zl 195 194,zL 196 195,zB 197 .lss 193 196,zv 198 197,.grp 198 true [zg 199 (zF 0 1) 198 true,zg 200 (zy 199) 198 true,zg 201 (zU .eql 200 11) 198 true],zP 202 198 201] a0D) a0F
def a0H:aB:= .block 8 (.loop a0G)
def a0I:aB:= .seq (zs 38 1 [zM 9 1] a0H) (zs 43 1 [zM 2 0] .ret)
def a0J:aB:= .seq (zs 33 1 [zM 8 0] a0C) a0I
def a0a:aB:= .seq (zs 28 1 [zM 7 0] a0x) a0J
def a0K:aB:= .seq (zs 26 25 [zf 137 0 1,zl 138 137,zK 139 .eql 138 3,zv 140 139,.br 140 true [zg 141 (zF 3 1) 140 true,zg 142 (zy 141) 140 true,.mk (some 143) (zw 205 [142]) (some (140,true)),zg 144 (zV 143) 140 true],zP 145 140 144,zv 146 145,.grp 146 false [zg 147 (zF 0 1) 146 false,zg 148 (zy 147) 146 false,zg 149 (zU .eql 148 13) 146 false,zg 150 (zm 149) 146 false],.grp 150 true [zg 151 (zF 3 1) 150 true,zg 152 (zy 151) 150 true,zg 153 (.bin .neq false (.tmp 152) zu) 150 true],.grp 146 false [zg 154 (.pick (.tmp 150) (.tmp 153) (zb false)) 146 false,zg 155 (zm 154) 146 false],.br 155 true [zg 156 (zF 3 1) 155 true,zg 157 (zy 156) 155 true,.mk (some 158) (zw 205 [157]) (some (155,true)),zg 159 (zV 158) 155 true],.grp 146 false [zg 160 (.pick (.tmp 155) (.tmp 159) (zb false)) 146 false],zQ 161 146 160] a0s) a0a
def a0L:aB:= .seq (zs 21 1 [zM 6 0] a0r) a0K
def a0M:aB:= .seq (zs 15 3 [zf 98 0 1,zl 99 98,zK 100 .eql 99 4] a0m) a0L
def a0N:aB:= .seq (zs 13 2 [zA 96 6 1,zq 97 204 [96]] a0g) a0M
def a0O:aB:= .seq (zs 11 21 [zf 75 3 1,zl 76 75,zp 77 76,zK 78 .gtr 77 200,zv 79 78,.grp 79 true [zg 80 (zF 0 1) 79 true,zg 81 (zy 80) 79 true,zg 82 (zU .neq 81 3) 79 true],zP 83 79 82,zv 84 83,.grp 84 true [zg 85 (zF 0 1) 84 true,zg 86 (zy 85) 84 true,zg 87 (zU .neq 86 13) 84 true],zP 88 84 87,zv 89 88,.grp 89 false [zg 90 (zF 5 1) 89 false,zg 91 (zy 90) 89 false,zg 92 (.len false (.tmp 91)) 89 false,zg 93 (zm 4) 89 false,zg 94 (zO .gtr 92 93) 89 false],zQ 95 89 94] a0f) a0N
def a0P:aB:= .seq (zs 9 3 [zf 72 0 1,zl 73 72,zK 74 .eql 73 9] a0e) a0O
def a0Q:aB:=zs 8 1 [zM 4 40] a0P
def a0R:aB:= .seq (zs 6 2 [zA 70 6 1,zq 71 203 [70]] a0d) a0Q
def a0S:aB:= .seq (zs 4 52 [zv 18 3,zN 19 18,zv 20 19,.grp 20 true [zg 21 (zF 1 1) 20 true,zg 22 (zy 21) 20 true,zg 23 (zU .neq 22 0) 20 true],zP 24 20 23,zv 25 24,.grp 25 false [zg 26 (zF 0 1) 25 false,zg 27 (zy 26) 25 false,zg 28 (zU .neq 27 8) 25 false,zg 29 (zm 28) 25 false],.grp 29 true [zg 30 (zF 2 1) 29 true,zg 31 (zy 30) 29 true,zg 32 (zU .neq 31 0) 29 true],.grp 25 false [zg 33 (.pick (.tmp 29) (.tmp 32) (zb false)) 25 false],zQ 34 25 33,zv 35 34,.br 35 false [zg 36 (zF 0 1) 35 false,zg 37 (zy 36) 35 false,.mk (some 38) (zw 200 [37]) (some (35,false)),zg 39 (zV 38) 35 false,zg 40 (zm 39) 35 false],.grp 40 true [zg 41 (zF 3 1) 40 true,zg 42 (zy 41) 40 true,zg 43 (.bin .neq false (.tmp 42) zu) 40 true],.grp 35 false [zg 44 (.pick (.tmp 40) (.tmp 43) (zb false)) 35 false],zQ 45 35 44,zv 46 45,.br 46 false [zg 47 (zF 0 1) 46 false,zg 48 (zy 47) 46 false,.mk (some 49) (zw 201 [48]) (some (46,false)),zg 50 (zV 49) 46 false,zg 51 (zm 50) 46 false],.grp 51 true [zg 52 (zF 4 1) 51 true,zg 53 (zy 52) 51 true,zg 54 (.len false (.tmp 53)) 51 true,zg 55 (zU .gtr 54 0) 51 true],.grp 46 false [zg 56 (.pick (.tmp 51) (.tmp 55) (zb false)) 46 false],zQ 57 46 56,zv 58 57,.br 58 false [zg 59 (zF 0 1) 58 false,zg 60 (zy 59) 58 false,.mk (some 61) (zw 202 [60]) (some (58,false)),zg 62 (zV 61) 58 false,zg 63 (zm 62) 58 false],.grp 63 true [zg 64 (zF 5 1) 63 true,zg 65 (zy 64) 63 true,zg 66 (.len false (.tmp 65)) 63 true,zg 67 (zU .gtr 66 0) 63 true],.grp 58 false [zg 68 (.pick (.tmp 63) (.tmp 67) (zb false)) 58 false],zQ 69 58 68] a0c) a0R
def a0T:aB:=zs 3 5 [zo 14 (.bslice 1 4 [za,za,za,za] [(0,(1,zi 1)),(1,(1,zi 2)),(2,(1,zi 8)),(3,(1,zi 14))]),zf 15 0 1,zl 16 15,zq 17 46 [14,16],zv 3 17] a0S
def a0U:aB:= .seq (zs 1 4 [zf 10 0 1,zl 11 10,zc 12 37 [.tmp 11,zi 0,zi 14],zN 13 12] a0b) a0T
def c158:aB:=zs 0 2 [zX 1 6 0,zM 2 0] a0U
theorem k158:Compiled prog 158 218 [.tmp 2] c158:=kMk [] func158
def d0K:aB:=zs 2 1 [zB 9 .lss 8 7] (.seq (zd 9 .skip (.exit 0)) (.seq (.block 1 (zs 3 2 [zv 10 8,zv 5 10] (zs 4 6 [zv 11 1,zv 12 0,zv 13 5,zI 14 1 12 13,zl 15 14,.one (.mk (some 16) (.callv (.tmp 11) [.tmp 15]) none)] (zd 16 (zs 5 2 [zv 17 5,zv 4 17] .ret) .skip)))) (zr 6 2 [zK 18 .add 8 1,zv 8 18])))
def c156:aB:=zs 0 1 [zM 4 0] (.seq (zs 1 3 [zv 6 0,zL 7 6,zM 8 0] (.block 0 (.loop d0K))) (zs 7 1 [zM 4 (-1)] .ret))
theorem k156:Compiled prog 156 19 [.tmp 4] c156:=kMk [] func156
def c174:aB:=zs 0 2 [zX 2 13 0,zW 3 false] (zs 1 6 [zf 4 0 1,zl 5 4,zA 6 13 2,zq 7 175 [5,6],zN 8 7,zv 3 8] .ret)
theorem k174:Compiled prog 174 9 [.tmp 3] c174:=kMk [] func174
def c175:aB:=zs 0 2 [zX 3 13 1,zW 4 false] (zs 1 15 [zf 6 10 3,zl 7 6,zK 8 .eql 7 0,zv 9 8,.grp 9 true [zg 10 (zF 11 3) 9 true,zg 11 (zy 10) 9 true,zg 12 (.len false (.tmp 11)) 9 true,zg 13 (zU .eql 12 0) 9 true],zP 14 9 13,zv 15 14,.grp 15 true [zg 16 (zF 12 3) 15 true,zg 17 (zy 16) 15 true,zg 18 (zU .eql 17 0) 15 true],zP 19 15 18,zv 5 19] (.seq (zs 2 1 [zv 20 0] (.block 0 (zs 3 2 [zK 22 .eql 20 3,zv 21 22] (zd 21 (zs 4 7 [zv 23 5,zv 24 23,.br 24 true [zg 25 (zF 2 3) 24 true,zg 26 (zt 8 25) 24 true,.mk (some 27) (zw 214 [26]) (some (24,true))],zP 28 24 27,zv 4 28] .ret) (zs 5 2 [zK 30 .eql 20 14,zv 29 30] (zd 29 (zs 6 12 [zv 31 5,zv 32 31,.br 32 true [zg 33 (zF 2 3) 32 true,zg 34 (zt 8 33) 32 true,.mk (some 35) (zw 214 [34]) (some (32,true))],zP 36 32 35,zv 37 36,.grp 37 true [zg 38 (zF 1 3) 37 true,zg 39 (zy 38) 37 true,zg 40 (zU .eql 39 0) 37 true],zP 41 37 40,zv 4 41] .ret) (zs 7 2 [zK 43 .eql 20 15,zv 42 43] (zd 42 (zs 8 12 [zv 44 5,zv 45 44,.grp 45 true [zg 46 (zF 1 3) 45 true,zg 47 (zy 46) 45 true,zg 48 (zU .eql 47 0) 45 true],zP 49 45 48,zv 50 49,.grp 50 true [zg 51 (zF 0 3) 50 true,zg 52 (zy 51) 50 true,zg 53 (.bin .eql false (.tmp 52) zu) 50 true],zP 54 50 53,zv 4 54] .ret) (zs 9 2 [zK 56 .eql 20 13,zv 55 56] (zd 55 (zs 10 15 [zf 57 1 3,zl 58 57,zK 59 .eql 58 0,zv 60 59,.grp 60 true [zg 61 (zF 10 3) 60 true,zg 62 (zy 61) 60 true,zg 63 (zU .eql 62 0) 60 true],zP 64 60 63,zv 65 64,.grp 65 true [zg 66 (zF 11 3) 65 true,zg 67 (zy 66) 65 true,zg 68 (.len false (.tmp 67)) 65 true,zg 69 (zU .eql 68 0) 65 true],zP 70 65 69,zv 4 70] .ret) .skip)))))))))) (zs 11 15 [zf 71 1 3,zl 72 71,zK 73 .eql 72 0,zv 74 73,.grp 74 true [zg 75 (zF 10 3) 74 true,zg 76 (zy 75) 74 true,zg 77 (zU .eql 76 2) 74 true,zg 78 (zm 77) 74 true],.grp 78 false [zg 79 (zF 11 3) 78 false,zg 80 (zy 79) 78 false,zg 81 (.len false (.tmp 80)) 78 false,zg 82 (zU .eql 81 0) 78 false],.grp 74 true [zg 83 (.pick (.tmp 78) (zb true) (.tmp 82)) 74 true],zP 84 74 83,zv 4 84] .ret)))
theorem k175:Compiled prog 175 85 [.tmp 4] c175:=kMk [] func175
def c176:aB:=zs 0 2 [zX 1 13 0,zW 2 false] (zs 1 4 [zf 3 12 1,zl 4 3,zK 5 .neq 4 0,zv 2 5] .ret)
theorem k176:Compiled prog 176 6 [.tmp 2] c176:=kMk [] func176
def c183:aB:=zs 0 2 [zX 1 13 0,zW 2 false] (zs 1 5 [zf 3 1 1,zl 4 3,zq 5 184 [4],zN 6 5,zv 2 6] .ret)
theorem k183:Compiled prog 183 7 [.tmp 2] c183:=kMk [] func183
def c194:aB:=zs 0 1 [zW 3 false] (zs 1 6 [zl 4 1,zv 5 0,zo 6 (.dO .i64 (.tmp 5)),zq 7 120 [4,6],zN 8 7,zv 3 8] .ret)
theorem k194:Compiled prog 194 9 [.tmp 3] c194:=kMk [] func194
def b0R:aB:=zd 10 .skip (.exit 0)
def b0S:aB:=zd 33 (zs 6 1 [zW 2 true] .ret) .skip
def b0T:aB:=zs 5 16 [zf 18 0 4,zl 19 18,zc 20 37 [.tmp 19,zi 1,zi 3],zN 21 20,zv 22 21,.br 22 false [zg 23 (zF 1 4) 22 false,zg 24 (zy 23) 22 false,.mk (some 25) (.call 37 [.tmp 24,zi 0,zi 100000]) (some (22,false)),zg 26 (zV 25) 22 false],zQ 27 22 26,zv 28 27,.br 28 false [zg 29 (zF 2 4) 28 false,zg 30 (zy 29) 28 false,.mk (some 31) (.call 37 [.tmp 30,zi 0,zi 2]) (some (28,false)),zg 32 (zV 31) 28 false],zQ 33 28 32] b0S
def b0U:aB:= .seq (.block 1 (zs 4 7 [zf 13 2 1,zl 14 13,zv 15 3,zI 16 3 14 15,zA 17 3 16,zo 4 (.alloc [za,za,za]),zS 3 4 17] b0T)) (zr 3 3 [zv 11 3,zK 12 .add 11 1,zv 3 12])
def b0V:aB:= .seq (zs 2 5 [zv 6 3,zf 7 2 1,zl 8 7,zL 9 8,zB 10 .lss 6 9] b0R) b0U
def b0W:aB:= .block 0 (.loop b0V)
def b0X:aB:=zd 38 .skip (.exit 2)
def b0Y:aB:=zd 57 (zs 11 1 [zW 2 true] .ret) .skip
def b0Z:aB:= .seq (.block 3 (zs 10 17 [zf 41 3 1,zl 42 41,zv 43 5,zI 44 13 42 43,zf 45 10 44,zl 46 45,zc 47 37 [.tmp 46,zi 0,zi 2],zN 48 47,zv 49 48,.br 49 false [zg 50 (zF 3 1) 49 false,zg 51 (zy 50) 49 false,zg 52 (zm 5) 49 false,zg 53 (.ia 13 (.tmp 51) (.tmp 52)) 49 false,zg 54 (zF 12 53) 49 false,zg 55 (zy 54) 49 false,zg 56 (zU .lss 55 0) 49 false],zQ 57 49 56] b0Y)) (zr 9 3 [zv 39 5,zK 40 .add 39 1,zv 5 40])
def b00:aB:= .seq (zs 8 5 [zv 34 5,zf 35 3 1,zl 36 35,zL 37 36,zB 38 .lss 34 37] b0X) b0Z
def b01:aB:= .block 2 (.loop b00)
def b02:aB:= .seq (zs 7 1 [zM 5 0] b01) (zs 12 8 [zf 58 5 1,zl 59 58,zf 60 3 1,zl 61 60,zL 62 61,zc 63 37 [.tmp 59,zi 0,.tmp 62],zN 64 63,zv 2 64] .ret)
def b03:aB:= .seq (zs 1 1 [zM 3 0] b0W) b02
def c195:aB:=zs 0 2 [zX 1 8 0,zW 2 false] b03
theorem k195:Compiled prog 195 65 [.tmp 2] c195:=kMk [] func195
def a2d:aB:=zd 123 (zs 6 1 [zW 2 true] .ret) .skip
def a2e:aB:=zd 128 .skip (.exit 0)
def a2f:aB:=zd 169 (zs 12 1 [zW 2 true] .ret) .skip
def a2g:aB:=zd 221 (zs 14 1 [zW 2 true] .ret) .skip
def a2h:aB:=zs 13 52 [zf 170 0 1,zl 171 170,zq 172 235 [171],zN 173 172,zv 174 173,.grp 174 true [zg 175 (zF 10 8) 174 true,zg 176 (zy 175) 174 true,zg 177 (zU .neq 176 0) 174 true,zg 178 (zm 177) 174 true],.grp 178 false [zg 179 (zF 11 8) 178 false,zg 180 (zy 179) 178 false,zg 181 (.len false (.tmp 180)) 178 false,zg 182 (zU .gtr 181 0) 178 false],.grp 174 true [zg 183 (.pick (.tmp 178) (zb true) (.tmp 182)) 174 true,zg 184 (zm 183) 174 true],.grp 184 false [zg 185 (zF 12 8) 184 false,zg 186 (zy 185) 184 false,zg 187 (zU .neq 186 0) 184 false],.grp 174 true [zg 188 (.pick (.tmp 184) (zb true) (.tmp 187)) 174 true],zP 189 174 188,zv 190 189,.grp 190 false [zg 191 (zF 0 1) 190 false,zg 192 (zy 191) 190 false,zg 193 (zU .eql 192 13) 190 false,zg 194 (zm 193) 190 false],.grp 194 true [zg 195 (zF 10 8) 194 true,zg 196 (zy 195) 194 true,zg 197 (zU .neq 196 0) 194 true],.grp 190 false [zg 198 (.pick (.tmp 194) (.tmp 197) (zb false)) 190 false],zQ 199 190 198,zv 200 199,.grp 200 false [zg 201 (zF 11 8) 200 false,zg 202 (zy 201) 200 false,zg 203 (.len false (.tmp 202)) 200 false,zg 204 (zU .gtr 203 0) 200 false,zg 205 (zm 204) 200 false],.grp 205 true [zg 206 (zF 10 8) 205 true,zg 207 (zy 206) 205 true,zg 208 (zU .neq 207 2) 205 true],.grp 200 false [zg 209 (.pick (.tmp 205) (.tmp 208) (zb false)) 200 false],zQ 210 200 209,zv 211 210,.grp 211 false [zg 212 (zF 12 8) 211 false,zg 213 (zy 212) 211 false,zg 214 (zU .neq 213 0) 211 false,zg 215 (zm 214) 211 false],.grp 215 true [zg 216 (zm 7) 215 true,zg 217 (zF 5 1) 215 true,zg 218 (zy 217) 215 true,zg 219 (zO .lss 216 218) 215 true],.grp 211 false [zg 220 (.pick (.tmp 215) (.tmp 219) (zb false)) 211 false],zQ 221 211 220] a2g
def a2i:aB:= .seq (zs 11 34 [zf 136 1 8,zl 137 136,zK 138 .neq 137 0,zv 139 138,.grp 139 true [zg 140 (zF 0 1) 139 true,zg 141 (zy 140) 139 true,zg 142 (zU .neq 141 3) 139 true],zP 143 139 142,zv 144 143,.grp 144 false [zg 145 (zF 0 8) 144 false,zg 146 (zy 145) 144 false,zg 147 (.bin .neq false (.tmp 146) zu) 144 false,zg 148 (zm 147) 144 false],.grp 148 true [zg 149 (zF 0 1) 148 true,zg 150 (zy 149) 148 true,zg 151 (zU .eql 150 15) 148 true],.grp 144 false [zg 152 (.pick (.tmp 148) (.tmp 151) (zb false)) 144 false],zQ 153 144 152,zv 154 153,.br 154 false [zg 155 (zF 2 8) 154 false,zg 156 (zt 8 155) 154 false,.mk (some 157) (zw 237 [156]) (some (154,false)),zg 158 (zV 157) 154 false,zg 159 (zm 158) 154 false],.grp 159 true [zg 160 (zF 0 1) 159 true,zg 161 (zy 160) 159 true,zg 162 (zU .eql 161 3) 159 true,zg 163 (zm 162) 159 true],.grp 163 false [zg 164 (zF 0 1) 163 false,zg 165 (zy 164) 163 false,zg 166 (zU .eql 165 14) 163 false],.grp 159 true [zg 167 (.pick (.tmp 163) (zb true) (.tmp 166)) 159 true],.grp 154 false [zg 168 (.pick (.tmp 159) (.tmp 167) (zb false)) 154 false],zQ 169 154 168] a2f) a2h
def a2j:aB:= .seq (.block 1 (zs 10 7 [zf 131 3 1,zl 132 131,zv 133 7,zI 134 13 132 133,zA 135 13 134,zo 8 (.alloc [.t (.str (bs [])),za,za,.t (.str (bs [])),.tt 3 [],.tt 13 [],.t (.bool false),za,.tt 8 [],.tt 5 [],za,.tt 6 [],za]),zS 13 8 135] a2i)) (zr 9 3 [zv 129 7,zK 130 .add 129 1,zv 7 130])
def a2k:aB:= .seq (zs 8 5 [zv 124 7,zf 125 3 1,zl 126 125,zL 127 126,zB 128 .lss 124 127] a2e) a2j
def a2l:aB:= .block 0 (.loop a2k)
def a2m:aB:= .seq (zs 7 1 [zM 7 0] a2l) (zs 15 1 [zW 2 false] .ret)
def a2n:aB:= .seq (zs 5 68 [zv 56 3,zN 57 56,zv 58 57,.grp 58 true [zg 59 (zF 1 1) 58 true,zg 60 (zy 59) 58 true,zg 61 (.bin .neq false (.tmp 60) zu) 58 true],zP 62 58 61,zv 63 62,.grp 63 false [zg 64 (zm 4) 63 false,zg 65 (zV 64) 63 false,zg 66 (zm 65) 63 false],.grp 66 true [zg 67 (zF 3 1) 66 true,zg 68 (zy 67) 66 true,zg 69 (.len false (.tmp 68)) 66 true,zg 70 (zU .gtr 69 0) 66 true],.grp 63 false [zg 71 (.pick (.tmp 66) (.tmp 70) (zb false)) 63 false],zQ 72 63 71,zv 73 72,.grp 73 false [zg 74 (zm 5) 73 false,zg 75 (zV 74) 73 false,zg 76 (zm 75) 73 false],.grp 76 true [zg 77 (zF 4 1) 76 true,zg 78 (zy 77) 76 true,zg 79 (zm 78) 76 true],.grp 79 false [zg 80 (zF 5 1) 79 false,zg 81 (zy 80) 79 false,zg 82 (zU .neq 81 0) 79 false],.grp 76 true [zg 83 (.pick (.tmp 79) (zb true) (.tmp 82)) 76 true],.grp 73 false [zg 84 (.pick (.tmp 76) (.tmp 83) (zb false)) 73 false],zQ 85 73 84,zv 86 85,.grp 86 false [zg 87 (zm 5) 86 false,zg 88 (zm 87) 86 false],.grp 88 true [zg 89 (zF 4 1) 88 true,zg 90 (zy 89) 88 true,zg 91 (zV 90) 88 true],.grp 86 false [zg 92 (.pick (.tmp 88) (.tmp 91) (zb false)) 86 false,zg 93 (zm 92) 86 false],.grp 93 true [zg 94 (zF 5 1) 93 true,zg 95 (zy 94) 93 true,zg 96 (zF 3 1) 93 true,zg 97 (zy 96) 93 true,zg 98 (.len false (.tmp 97)) 93 true,zg 99 (zO .neq 95 98) 93 true],.grp 86 false [zg 100 (.pick (.tmp 93) (.tmp 99) (zb false)) 86 false],zQ 101 86 100,zv 102 101,.grp 102 false [zg 103 (zm 6) 102 false,zg 104 (zV 103) 102 false,zg 105 (zm 104) 102 false],.grp 105 true [zg 106 (zF 6 1) 105 true,zg 107 (zy 106) 105 true,zg 108 (.len false (.tmp 107)) 105 true,zg 109 (zU .gtr 108 0) 105 true],.grp 102 false [zg 110 (.pick (.tmp 105) (.tmp 109) (zb false)) 102 false],zQ 111 102 110,zv 112 111,.br 112 false [zg 113 (zF 0 1) 112 false,zg 114 (zy 113) 112 false,.mk (some 115) (zw 236 [114]) (some (112,false)),zg 116 (zV 115) 112 false,zg 117 (zm 116) 112 false],.grp 117 true [zg 118 (zF 7 1) 117 true,zg 119 (zy 118) 117 true,zg 120 (.len false (.tmp 119)) 117 true,zg 121 (zU .gtr 120 0) 117 true],.grp 112 false [zg 122 (.pick (.tmp 117) (.tmp 121) (zb false)) 112 false],zQ 123 112 122] a2d) a2m
def a2o:aB:=zs 4 9 [zf 48 0 1,zl 49 48,zK 50 .eql 49 11,zv 51 50,.grp 51 false [zg 52 (zF 0 1) 51 false,zg 53 (zy 52) 51 false,zg 54 (zU .eql 53 12) 51 false],zQ 55 51 54,zv 6 55] a2n
def a2p:aB:=zs 3 9 [zf 40 0 1,zl 41 40,zq 42 235 [41],zv 43 42,.grp 43 false [zg 44 (zF 0 1) 43 false,zg 45 (zy 44) 43 false,zg 46 (zU .eql 45 3) 43 false],zQ 47 43 46,zv 5 47] a2o
def a2q:aB:=zs 2 19 [zf 22 0 1,zl 23 22,zq 24 235 [23],zv 25 24,.grp 25 false [zg 26 (zF 0 1) 25 false,zg 27 (zy 26) 25 false,zg 28 (zU .eql 27 3) 25 false],zQ 29 25 28,zv 30 29,.grp 30 false [zg 31 (zF 0 1) 30 false,zg 32 (zy 31) 30 false,zg 33 (zU .eql 32 14) 30 false],zQ 34 30 33,zv 35 34,.grp 35 false [zg 36 (zF 0 1) 35 false,zg 37 (zy 36) 35 false,zg 38 (zU .eql 37 15) 35 false],zQ 39 35 38,zv 4 39] a2p
def a2r:aB:=zs 1 14 [zf 9 0 1,zl 10 9,zK 11 .eql 10 6,zv 12 11,.grp 12 false [zg 13 (zF 0 1) 12 false,zg 14 (zy 13) 12 false,zg 15 (zU .eql 14 14) 12 false],zQ 16 12 15,zv 17 16,.grp 17 false [zg 18 (zF 0 1) 17 false,zg 19 (zy 18) 17 false,zg 20 (zU .eql 19 15) 17 false],zQ 21 17 20,zv 3 21] a2q
def c196:aB:=zs 0 2 [zX 1 8 0,zW 2 false] a2r
theorem k196:Compiled prog 196 222 [.tmp 2] c196:=kMk [] func196
def a2s:aB:=zd 23 (zs 2 1 [zW 2 true] .ret) .skip
def a2t:aB:=zd 36 (zs 4 1 [zW 2 true] .ret) .skip
def a2u:aB:=zd 67 (zs 6 1 [zW 2 true] .ret) .skip
def a2v:aB:=zd 72 .skip (.exit 0)
def a2w:aB:=zd 91 (zs 11 1 [zW 2 true] .ret) .skip
def a2x:aB:= .seq (.block 1 (zs 10 17 [zf 75 3 1,zl 76 75,zv 77 3,zI 78 13 76 77,zf 79 10 78,zl 80 79,zK 81 .eql 80 2,zv 82 81,.br 82 true [zg 83 (zF 3 1) 82 true,zg 84 (zy 83) 82 true,zg 85 (zm 3) 82 true,zg 86 (.ia 13 (.tmp 84) (.tmp 85)) 82 true,zg 87 (zF 11 86) 82 true,zg 88 (zy 87) 82 true,zg 89 (.len false (.tmp 88)) 82 true,zg 90 (zU .neq 89 1) 82 true],zP 91 82 90] a2w)) (zr 9 3 [zv 73 3,zK 74 .add 73 1,zv 3 74])
def a2y:aB:= .seq (zs 8 5 [zv 68 3,zf 69 3 1,zl 70 69,zL 71 70,zB 72 .lss 68 71] a2v) a2x
def a2z:aB:= .block 0 (.loop a2y)
def a2A:aB:= .seq (zs 7 1 [zM 3 0] a2z) (zs 12 1 [zW 2 false] .ret)
def a2B:aB:= .seq (zs 5 31 [zf 37 0 1,zl 38 37,zK 39 .eql 38 14,zv 40 39,.grp 40 true [zg 41 (zF 1 1) 40 true,zg 42 (zy 41) 40 true,zg 43 (.bin .eql false (.tmp 42) zu) 40 true,zg 44 (zm 43) 40 true],.grp 44 true [zg 45 (zF 3 1) 44 true,zg 46 (zy 45) 44 true,zg 47 (.len false (.tmp 46)) 44 true,zg 48 (zU .gtr 47 0) 44 true],.grp 40 true [zg 49 (.pick (.tmp 44) (.tmp 48) (zb false)) 40 true,zg 50 (zm 49) 40 true],.grp 50 false [zg 51 (zF 1 1) 50 false,zg 52 (zy 51) 50 false,zg 53 (.bin .neq false (.tmp 52) zu) 50 false,zg 54 (zm 53) 50 false],.grp 54 true [zg 55 (zF 3 1) 54 true,zg 56 (zy 55) 54 true,zg 57 (.len false (.tmp 56)) 54 true,zg 58 (zU .neq 57 2) 54 true],.grp 50 false [zg 59 (.pick (.tmp 54) (.tmp 58) (zb false)) 50 false,zg 60 (zm 59) 50 false],.grp 60 true [zg 61 (zF 3 1) 60 true,zg 62 (zy 61) 60 true,zg 63 (.len false (.tmp 62)) 60 true,zg 64 (zU .neq 63 3) 60 true],.grp 50 false [zg 65 (.pick (.tmp 60) (.tmp 64) (zb false)) 50 false],.grp 40 true [zg 66 (.pick (.tmp 50) (zb true) (.tmp 65)) 40 true],zP 67 40 66] a2u) a2A
def a2C:aB:= .seq (zs 3 13 [zf 24 0 1,zl 25 24,zK 26 .eql 25 13,zv 27 26,.grp 27 false [zg 28 (zF 0 1) 27 false,zg 29 (zy 28) 27 false,zg 30 (zU .eql 29 3) 27 false],zQ 31 27 30,zv 32 31,.grp 32 true [zg 33 (zF 5 1) 32 true,zg 34 (zy 33) 32 true,zg 35 (zU .lss 34 1) 32 true],zP 36 32 35] a2t) a2B
def a2D:aB:= .seq (zs 1 20 [zf 4 0 1,zl 5 4,zK 6 .eql 5 11,zv 7 6,.grp 7 false [zg 8 (zF 0 1) 7 false,zg 9 (zy 8) 7 false,zg 10 (zU .eql 9 12) 7 false],zQ 11 7 10,zv 12 11,.grp 12 true [zg 13 (zF 6 1) 12 true,zg 14 (zy 13) 12 true,zg 15 (.len false (.tmp 14)) 12 true,zg 16 (zU .neq 15 1) 12 true],zP 17 12 16,zv 18 17,.br 18 false [zg 19 (zF 7 1) 18 false,zg 20 (zy 19) 18 false,.mk (some 21) (zw 238 [20]) (some (18,false)),zg 22 (zV 21) 18 false],zQ 23 18 22] a2s) a2C
def c197:aB:=zs 0 2 [zX 1 8 0,zW 2 false] a2D
theorem k197:Compiled prog 197 92 [.tmp 2] c197:=kMk [] func197
def a2E:aB:=zd 46 (zs 2 1 [zM 2 7] .ret) .skip
def a2F:aB:=zd 56 .skip (.exit 0)
def a2G:aB:=zd 66 (zs 7 1 [zM 2 7] .ret) .skip
def a2H:aB:= .seq (.block 1 (zs 6 8 [zf 59 3 1,zl 60 59,zv 61 3,zI 62 13 60 61,zf 63 0 62,zl 64 63,zq 65 205 [64],zN 66 65] a2G)) (zr 5 3 [zv 57 3,zK 58 .add 57 1,zv 3 58])
def a2I:aB:= .seq (zs 4 10 [zv 47 3,zf 48 3 1,zl 49 48,zL 50 49,zB 51 .lss 47 50,zv 52 51,.grp 52 true [zg 53 (zF 0 1) 52 true,zg 54 (zy 53) 52 true,zg 55 (zU .neq 54 15) 52 true],zP 56 52 55] a2F) a2H
def a2J:aB:= .block 0 (.loop a2I)
def a2K:aB:=zd 81 .skip (.exit 2)
def a2L:aB:=zd 86 .skip (.exit 4)
def a2M:aB:=zd 121 (zs 15 1 [zM 2 13] .ret) .skip
def a2N:aB:= .seq (.block 5 (.seq (.region 14 true 33 [zf 89 3 1,zl 90 89,zv 91 5,zI 92 13 90 91,zf 93 0 92,zl 94 93,zf 95 3 1,zl 96 95,zv 97 4,zI 98 13 96 97,zf 99 0 98,zl 100 99,zB 101 .eql 94 100,zv 102 101,.grp 102 false [zg 103 (zF 0 1) 102 false,zg 104 (zy 103) 102 false,zg 105 (zU .eql 104 3) 102 false,zg 106 (zm 105) 102 false],.br 106 true [zg 107 (zF 3 1) 106 true,zg 108 (zy 107) 106 true,zg 109 (zm 5) 106 true,zg 110 (.ia 13 (.tmp 108) (.tmp 109)) 106 true,zg 111 (zF 1 110) 106 true,zg 112 (zy 111) 106 true,zg 113 (zF 3 1) 106 true,zg 114 (zy 113) 106 true,zg 115 (zm 4) 106 true,zg 116 (.ia 13 (.tmp 114) (.tmp 115)) 106 true,zg 117 (zF 1 116) 106 true,zg 118 (zy 117) 106 true,zg 119 (zO .eql 112 118) 106 true],.grp 102 false [zg 120 (.pick (.tmp 106) (.tmp 119) (zb false)) 102 false],zQ 121 102 120]) a2M)) (zr 13 3 [zv 87 5,zK 88 .add 87 1,zv 5 88])
def a2O:aB:= .seq (zs 12 3 [zv 84 5,zv 85 4,zB 86 .lss 84 85] a2L) a2N
def a2P:aB:= .block 4 (.loop a2O)
def a2Q:aB:= .seq (.block 3 (zs 11 1 [zM 5 0] a2P)) (zr 10 3 [zv 82 4,zK 83 .add 82 1,zv 4 83])
def a2R:aB:= .seq (zs 9 15 [zv 67 4,zf 68 3 1,zl 69 68,zL 70 69,zB 71 .lss 67 70,zv 72 71,.br 72 true [zg 73 (zF 0 1) 72 true,zg 74 (zy 73) 72 true,.mk (some 75) (zw 235 [74]) (some (72,true)),zg 76 (zm 75) 72 true],.grp 76 false [zg 77 (zF 0 1) 76 false,zg 78 (zy 77) 76 false,zg 79 (zU .eql 78 3) 76 false],.grp 72 true [zg 80 (.pick (.tmp 76) (zb true) (.tmp 79)) 72 true],zP 81 72 80] a2K) a2Q
def a2S:aB:= .block 2 (.loop a2R)
def a2T:aB:=zd 133 .skip (.exit 6)
def a2U:aB:=zd 152 (zs 23 1 [zM 2 14] .ret) .skip
def a2V:aB:=zd 148 (.seq (zs 22 4 [zv 149 9,zv 150 6,zK 151 .add 150 1,zB 152 .neq 149 151] a2U) (zr 24 2 [zv 153 9,zv 6 153])) .skip
def a2W:aB:= .seq (zs 21 7 [zv 142 9,zK 143 .neq 142 0,zv 144 143,.grp 144 true [zg 145 (zm 9) 144 true,zg 146 (zm 7) 144 true,zg 147 (zO .neq 145 146) 144 true],zP 148 144 147] a2V) (zr 25 2 [zv 154 9,zv 7 154])
def a2X:aB:= .seq (.block 7 (zs 20 7 [zf 136 3 1,zl 137 136,zv 138 8,zI 139 13 137 138,zf 140 12 139,zl 141 140,zv 9 141] a2W)) (zr 19 3 [zv 134 8,zK 135 .add 134 1,zv 8 135])
def a2Y:aB:= .seq (zs 18 10 [zv 124 8,zf 125 3 1,zl 126 125,zL 127 126,zB 128 .lss 124 127,zv 129 128,.br 129 true [zg 130 (zF 0 1) 129 true,zg 131 (zy 130) 129 true,.mk (some 132) (zw 235 [131]) (some (129,true))],zP 133 129 132] a2T) a2X
def a2Z:aB:= .block 6 (.loop a2Y)
def a22:aB:=zd 164 .skip (.exit 8)
def a25:aB:=zd 174 (zs 30 1 [zM 2 3] .ret) .skip
def a27:aB:= .seq (.block 9 (zs 29 8 [zf 167 3 1,zl 168 167,zv 169 10,zI 170 13 168 169,zf 171 1 170,zl 172 171,zc 173 37 [.tmp 172,zi (-1152921504606846976),zi 1152921504606846976],zN 174 173] a25)) (zr 28 3 [zv 165 10,zK 166 .add 165 1,zv 10 166])
def a29:aB:= .seq (zs 27 10 [zv 155 10,zf 156 3 1,zl 157 156,zL 158 157,zB 159 .lss 155 158,zv 160 159,.grp 160 true [zg 161 (zF 0 1) 160 true,zg 162 (zy 161) 160 true,zg 163 (zU .eql 162 3) 160 true],zP 164 160 163] a22) a27
def a3a:aB:= .block 8 (.loop a29)
def a3b:aB:= .seq (zs 26 1 [zM 10 0] a3a) (zs 31 1 [zM 2 0] .ret)
def a3c:aB:= .seq (zs 17 3 [zf 122 5 1,zl 123 122,zv 8 123] a2Z) a3b
def a3d:aB:=zs 16 2 [zM 6 0,zM 7 0] a3c
def a3e:aB:= .seq (zs 8 1 [zM 4 0] a2S) a3d
def a3f:aB:= .seq (zs 3 1 [zM 3 0] a2J) a3e
def a3g:aB:= .seq (zs 1 36 [zf 11 0 1,zl 12 11,zK 13 .eql 12 6,zv 14 13,.br 14 true [zg 15 (zF 1 1) 14 true,zg 16 (zy 15) 14 true,.mk (some 17) (zw 239 [16]) (some (14,true)),zg 18 (zV 17) 14 true],zP 19 14 18,zv 20 19,.grp 20 false [zg 21 (zF 0 1) 20 false,zg 22 (zy 21) 20 false,zg 23 (zU .eql 22 15) 20 false,zg 24 (zm 23) 20 false],.br 24 true [zg 25 (zF 1 1) 24 true,zg 26 (zy 25) 24 true,.mk (some 27) (zw 205 [26]) (some (24,true)),zg 28 (zV 27) 24 true],.grp 20 false [zg 29 (.pick (.tmp 24) (.tmp 28) (zb false)) 20 false],zQ 30 20 29,zv 31 30,.grp 31 false [zg 32 (zF 0 1) 31 false,zg 33 (zy 32) 31 false,zg 34 (zU .eql 33 14) 31 false,zg 35 (zm 34) 31 false],.grp 35 true [zg 36 (zF 1 1) 35 true,zg 37 (zy 36) 35 true,zg 38 (.bin .neq false (.tmp 37) zu) 35 true],.grp 31 false [zg 39 (.pick (.tmp 35) (.tmp 38) (zb false)) 31 false,zg 40 (zm 39) 31 false],.br 40 true [zg 41 (zF 1 1) 40 true,zg 42 (zy 41) 40 true,.mk (some 43) (zw 205 [42]) (some (40,true)),zg 44 (zV 43) 40 true],.grp 31 false [zg 45 (.pick (.tmp 40) (.tmp 44) (zb false)) 31 false],zQ 46 31 45] a2E) a3f
def c198:aB:=zs 0 2 [zX 1 8 0,zM 2 0] a3g
theorem k198:Compiled prog 198 175 [.tmp 2] c198:=kMk [] func198
def d0L:aB:=zs 2 1 [zB 9 .lss 8 7] (.seq (zd 9 .skip (.exit 0)) (.seq (.block 1 (zs 3 2 [zv 10 8,zv 5 10] (zs 4 6 [zv 11 1,zv 12 0,zv 13 5,zI 14 2 12 13,zA 15 2 14,.one (.mk (some 16) (.callv (.tmp 11) [.tmp 15]) none)] (zd 16 (zs 5 2 [zv 17 5,zv 4 17] .ret) .skip)))) (zr 6 2 [zK 18 .add 8 1,zv 8 18])))
def c199:aB:=zs 0 1 [zM 4 0] (.seq (zs 1 3 [zv 6 0,zL 7 6,zM 8 0] (.block 0 (.loop d0L))) (zs 7 1 [zM 4 (-1)] .ret))
theorem k199:Compiled prog 199 19 [.tmp 4] c199:=kMk [] func199
def c200:aB:=zs 0 1 [zW 2 false] (zs 1 4 [zo 3 (.bslice 1 5 [za,za,za,za,za] [(0,(1,zi 3)),(1,(1,zi 4)),(2,(1,zi 5)),(3,(1,zi 6)),(4,(1,zi 13))]),zv 4 0,zq 5 46 [3,4],zv 2 5] .ret)
theorem k200:Compiled prog 200 6 [.tmp 2] c200:=kMk [] func200
def c201:aB:=zs 0 1 [zW 2 false] (zs 1 7 [zv 3 0,zK 4 .eql 3 9,zv 5 4,.grp 5 false [zg 6 (zm 0) 5 false,zg 7 (zU .eql 6 12) 5 false],zQ 8 5 7,zv 2 8] .ret)
theorem k201:Compiled prog 201 9 [.tmp 2] c201:=kMk [] func201
def c202:aB:=zs 0 1 [zW 2 false] (zs 1 4 [zo 3 (.bslice 1 6 [za,za,za,za,za,za] [(0,(1,zi 7)),(1,(1,zi 9)),(2,(1,zi 10)),(3,(1,zi 11)),(4,(1,zi 12)),(5,(1,zi 13))]),zv 4 0,zq 5 46 [3,4],zv 2 5] .ret)
theorem k202:Compiled prog 202 6 [.tmp 2] c202:=kMk [] func202
def b04:List Seg:=[zX 1 6 0,zW 2 false]
def b05:List Seg:=[zf 8 0 1,zl 9 8]
def b06:List Seg:=[zK 11 .eql 9 1,zv 10 11]
def b07:List Seg:=[zf 12 1 1,zl 13 12,zc 14 37 [.tmp 13,zi 0,zi 1],zN 15 14,zv 2 15]
def b08:List Seg:=[zK 17 .eql 9 14,zv 16 17]
def b09:List Seg:=[zf 18 1 1,zl 19 18,zc 20 37 [.tmp 19,zi 0,zi 4],zN 21 20,zv 2 21]
def b1a:List Seg:=[zK 23 .eql 9 8,zv 22 23]
def b1b:List Seg:=[zf 24 1 1,zl 25 24,zK 26 .and 25 1,zK 27 .eql 26 1,zv 28 27,.br 28 true [zg 29 (zF 2 1) 28 true,zg 30 (zy 29) 28 true,.mk (some 31) (.call 37 [.tmp 30,zi (-1000),zi 1000]) (some (28,true))],zP 32 28 31,zv 3 32]
def b1c:List Seg:=[zf 33 1 1,zl 34 33,zc 35 37 [.tmp 34,zi (-1152921504606846976),zi 1152921504606846976],zN 36 35,zv 37 36,.grp 37 false [zg 38 (zm 3) 37 false,zg 39 (zV 38) 37 false,zg 40 (zm 39) 37 false],.grp 40 true [zg 41 (zF 1 1) 40 true,zg 42 (zy 41) 40 true,zg 43 (zU .neq 42 0) 40 true,zg 44 (zm 43) 40 true],.grp 44 false [zg 45 (zF 2 1) 44 false,zg 46 (zy 45) 44 false,zg 47 (zU .neq 46 0) 44 false],.grp 40 true [zg 48 (.pick (.tmp 44) (zb true) (.tmp 47)) 40 true],.grp 37 false [zg 49 (.pick (.tmp 40) (.tmp 48) (zb false)) 37 false],zQ 50 37 49,zv 2 50]
def b1d:List Seg:=[zK 52 .eql 9 7,zv 51 52]
def b1e:List Seg:=[zM 4 0]
def b1f:List Seg:=[zv 53 4,zf 54 5 1,zl 55 54,zL 56 55,zB 57 .lss 53 56]
def b1g:aB:=zd 57 .skip (.exit 1)
def b1h:List Seg:=[zf 60 5 1,zl 61 60,zv 62 4,zI 63 6 61 62,zA 64 6 63,zo 5 (.alloc [za,za,za,.t (.str (bs [])),.tt 1 [],.tt 6 []]),zS 6 5 64]
def b1i:List Seg:=[zf 65 0 5,zl 66 65,zK 67 .neq 66 2]
def b1j:aB:=zd 67 (.exit 2) .skip
def b1k:List Seg:=[zv 68 4,zK 69 .eql 68 0,zv 70 69,.grp 70 true [zg 71 (zF 1 5) 70 true,zg 72 (zy 71) 70 true,zg 73 (zU .gtr 72 2) 70 true],zP 74 70 73,zv 6 74]
def b1l:List Seg:=[zv 75 4,zK 76 .eql 75 1,zv 77 76,.br 77 true [zg 78 (zF 5 1) 77 true,zg 79 (zy 78) 77 true,zg 80 (.ia 6 (.tmp 79) (zi 0)) 77 true,zg 81 (zF 0 80) 77 true,zg 82 (zy 81) 77 true,zg 83 (zU .eql 82 2) 77 true],zP 84 77 83,zv 85 84,.br 85 true [zg 86 (zF 5 1) 85 true,zg 87 (zy 86) 85 true,zg 88 (.ia 6 (.tmp 87) (zi 0)) 85 true,zg 89 (zF 1 88) 85 true,zg 90 (zy 89) 85 true,zg 91 (zU .lss 90 2) 85 true],zP 92 85 91,zv 93 92,.grp 93 true [zg 94 (zF 1 5) 93 true,zg 95 (zy 94) 93 true,zg 96 (zU .gtr 95 39) 93 true],zP 97 93 96,zv 7 97]
def b1m:List Seg:=[zf 98 1 5,zl 99 98,zc 100 37 [.tmp 99,zi 0,zi 1152921504606846976],zN 101 100,zv 102 101,.grp 102 false [zg 103 (zm 6) 102 false],zQ 104 102 103,zv 105 104,.grp 105 false [zg 106 (zm 7) 105 false],zQ 107 105 106]
def b1n:List Seg:=[zW 2 true]
def b1o:aB:=zd 107 (zs 18 1 b1n .ret) .skip
def b1p:aB:=zs 17 10 b1m b1o
def b1q:aB:=zs 16 24 b1l b1p
def b1r:aB:=zs 15 8 b1k b1q
def b1s:aB:= .seq (zs 14 3 b1i b1j) b1r
def b1t:List Seg:=[zv 58 4,zK 59 .add 58 1,zv 4 59]
def b1u:aB:= .seq (.block 2 (zs 13 7 b1h b1s)) (zr 12 3 b1t)
def b1v:aB:= .seq (zs 11 5 b1f b1g) b1u
def b1w:aB:= .block 1 (.loop b1v)
def b1x:aB:=zd 51 (zs 10 1 b1e b1w) .skip
def b1y:aB:=zd 22 (zs 7 10 b1b (zs 8 19 b1c .ret)) (zs 9 2 b1d b1x)
def b1z:aB:=zd 16 (zs 5 5 b09 .ret) (zs 6 2 b1a b1y)
def b1A:aB:=zd 10 (zs 3 5 b07 .ret) (zs 4 2 b08 b1z)
def b1B:aB:= .block 0 (zs 2 2 b06 b1A)
def a6U:List Seg:=[zf 108 0 1,zl 109 108,zK 110 .eql 109 2,zv 111 110,.br 111 true [zg 112 (zF 1 1) 111 true,zg 113 (zy 112) 111 true,.mk (some 114) (.call 37 [.tmp 113,zi (-1152921504606846976),zi 1152921504606846976]) (some (111,true)),zg 115 (zV 114) 111 true],zP 116 111 115,zv 2 116]
def b1C:aB:= .seq (zs 1 2 b05 b1B) (zs 19 10 a6U .ret)
def c203:aB:=zs 0 2 b04 b1C
theorem k203:Compiled prog 203 117 [.tmp 2] c203:=kMk [] func203
def b1D:List Seg:=[zX 1 6 0,zW 2 false]
def b1E:List Seg:=[zf 4 0 1,zl 5 4]
def b1F:List Seg:=[zK 7 .eql 5 9,zv 6 7]
def b1G:List Seg:=[zf 8 4 1,zl 9 8,zL 10 9,zf 11 5 1,zl 12 11,zL 13 12,zB 14 .neq 10 13,zv 2 14]
def b1H:List Seg:=[zK 16 .eql 5 12,zv 15 16]
def b1I:List Seg:=[zf 17 4 1,zl 18 17,zL 19 18,zK 20 .neq 19 1,zv 21 20,.grp 21 false [zg 22 (zF 5 1) 21 false,zg 23 (zy 22) 21 false,zg 24 (.len false (.tmp 23)) 21 false,zg 25 (zU .neq 24 1) 21 false],zQ 26 21 25,zv 2 26]
def b1J:List Seg:=[zK 28 .eql 5 13,zv 27 28]
def b1K:List Seg:=[zf 29 5 1,zl 30 29,zL 31 30,zK 32 .neq 31 1,zv 33 32,.grp 33 false [zg 34 (zF 3 1) 33 false,zg 35 (zy 34) 33 false,zg 36 (.bin .eql false (.tmp 35) zu) 33 false,zg 37 (zm 36) 33 false],.br 37 true [zg 38 (zF 5 1) 37 true,zg 39 (zy 38) 37 true,zg 40 (.ia 6 (.tmp 39) (zi 0)) 37 true,zg 41 (zF 0 40) 37 true,zg 42 (zy 41) 37 true,zg 43 (zU .neq 42 5) 37 true],.grp 33 false [zg 44 (.pick (.tmp 37) (.tmp 43) (zb false)) 33 false],zQ 45 33 44,zv 2 45]
def b1L:List Seg:=[zK 47 .eql 5 7,zv 46 47]
def b1M:List Seg:=[zM 3 0]
def b1N:List Seg:=[zv 48 3,zf 49 5 1,zl 50 49,zL 51 50,zB 52 .lss 48 51]
def b1O:aB:=zd 52 .skip (.exit 1)
def b1P:List Seg:=[zf 55 5 1,zl 56 55,zv 57 3,zI 58 6 56 57,zf 59 0 58,zl 60 59,zK 61 .neq 60 2]
def b1Q:List Seg:=[zW 2 true]
def b1R:aB:=zd 61 (zs 13 1 b1Q .ret) .skip
def b1S:List Seg:=[zv 53 3,zK 54 .add 53 1,zv 3 54]
def b1T:aB:= .seq (.block 2 (zs 12 7 b1P b1R)) (zr 11 3 b1S)
def b1U:aB:= .seq (zs 10 5 b1N b1O) b1T
def b1V:aB:= .block 1 (.loop b1U)
def b1W:List Seg:=[zf 62 5 1,zl 63 62,zL 64 63,zK 65 .lss 64 2,zv 2 65]
def b1X:aB:=zd 46 (.seq (zs 9 1 b1M b1V) (zs 14 5 b1W .ret)) .skip
def b1Y:aB:=zd 27 (zs 7 18 b1K .ret) (zs 8 2 b1L b1X)
def b1Z:aB:=zd 15 (zs 5 11 b1I .ret) (zs 6 2 b1J b1Y)
def b10:aB:=zd 6 (zs 3 8 b1G .ret) (zs 4 2 b1H b1Z)
def b11:aB:= .block 0 (zs 2 2 b1F b10)
def a6V:List Seg:=[zW 2 false]
def b12:aB:= .seq (zs 1 2 b1E b11) (zs 15 1 a6V .ret)
def c204:aB:=zs 0 2 b1D b12
theorem k204:Compiled prog 204 66 [.tmp 2] c204:=kMk [] func204
def b13:aB:=zd 28 (zs 2 1 [zW 2 false] .ret) .skip
def b14:aB:=zd 32 .skip (.exit 0)
def b15:aB:=zd 65 (zs 8 1 [zW 2 false] .ret) .skip
def b16:aB:=zs 7 28 [zv 38 4,zq 39 242 [38],zN 40 39,zv 41 40,.br 41 true [zg 42 (zm 4) 41 true,.mk (some 43) (zw 240 [42]) (some (41,true)),zg 44 (zV 43) 41 true],zP 45 41 44,zv 46 45,.br 46 true [zg 47 (zm 4) 46 true,.mk (some 48) (zw 241 [47]) (some (46,true)),zg 49 (zV 48) 46 true],zP 50 46 49,zv 51 50,.grp 51 true [zg 52 (zm 4) 51 true,zg 53 (.bin .neq false (.tmp 52) (.con (.one (.t (.int .u8 95))))) 51 true],zP 54 51 53,zv 55 54,.grp 55 true [zg 56 (zm 4) 55 true,zg 57 (.bin .neq false (.tmp 56) (.con (.one (.t (.int .u8 45))))) 55 true,zg 58 (zm 57) 55 true],.br 58 false [zg 59 (zm 0) 58 false,zg 60 (zm 3) 58 false,zg 61 (zU .sub 60 1) 58 false,zg 62 (.ixs (.tmp 59) (.tmp 61)) 58 false,zg 63 (.bin .eql false (.tmp 62) (.con (.one (.t (.int .u8 45))))) 58 false],.grp 55 true [zg 64 (.pick (.tmp 58) (zb true) (.tmp 63)) 55 true],zP 65 55 64] b15
def b17:aB:= .seq (.block 1 (zs 6 4 [zv 35 0,zv 36 3,zo 37 (.ixs (.tmp 35) (.tmp 36)),zv 4 37] b16)) (zr 5 3 [zv 33 3,zK 34 .add 33 1,zv 3 34])
def b18:aB:= .seq (zs 4 4 [zv 29 3,zv 30 0,zp 31 30,zB 32 .lss 29 31] b14) b17
def b19:aB:= .block 0 (.loop b18)
def a6W:aB:= .seq (zs 3 1 [zM 3 1] b19) (zs 9 1 [zW 2 true] .ret)
def b2a:aB:= .seq (zs 1 24 [zv 5 0,zp 6 5,zc 7 37 [.tmp 6,zi 1,zi 32],zN 8 7,zv 9 8,.br 9 false [zg 10 (zm 0) 9 false,zg 11 (.ixs (.tmp 10) (zi 0)) 9 false,.mk (some 12) (zw 240 [11]) (some (9,false)),zg 13 (zV 12) 9 false,zg 14 (zm 13) 9 false],.br 14 true [zg 15 (zm 0) 14 true,zg 16 (.ixs (.tmp 15) (zi 0)) 14 true,.mk (some 17) (zw 241 [16]) (some (14,true)),zg 18 (zV 17) 14 true],.grp 9 false [zg 19 (.pick (.tmp 14) (.tmp 18) (zb false)) 9 false],zQ 20 9 19,zv 21 20,.br 21 false [zg 22 (zm 0) 21 false,zg 23 (zm 0) 21 false,zg 24 (.len true (.tmp 23)) 21 false,zg 25 (zU .sub 24 1) 21 false,zg 26 (.ixs (.tmp 22) (.tmp 25)) 21 false,zg 27 (.bin .eql false (.tmp 26) (.con (.one (.t (.int .u8 45))))) 21 false],zQ 28 21 27] b13) a6W
def c205:aB:=zs 0 1 [zW 2 false] b2a
theorem k205:Compiled prog 205 66 [.tmp 2] c205:=kMk [] func205
def c206:aB:=zs 0 1 [zW 4 false] (zs 1 5 [zv 5 0,zv 6 1,zq 7 243 [5,6],zK 8 .neq 7 (-1),zv 4 8] .ret)
theorem k206:Compiled prog 206 9 [.tmp 4] c206:=kMk [] func206
def c214:aB:=zs 0 2 [zX 1 8 0,zW 2 false] (zs 1 43 [zf 3 0 1,zl 4 3,zK 5 .eql 4 0,zv 6 5,.grp 6 true [zg 7 (zF 1 1) 6 true,zg 8 (zy 7) 6 true,zg 9 (.bin .eql false (.tmp 8) zu) 6 true],zP 10 6 9,zv 11 10,.grp 11 true [zg 12 (zF 2 1) 11 true,zg 13 (zy 12) 11 true,zg 14 (.len false (.tmp 13)) 11 true,zg 15 (zU .eql 14 0) 11 true],zP 16 11 15,zv 17 16,.grp 17 true [zg 18 (zF 3 1) 17 true,zg 19 (zy 18) 17 true,zg 20 (.len false (.tmp 19)) 17 true,zg 21 (zU .eql 20 0) 17 true],zP 22 17 21,zv 23 22,.grp 23 true [zg 24 (zF 4 1) 23 true,zg 25 (zy 24) 23 true,zg 26 (zV 25) 23 true],zP 27 23 26,zv 28 27,.grp 28 true [zg 29 (zF 5 1) 28 true,zg 30 (zy 29) 28 true,zg 31 (zU .eql 30 0) 28 true],zP 32 28 31,zv 33 32,.grp 33 true [zg 34 (zF 6 1) 33 true,zg 35 (zy 34) 33 true,zg 36 (.len false (.tmp 35)) 33 true,zg 37 (zU .eql 36 0) 33 true],zP 38 33 37,zv 39 38,.grp 39 true [zg 40 (zF 7 1) 39 true,zg 41 (zy 40) 39 true,zg 42 (.len false (.tmp 41)) 39 true,zg 43 (zU .eql 42 0) 39 true],zP 44 39 43,zv 2 44] .ret)
theorem k214:Compiled prog 214 45 [.tmp 2] c214:=kMk [] func214
def c216:aB:=zs 0 2 [zX 1 13 0,zW 2 false] (zs 1 10 [zf 3 10 1,zl 4 3,zK 5 .eql 4 2,zv 6 5,.grp 6 true [zg 7 (zF 11 1) 6 true,zg 8 (zy 7) 6 true,zg 9 (.len false (.tmp 8)) 6 true,zg 10 (zU .neq 9 1) 6 true],zP 11 6 10,zv 2 11] .ret)
theorem k216:Compiled prog 216 12 [.tmp 2] c216:=kMk [] func216
def c218:aB:=zs 0 1 [zW 4 false] (zs 1 5 [zv 5 0,zv 6 1,zq 7 256 [5,6],zK 8 .geq 7 0,zv 4 8] .ret)
theorem k218:Compiled prog 218 9 [.tmp 4] c218:=kMk [] func218
def b2b:aB:=zd 21 (zs 2 1 [zW 2 false] .ret) .skip
def b2c:aB:=zd 50 (zs 7 1 [zW 2 false] .ret) .skip
def b2d:aB:=zs 6 24 [zv 27 0,zv 28 3,zo 29 (.ixs (.tmp 27) (.tmp 28)),zq 30 257 [29],zN 31 30,zv 32 31,.br 32 true [zg 33 (zm 0) 32 true,zg 34 (zm 3) 32 true,zg 35 (.ixs (.tmp 33) (.tmp 34)) 32 true,.mk (some 36) (zw 260 [35]) (some (32,true)),zg 37 (zV 36) 32 true],zP 38 32 37,zv 39 38,.br 39 true [zg 40 (zm 0) 39 true,zg 41 (zm 3) 39 true,zg 42 (.ixs (.tmp 40) (.tmp 41)) 39 true,zg 43 (.bin .neq false (.tmp 42) (.con (.one (.t (.int .u8 95))))) 39 true],zP 44 39 43,zv 45 44,.br 45 true [zg 46 (zm 0) 45 true,zg 47 (zm 3) 45 true,zg 48 (.ixs (.tmp 46) (.tmp 47)) 45 true,zg 49 (.bin .neq false (.tmp 48) (.con (.one (.t (.int .u8 45))))) 45 true],zP 50 45 49] b2c
def b2e:aB:= .seq (.block 1 (zs 5 2 [zv 26 24,zv 3 26] b2d)) (zr 8 2 [zK 51 .add 24 1,zv 24 51])
def b2f:aB:= .seq (zd 25 .skip (.exit 0)) b2e
def b2g:aB:=zs 4 1 [zB 25 .lss 24 23] b2f
def b2h:aB:= .block 0 (.loop b2g)
def b2i:aB:= .seq (zs 3 3 [zv 22 0,zp 23 22,zM 24 0] b2h) (zs 9 1 [zW 2 true] .ret)
def b2j:aB:= .seq (zs 1 18 [zv 4 0,zp 5 4,zc 6 170 [.tmp 5,zi 1,zi 32],zN 7 6,zv 8 7,.br 8 false [zg 9 (zm 0) 8 false,zg 10 (.ixs (.tmp 9) (zi 0)) 8 false,.mk (some 11) (zw 257 [10]) (some (8,false)),zg 12 (zV 11) 8 false],zQ 13 8 12,zv 14 13,.br 14 false [zg 15 (zm 0) 14 false,.mk (some 16) (.call 258 [.tmp 15,.con (.one (.t (.str (bs [45]))))]) (some (14,false))],zQ 17 14 16,zv 18 17,.br 18 false [zg 19 (zm 0) 18 false,.mk (some 20) (.call 259 [.tmp 19,.con (.one (.t (.str (bs [45,45]))))]) (some (18,false))],zQ 21 18 20] b2b) b2i
def c219:aB:=zs 0 1 [zW 2 false] b2j
theorem k219:Compiled prog 219 52 [.tmp 2] c219:=kMk [] func219
def c220:aB:=zs 0 2 [zX 1 13 0,zW 2 false] (zs 1 5 [zf 3 0 1,zl 4 3,zq 5 219 [4],zN 6 5,zv 2 6] .ret)
theorem k220:Compiled prog 220 7 [.tmp 2] c220:=kMk [] func220
def c221:aB:=zs 0 2 [zX 3 13 0,zW 4 false] (zs 1 18 [zf 5 0 3,zl 6 5,zf 7 0 1,zl 8 7,zB 9 .eql 6 8,zv 10 9,.grp 10 false [zg 11 (zF 0 2) 10 false,zg 12 (zy 11) 10 false,zg 13 (zU .eql 12 3) 10 false,zg 14 (zm 13) 10 false],.grp 14 true [zg 15 (zF 1 3) 14 true,zg 16 (zy 15) 14 true,zg 17 (zF 1 1) 14 true,zg 18 (zy 17) 14 true,zg 19 (zO .eql 16 18) 14 true],.grp 10 false [zg 20 (.pick (.tmp 14) (.tmp 19) (zb false)) 10 false],zQ 21 10 20,zv 4 21] .ret)
theorem k221:Compiled prog 221 22 [.tmp 4] c221:=kMk [] func221
def c228:aB:=zs 0 1 [zW 2 false] (zs 1 4 [zv 3 0,zq 4 219 [3],zN 5 4,zv 2 5] .ret)
theorem k228:Compiled prog 228 6 [.tmp 2] c228:=kMk [] func228
def b7h:aB:= .seq (zs 2 2 [zv 9 5,zK 10 .gtr 9 0] (zd 10 .skip (.exit 0))) (.seq (.block 1 (.seq (.region 4 true 12 [zv 13 1,zv 14 0,zv 15 5,zI 16 6 14 15,zA 17 6 16,zv 18 0,zv 19 5,zK 20 .sub 19 1,zI 21 6 18 20,zA 22 6 21,.one (.mk (some 23) (.callv (.tmp 13) [.tmp 17,.tmp 22]) none),zK 24 .lss 23 0]) (zd 24 (zs 5 1 [zW 4 false] .ret) .skip))) (zr 3 3 [zv 11 5,zK 12 .sub 11 1,zv 5 12]))
def c229:aB:=zs 0 1 [zW 4 false] (.seq (zs 1 4 [zv 6 0,zL 7 6,zK 8 .sub 7 1,zv 5 8] (.block 0 (.loop b7h))) (zs 6 1 [zW 4 true] .ret))
theorem k229:Compiled prog 229 25 [.tmp 4] c229:=kMk [] func229
def c230:aB:=zs 0 3 [zX 2 6 0,zX 3 6 1,zM 4 0] (.seq (.region 1 true 33 [zf 5 0 2,zl 6 5,zf 7 0 3,zl 8 7,zq 9 268 [6,8],zf 10 1 2,zl 11 10,zf 12 1 3,zl 13 12,zq 14 268 [11,13],zf 15 2 2,zl 16 15,zf 17 2 3,zl 18 17,zq 19 268 [16,18],zf 20 3 2,zl 21 20,zf 22 3 3,zl 23 22,zq 24 269 [21,23],zf 25 4 2,zl 26 25,zf 27 4 3,zl 28 27,zq 29 270 [26,28],zf 30 5 2,zl 31 30,zf 32 5 3,zl 33 32,zc 34 271 [.tmp 31,.tmp 33,.con (.one (.fn 230 []))],zo 35 (.bslice 1 6 [za,za,za,za,za,za] [(0,(1,.tmp 9)),(1,(1,.tmp 14)),(2,(1,.tmp 19)),(3,(1,.tmp 24)),(4,(1,.tmp 29)),(5,(1,.tmp 34))]),zq 36 267 [35],zv 4 36]) .ret)
theorem k230:Compiled prog 230 37 [.tmp 4] c230:=kMk [] func230
def c235:aB:=zs 0 1 [zW 2 false] (zs 1 11 [zv 3 0,zK 4 .eql 3 9,zv 5 4,.grp 5 false [zg 6 (zm 0) 5 false,zg 7 (zU .eql 6 10) 5 false],zQ 8 5 7,zv 9 8,.grp 9 false [zg 10 (zm 0) 9 false,zg 11 (zU .eql 10 13) 9 false],zQ 12 9 11,zv 2 12] .ret)
theorem k235:Compiled prog 235 13 [.tmp 2] c235:=kMk [] func235
def c236:aB:=zs 0 1 [zW 2 false] (zs 1 4 [zo 3 (.bslice 1 7 [za,za,za,za,za,za,za] [(0,(1,zi 2)),(1,(1,zi 4)),(2,(1,zi 5)),(3,(1,zi 6)),(4,(1,zi 11)),(5,(1,zi 12)),(6,(1,zi 15))]),zv 4 0,zq 5 46 [3,4],zv 2 5] .ret)
theorem k236:Compiled prog 236 6 [.tmp 2] c236:=kMk [] func236
def c237:aB:=zs 0 2 [zX 1 8 0,zW 2 false] (zs 1 37 [zf 3 0 1,zl 4 3,zK 5 .eql 4 0,zv 6 5,.grp 6 true [zg 7 (zF 1 1) 6 true,zg 8 (zy 7) 6 true,zg 9 (.bin .eql false (.tmp 8) zu) 6 true],zP 10 6 9,zv 11 10,.grp 11 true [zg 12 (zF 2 1) 11 true,zg 13 (zy 12) 11 true,zg 14 (.len false (.tmp 13)) 11 true,zg 15 (zF 3 1) 11 true,zg 16 (zy 15) 11 true,zg 17 (.len false (.tmp 16)) 11 true,zg 18 (zO .add 14 17) 11 true,zg 19 (zF 6 1) 11 true,zg 20 (zy 19) 11 true,zg 21 (.len false (.tmp 20)) 11 true,zg 22 (zO .add 18 21) 11 true,zg 23 (zF 7 1) 11 true,zg 24 (zy 23) 11 true,zg 25 (.len false (.tmp 24)) 11 true,zg 26 (zO .add 22 25) 11 true,zg 27 (zU .eql 26 0) 11 true],zP 28 11 27,zv 29 28,.grp 29 true [zg 30 (zF 4 1) 29 true,zg 31 (zy 30) 29 true,zg 32 (zV 31) 29 true],zP 33 29 32,zv 34 33,.grp 34 true [zg 35 (zF 5 1) 34 true,zg 36 (zy 35) 34 true,zg 37 (zU .eql 36 0) 34 true],zP 38 34 37,zv 2 38] .ret)
theorem k237:Compiled prog 237 39 [.tmp 2] c237:=kMk [] func237
def a4U:aB:=zd 13 (zs 2 1 [zW 2 true] .ret) .skip
def a4V:aB:=zd 16 (zs 4 1 [zW 2 false] .ret) .skip
def a4W:aB:=zd 20 .skip (.exit 0)
def a4X:aB:=zd 29 .skip (zr 13 2 [zK 31 .eql 28 3,zv 29 31])
def a4Y:aB:=zd 32 .skip (zr 17 2 [zK 35 .eql 28 6,zv 32 35])
def a4Z:aB:=zd 32 .skip (zs 16 2 [zK 34 .eql 28 5,zv 32 34] a4Y)
def a42:aB:=zd 36 (zr 20 2 [zM 6 1,zM 7 2]) .skip
def a43:aB:=zd 32 (zr 18 2 [zM 6 2,zM 7 2]) (zs 19 2 [zK 37 .eql 28 7,zv 36 37] a42)
def a45:aB:=zd 29 (zr 14 2 [zM 6 1,zM 7 1]) (.seq (zs 15 2 [zK 33 .eql 28 4,zv 32 33] a4Z) a43)
def a47:aB:= .block 2 (.seq (zs 12 2 [zK 30 .eql 28 2,zv 29 30] a4X) a45)
def a48:aB:=zd 77 (zs 23 1 [zW 2 false] .ret) .skip
def a5a:aB:=zd 84 .skip (.exit 3)
def a5b:aB:=zd 98 (zs 29 1 [zW 2 false] .ret) .skip
def a5c:aB:= .seq (.block 4 (.seq (zs 28 12 [zv 87 9,zK 88 .eql 87 0,zv 89 88,.br 89 false [zg 90 (zF 4 5) 89 false,zg 91 (zy 90) 89 false,zg 92 (zm 10) 89 false,zg 93 (.ia 1 (.tmp 91) (.tmp 92)) 89 false,zg 94 (zy 93) 89 false,zg 95 (zm 9) 89 false,zg 96 (zU .sub 95 1) 89 false,zg 97 (zO .neq 94 96) 89 false],zQ 98 89 97] a5b) (zr 30 6 [zv 99 3,zv 100 9,zK 101 .sub 100 1,zI 102 1 99 101,zl 103 102,zv 9 103]))) (zr 27 3 [zv 85 10,zK 86 .sub 85 1,zv 10 86])
def a5d:aB:= .seq (zs 26 2 [zv 83 10,zK 84 .geq 83 0] a5a) a5c
def a5e:aB:= .block 3 (.loop a5d)
def a5f:aB:= .seq (zs 25 5 [zf 79 4 5,zl 80 79,zL 81 80,zK 82 .sub 81 1,zv 10 82] a5e) (zr 31 5 [zv 104 3,zv 105 9,zo 106 (.bslice 1 1 [za] [(0,(1,.tmp 105))]),zo 107 (.app true 1 8 (.tmp 104) (.tmp 106)),zv 3 107])
def a5g:aB:=zs 24 2 [zv 78 4,zv 9 78] a5f
def a5h:aB:= .seq (zs 22 17 [zf 61 0 5,zl 62 61,zc 63 37 [.tmp 62,zi 0,zi 7],zN 64 63,zv 65 64,.br 65 false [zg 66 (zF 4 5) 65 false,zg 67 (zy 66) 65 false,zg 68 (.len false (.tmp 67)) 65 false,zg 69 (zm 6) 65 false,zg 70 (zm 7) 65 false,.mk (some 71) (zw 37 [68,69,70]) (some (65,false)),zg 72 (zV 71) 65 false],zQ 73 65 72,zv 74 73,.grp 74 false [zg 75 (zm 8) 74 false,zg 76 (zV 75) 74 false],zQ 77 74 76] a48) a5g
def a3h:aB:=zs 21 24 [zf 38 0 5,zl 39 38,zK 40 .eql 39 0,zv 41 40,.grp 41 false [zg 42 (zF 1 5) 41 false,zg 43 (zy 42) 41 false,zg 44 (zU .eql 43 0) 41 false,zg 45 (zm 44) 41 false],.grp 45 true [zg 46 (zF 2 5) 45 true,zg 47 (zy 46) 45 true,zg 48 (zU .eql 47 0) 45 true],.grp 41 false [zg 49 (.pick (.tmp 45) (.tmp 48) (zb false)) 41 false],zQ 50 41 49,zv 51 50,.grp 51 true [zg 52 (zF 0 5) 51 true,zg 53 (zy 52) 51 true,zg 54 (zU .eql 53 1) 51 true,zg 55 (zm 54) 51 true],.grp 55 false [zg 56 (zF 3 5) 55 false,zg 57 (zy 56) 55 false,zg 58 (.bin .eql false (.tmp 57) zu) 55 false],.grp 51 true [zg 59 (.pick (.tmp 55) (zb true) (.tmp 58)) 51 true],zP 60 51 59,zv 8 60] a5h
def a5i:aB:= .seq (zs 11 2 [zf 27 0 5,zl 28 27] a47) a3h
def a5j:aB:=zs 10 2 [zM 6 0,zM 7 0] a5i
def a5k:aB:= .seq (.block 1 (zs 9 6 [zv 23 0,zv 24 4,zI 25 5 23 24,zA 26 5 25,zo 5 (.alloc [za,za,za,.t (.str (bs [])),.tt 1 []]),zS 5 5 26] a5j)) (zr 8 3 [zv 21 4,zK 22 .add 21 1,zv 4 22])
def a5l:aB:= .seq (zs 7 4 [zv 17 4,zv 18 0,zL 19 18,zB 20 .lss 17 19] a4W) a5k
def a5m:aB:= .block 0 (.loop a5l)
def a5n:aB:= .seq (zs 6 1 [zM 4 0] a5m) (zs 32 8 [zv 108 3,zv 109 0,zL 110 109,zK 111 .sub 110 1,zI 112 1 108 111,zl 113 112,zK 114 .eql 113 0,zv 2 114] .ret)
def a5o:aB:=zs 5 1 [zo 3 (.mv (.con (.one (.tt 1 []))))] a5n
def a5p:aB:= .seq (zs 3 3 [zv 14 0,zL 15 14,zK 16 .gtr 15 20] a4V) a5o
def a5q:aB:= .seq (zs 1 3 [zv 11 0,zL 12 11,zK 13 .eql 12 0] a4U) a5p
def c238:aB:=zs 0 1 [zW 2 false] a5q
theorem k238:Compiled prog 238 115 [.tmp 2] c238:=kMk [] func238
def c239:aB:=zs 0 1 [zW 2 false] (zs 1 4 [zo 3 (.bslice 1 4 [.t (.str (bs [])),.t (.str (bs [])),.t (.str (bs [])),.t (.str (bs []))] [(0,(1,.con (.one (.t (.str (bs [78,117,109,101,114,105,99,83,116,114,105,110,103])))))),(1,(1,.con (.one (.t (.str (bs [80,114,105,110,116,97,98,108,101,83,116,114,105,110,103])))))),(2,(1,.con (.one (.t (.str (bs [86,105,115,105,98,108,101,83,116,114,105,110,103])))))),(3,(1,.con (.one (.t (.str (bs [73,65,53,83,116,114,105,110,103]))))))]),zv 4 0,zq 5 206 [3,4],zv 2 5] .ret)
theorem k239:Compiled prog 239 6 [.tmp 2] c239:=kMk [] func239
def c240:aB:=zs 0 1 [zW 2 false] (zs 1 7 [zv 3 0,zo 4 (.bin .geq false (.tmp 3) (.con (.one (.t (.int .u8 97))))),zv 5 4,.grp 5 true [zg 6 (zm 0) 5 true,zg 7 (.bin .leq false (.tmp 6) (.con (.one (.t (.int .u8 122))))) 5 true],zP 8 5 7,zv 2 8] .ret)
theorem k240:Compiled prog 240 9 [.tmp 2] c240:=kMk [] func240
def c241:aB:=zs 0 1 [zW 2 false] (zs 1 7 [zv 3 0,zo 4 (.bin .geq false (.tmp 3) (.con (.one (.t (.int .u8 65))))),zv 5 4,.grp 5 true [zg 6 (zm 0) 5 true,zg 7 (.bin .leq false (.tmp 6) (.con (.one (.t (.int .u8 90))))) 5 true],zP 8 5 7,zv 2 8] .ret)
theorem k241:Compiled prog 241 9 [.tmp 2] c241:=kMk [] func241
def c242:aB:=zs 0 1 [zW 2 false] (zs 1 7 [zv 3 0,zo 4 (.bin .geq false (.tmp 3) (.con (.one (.t (.int .u8 48))))),zv 5 4,.grp 5 true [zg 6 (zm 0) 5 true,zg 7 (.bin .leq false (.tmp 6) (.con (.one (.t (.int .u8 57))))) 5 true],zP 8 5 7,zv 2 8] .ret)
theorem k242:Compiled prog 242 9 [.tmp 2] c242:=kMk [] func242
def b7i:aB:= .seq (zs 2 4 [zv 6 5,zv 7 0,zL 8 7,zB 9 .lss 6 8] (zd 9 .skip (.exit 0))) (.seq (.block 1 (zs 4 6 [zv 12 0,zv 13 5,zI 14 1 12 13,zl 15 14,zv 16 1,zB 17 .eql 15 16] (zd 17 (zs 5 2 [zv 18 5,zv 4 18] .ret) .skip))) (zr 3 3 [zv 10 5,zK 11 .add 10 1,zv 5 11]))
def c243:aB:=zs 0 1 [zM 4 0] (.seq (zs 1 1 [zM 5 0] (.block 0 (.loop b7i))) (zs 6 1 [zM 4 (-1)] .ret))
theorem k243:Compiled prog 243 19 [.tmp 4] c243:=kMk [] func243
def b7j:aB:=zs 2 1 [zB 9 .lss 8 7] (.seq (zd 9 .skip (.exit 0)) (.seq (.block 1 (zs 3 2 [zv 10 8,zv 5 10] (zs 4 6 [zv 11 1,zv 12 0,zv 13 5,zI 14 1 12 13,zl 15 14,zB 16 .eql 11 15] (zd 16 (zs 5 2 [zv 17 5,zv 4 17] .ret) .skip)))) (zr 6 2 [zK 18 .add 8 1,zv 8 18])))
def c256:aB:=zs 0 1 [zM 4 0] (.seq (zs 1 3 [zv 6 0,zL 7 6,zM 8 0] (.block 0 (.loop b7j))) (zs 7 1 [zM 4 (-1)] .ret))
theorem k256:Compiled prog 256 19 [.tmp 4] c256:=kMk [] func256
def c257:aB:=zs 0 1 [zW 2 false] (zs 1 15 [zv 3 0,zo 4 (.bin .geq false (.tmp 3) (.con (.one (.t (.int .u8 97))))),zv 5 4,.grp 5 true [zg 6 (zm 0) 5 true,zg 7 (.bin .leq false (.tmp 6) (.con (.one (.t (.int .u8 122))))) 5 true],zP 8 5 7,zv 9 8,.grp 9 false [zg 10 (zm 0) 9 false,zg 11 (.bin .geq false (.tmp 10) (.con (.one (.t (.int .u8 65))))) 9 false,zg 12 (zm 11) 9 false],.grp 12 true [zg 13 (zm 0) 12 true,zg 14 (.bin .leq false (.tmp 13) (.con (.one (.t (.int .u8 90))))) 12 true],.grp 9 false [zg 15 (.pick (.tmp 12) (.tmp 14) (zb false)) 9 false],zQ 16 9 15,zv 2 16] .ret)
theorem k257:Compiled prog 257 17 [.tmp 2] c257:=kMk [] func257
def c260:aB:=zs 0 1 [zW 2 false] (zs 1 7 [zv 3 0,zo 4 (.bin .geq false (.tmp 3) (.con (.one (.t (.int .u8 48))))),zv 5 4,.grp 5 true [zg 6 (zm 0) 5 true,zg 7 (.bin .leq false (.tmp 6) (.con (.one (.t (.int .u8 57))))) 5 true],zP 8 5 7,zv 2 8] .ret)
theorem k260:Compiled prog 260 9 [.tmp 2] c260:=kMk [] func260
def b7k:aB:=zd 14 (.exit 1) .skip
def b7l:aB:=zd 50 (zs 6 1 [zW 2 false] .ret) .skip
def b7m:aB:=zs 5 36 [zf 15 1 4,zl 16 15,zc 17 170 [.tmp 16,zi 0,zi 1152921504606846976],zN 18 17,zv 19 18,.grp 19 false [zg 20 (zm 3) 19 false,zg 21 (zU .eql 20 0) 19 false,zg 22 (zm 21) 19 false],.grp 22 true [zg 23 (zF 1 4) 22 true,zg 24 (zy 23) 22 true,zg 25 (zU .gtr 24 2) 22 true],.grp 19 false [zg 26 (.pick (.tmp 22) (.tmp 25) (zb false)) 19 false],zQ 27 19 26,zv 28 27,.grp 28 false [zg 29 (zm 3) 28 false,zg 30 (zU .eql 29 1) 28 false,zg 31 (zm 30) 28 false],.br 31 true [zg 32 (zm 0) 31 true,zg 33 (.ia 6 (.tmp 32) (zi 0)) 31 true,zg 34 (zF 0 33) 31 true,zg 35 (zy 34) 31 true,zg 36 (zU .eql 35 2) 31 true],.grp 28 false [zg 37 (.pick (.tmp 31) (.tmp 36) (zb false)) 28 false,zg 38 (zm 37) 28 false],.br 38 true [zg 39 (zm 0) 38 true,zg 40 (.ia 6 (.tmp 39) (zi 0)) 38 true,zg 41 (zF 1 40) 38 true,zg 42 (zy 41) 38 true,zg 43 (zU .lss 42 2) 38 true],.grp 28 false [zg 44 (.pick (.tmp 38) (.tmp 43) (zb false)) 28 false,zg 45 (zm 44) 28 false],.grp 45 true [zg 46 (zF 1 4) 45 true,zg 47 (zy 46) 45 true,zg 48 (zU .gtr 47 39) 45 true],.grp 28 false [zg 49 (.pick (.tmp 45) (.tmp 48) (zb false)) 28 false],zQ 50 28 49] b7l
def b7n:aB:= .seq (zs 4 3 [zf 12 0 4,zl 13 12,zK 14 .neq 13 2] b7k) b7m
def b7o:aB:= .seq (.block 1 (zs 3 6 [zv 9 7,zI 10 6 5 7,zA 11 6 10,zo 4 (.alloc [za,za,za,.t (.str (bs [])),.tt 1 [],.tt 6 []]),zv 3 9,zS 6 4 11] b7n)) (zr 7 2 [zK 51 .add 7 1,zv 7 51])
def b7p:aB:= .seq (zd 8 .skip (.exit 0)) b7o
def b7q:aB:=zs 2 1 [zB 8 .lss 7 6] b7p
def b7r:aB:= .block 0 (.loop b7q)
def b7s:aB:= .seq (zs 1 3 [zv 5 0,zL 6 5,zM 7 0] b7r) (zs 8 1 [zW 2 true] .ret)
def c261:aB:=zs 0 1 [zW 2 false] b7s
theorem k261:Compiled prog 261 52 [.tmp 2] c261:=kMk [] func261
def c262:aB:=zs 0 2 [zX 1 6 0,zW 2 false] (zs 1 4 [zf 3 0 1,zl 4 3,zK 5 .eql 4 2,zv 2 5] .ret)
theorem k262:Compiled prog 262 6 [.tmp 2] c262:=kMk [] func262
def c263:aB:=zs 0 1 [zW 4 false] (zs 1 5 [zv 5 0,zv 6 1,zq 7 283 [5,6],zK 8 .geq 7 0,zv 4 8] .ret)
theorem k263:Compiled prog 263 9 [.tmp 4] c263:=kMk [] func263
def c264:aB:=zs 0 2 [zX 2 6 0,zW 3 false] (zs 1 5 [zl 4 1,zA 5 6 2,.one (.mk (some 6) (.callv (.tmp 4) [.tmp 5]) none),zN 7 6,zv 3 7] .ret)
theorem k264:Compiled prog 264 8 [.tmp 3] c264:=kMk [] func264
def b7t:aB:=zd 14 (zs 6 2 [zv 15 5,zv 2 15] .ret) .skip
def b7u:aB:=zs 5 3 [zv 12 5,zv 13 3,zB 14 .neq 12 13] b7t
def b7v:aB:= .seq (.block 1 (zs 4 3 [zI 10 1 6 8,zl 11 10,zv 5 11] b7u)) (zr 7 2 [zK 16 .add 8 1,zv 8 16])
def b7w:aB:= .seq (zd 9 .skip (.exit 0)) b7v
def b7x:aB:=zs 3 1 [zB 9 .lss 8 7] b7w
def b7y:aB:= .block 0 (.loop b7x)
def b7z:aB:= .seq (zs 2 3 [zv 6 0,zL 7 6,zM 8 0] b7y) (zs 8 2 [zv 17 3,zv 2 17] .ret)
def b7A:aB:=zs 1 1 [zM 3 0] b7z
def c267:aB:=zs 0 1 [zM 2 0] b7A
theorem k267:Compiled prog 267 18 [.tmp 2] c267:=kMk [] func267
def c268:aB:=zs 0 1 [zM 4 0] (zs 1 3 [zv 7 0,zq 8 284 [7],zv 5 8] (zs 2 3 [zv 9 1,zq 10 284 [9],zv 6 10] (.seq (zs 3 1 [zv 11 5] (zd 11 (.seq (zs 4 1 [zv 12 6] (zd 12 (zs 5 1 [zM 4 0] .ret) .skip)) (zs 6 1 [zM 4 (-1)] .ret)) .skip)) (.seq (zs 7 1 [zv 13 6] (zd 13 (zs 8 1 [zM 4 1] .ret) .skip)) (.seq (zs 9 3 [zv 14 0,zv 15 1,zB 16 .lss 14 15] (zd 16 (zs 10 1 [zM 4 (-1)] .ret) .skip)) (.seq (zs 11 3 [zv 17 0,zv 18 1,zB 19 .gtr 17 18] (zd 19 (zs 12 1 [zM 4 1] .ret) .skip)) (zs 13 1 [zM 4 0] .ret)))))))
theorem k268:Compiled prog 268 20 [.tmp 4] c268:=kMk [] func268
def b7B:aB:=zd 19 (zs 5 1 [zM 4 1] .ret) .skip
def b7C:aB:=zd 28 (zs 9 2 [zv 29 8,zv 4 29] .ret) .skip
def b7D:aB:=zs 8 2 [zv 27 8,zK 28 .neq 27 0] b7C
def b7E:aB:=zs 7 4 [zv 24 6,zv 25 7,zq 26 286 [24,25],zv 8 26] b7D
def b7F:aB:=zs 6 5 [zv 20 1,zv 21 5,zI 22 1 20 21,zl 23 22,zv 7 23] b7E
def b7G:aB:= .seq (zs 4 4 [zv 16 5,zv 17 1,zL 18 17,zB 19 .geq 16 18] b7B) b7F
def b7H:aB:= .seq (.block 1 (zs 3 5 [zv 13 11,zI 14 1 9 11,zl 15 14,zv 5 13,zv 6 15] b7G)) (zr 10 2 [zK 30 .add 11 1,zv 11 30])
def b7I:aB:= .seq (zd 12 .skip (.exit 0)) b7H
def b7J:aB:=zs 2 1 [zB 12 .lss 11 10] b7I
def b7K:aB:= .block 0 (.loop b7J)
def b7L:aB:=zd 35 (zs 12 1 [zM 4 (-1)] .ret) .skip
def b7M:aB:= .seq (zs 11 5 [zv 31 0,zL 32 31,zv 33 1,zL 34 33,zB 35 .lss 32 34] b7L) (zs 13 1 [zM 4 0] .ret)
def b7N:aB:= .seq (zs 1 3 [zv 9 0,zL 10 9,zM 11 0] b7K) b7M
def c270:aB:=zs 0 1 [zM 4 0] b7N
theorem k270:Compiled prog 270 36 [.tmp 4] c270:=kMk [] func270
def b7O:aB:=zd 21 (zs 5 1 [zM 6 1] .ret) .skip
def b7P:aB:=zd 31 (zs 9 2 [zv 32 10,zv 6 32] .ret) .skip
def b7Q:aB:=zs 8 2 [zv 30 10,zK 31 .neq 30 0] b7P
def b7R:aB:=zs 7 5 [zv 26 2,zA 27 6 8,zA 28 6 9,.one (.mk (some 29) (.callv (.tmp 26) [.tmp 27,.tmp 28]) none),zv 10 29] b7Q
def b7S:aB:=zs 6 6 [zv 22 1,zv 23 7,zI 24 6 22 23,zA 25 6 24,zo 9 (.alloc [za,za,za,.t (.str (bs [])),.tt 1 [],.tt 6 []]),zS 6 9 25] b7R
def b7T:aB:= .seq (zs 4 4 [zv 18 7,zv 19 1,zL 20 19,zB 21 .geq 18 20] b7O) b7S
def b7U:aB:= .seq (.block 1 (zs 3 6 [zv 15 13,zI 16 6 11 13,zA 17 6 16,zo 8 (.alloc [za,za,za,.t (.str (bs [])),.tt 1 [],.tt 6 []]),zv 7 15,zS 6 8 17] b7T)) (zr 10 2 [zK 33 .add 13 1,zv 13 33])
def b7V:aB:= .seq (zd 14 .skip (.exit 0)) b7U
def b7W:aB:=zs 2 1 [zB 14 .lss 13 12] b7V
def b7X:aB:= .block 0 (.loop b7W)
def b7Y:aB:=zd 38 (zs 12 1 [zM 6 (-1)] .ret) .skip
def b7Z:aB:= .seq (zs 11 5 [zv 34 0,zL 35 34,zv 36 1,zL 37 36,zB 38 .lss 35 37] b7Y) (zs 13 1 [zM 6 0] .ret)
def b70:aB:= .seq (zs 1 3 [zv 11 0,zL 12 11,zM 13 0] b7X) b7Z
def c271:aB:=zs 0 1 [zM 6 0] b70
theorem k271:Compiled prog 271 39 [.tmp 6] c271:=kMk [] func271
def d0M:aB:=zs 2 1 [zB 9 .lss 8 7] (.seq (zd 9 .skip (.exit 0)) (.seq (.block 1 (zs 3 2 [zv 10 8,zv 5 10] (zs 4 6 [zv 11 1,zv 12 0,zv 13 5,zI 14 6 12 13,zA 15 6 14,.one (.mk (some 16) (.callv (.tmp 11) [.tmp 15]) none)] (zd 16 (zs 5 2 [zv 17 5,zv 4 17] .ret) .skip)))) (zr 6 2 [zK 18 .add 8 1,zv 8 18])))
def c283:aB:=zs 0 1 [zM 4 0] (.seq (zs 1 3 [zv 6 0,zL 7 6,zM 8 0] (.block 0 (.loop d0M))) (zs 7 1 [zM 4 (-1)] .ret))
theorem k283:Compiled prog 283 19 [.tmp 4] c283:=kMk [] func283
def c284:aB:=zs 0 1 [zW 2 false] (zs 1 4 [zv 3 0,zv 4 0,zB 5 .neq 3 4,zv 2 5] .ret)
theorem k284:Compiled prog 284 6 [.tmp 2] c284:=kMk [] func284
def c286:aB:=zs 0 1 [zM 4 0] (zs 1 3 [zv 7 0,zq 8 294 [7],zv 5 8] (zs 2 3 [zv 9 1,zq 10 294 [9],zv 6 10] (.seq (zs 3 1 [zv 11 5] (zd 11 (.seq (zs 4 1 [zv 12 6] (zd 12 (zs 5 1 [zM 4 0] .ret) .skip)) (zs 6 1 [zM 4 (-1)] .ret)) .skip)) (.seq (zs 7 1 [zv 13 6] (zd 13 (zs 8 1 [zM 4 1] .ret) .skip)) (.seq (zs 9 3 [zv 14 0,zv 15 1,zB 16 .lss 14 15] (zd 16 (zs 10 1 [zM 4 (-1)] .ret) .skip)) (.seq (zs 11 3 [zv 17 0,zv 18 1,zB 19 .gtr 17 18] (zd 19 (zs 12 1 [zM 4 1] .ret) .skip)) (zs 13 1 [zM 4 0] .ret)))))))
theorem k286:Compiled prog 286 20 [.tmp 4] c286:=kMk [] func286
def c294:aB:=zs 0 1 [zW 2 false] (zs 1 4 [zv 3 0,zv 4 0,zB 5 .neq 3 4,zv 2 5] .ret)
theorem k294:Compiled prog 294 6 [.tmp 2] c294:=kMk [] func294
def d0N:aB:=zd 7 (zs 2 1 [zW 2 false] .ret) .skip
def d0O:aB:=zd 10 (zs 4 1 [zW 2 true] .ret) .skip
def d0P:aB:=zd 31 (zr 8 1 [zM 5 4]) .skip
def d0Q:aB:=zd 33 (zs 10 9 [zv 34 4,zv 35 5,zB 36 .eql 34 35,zv 37 36,.grp 37 true [zg 38 (zm 3) 37 true,zg 39 (.len false (.tmp 38)) 37 true,zg 40 (zU .eql 39 0) 37 true],zP 41 37 40,zv 2 41] .ret) .skip
def d0R:aB:= .seq (zs 9 2 [zv 32 5,zK 33 .neq 32 0] d0Q) (zs 11 9 [zv 42 4,zK 43 .eql 42 0,zv 44 43,.br 44 true [zg 45 (zm 3) 44 true,zg 46 (zt 8 1) 44 true,.mk (some 47) (zw 31 [46]) (some (44,true)),.mk (some 48) (zw 20 [45,47]) (some (44,true))],zP 49 44 48,zv 2 49] .ret)
def d0S:aB:= .seq (zs 7 13 [zv 19 5,zK 20 .eql 19 0,zv 21 20,.grp 21 true [zg 22 (zF 0 1) 21 true,zg 23 (zy 22) 21 true,zg 24 (zU .neq 23 2) 21 true],zP 25 21 24,zv 26 25,.br 26 true [zg 27 (zF 0 1) 26 true,zg 28 (zy 27) 26 true,.mk (some 29) (zw 30 [28]) (some (26,true)),zg 30 (zV 29) 26 true],zP 31 26 30] d0P) d0R
def d0T:aB:=zs 6 3 [zA 17 8 1,zq 18 29 [17],zv 5 18] d0S
def d0U:aB:=zs 5 8 [zA 12 8 1,zq 13 15 [12],zq 14 28 [13],zv 11 14,zE 15 0 11,zE 16 1 11,zv 3 15,zv 4 16] d0T
def d0V:aB:= .seq (zs 3 3 [zA 8 8 1,zq 9 13 [8],zN 10 9] d0O) d0U
def d0W:aB:= .seq (zs 1 2 [zc 6 12 [],zN 7 6] d0N) d0V
def c5:aB:=zs 0 2 [zX 1 8 0,zW 2 false] d0W
theorem k5:Compiled prog 5 50 [.tmp 2] c5:=kMk [] func5
def c28:aB:=zs 0 3 [zX 1 8 0,zo 2 (.mv (.con (.one (.tt 2 [])))),zM 3 0] (.seq (.seq (.region 1 true 14 [zA 5 8 1,zq 6 80 [5],zf 7 0 1,zl 8 7,zK 9 .eql 8 2,zv 10 9,.br 10 false [zg 11 (zF 0 1) 10 false,zg 12 (zy 11) 10 false,.mk (some 13) (zw 61 [12]) (some (10,false))],zQ 14 10 13,zc 15 81 [.tmp 14,zi 4],zo 16 (.bslice 1 2 [za,za] [(0,(1,.tmp 6)),(1,(1,.tmp 15))]),zq 17 79 [16],zv 4 17]) (zs 2 2 [zv 18 4,zK 19 .neq 18 0] (zd 19 (zs 3 3 [zv 20 4,zo 2 (.mv (.con (.one (.tt 2 [])))),zv 3 20] .ret) .skip))) (zs 4 4 [zA 21 8 1,zq 22 82 [21],zv 2 22,zM 3 0] .ret))
theorem k28:Compiled prog 28 23 [.tmp 2,.tmp 3] c28:=kMk [] func28
def c29:aB:=zs 0 2 [zX 1 8 0,zM 2 0] (zs 1 7 [zA 6 8 1,zq 7 16 [6],zv 5 7,zE 8 0 5,zE 9 1 5,zv 3 8,zv 4 9] (zs 2 2 [zv 10 4,zv 2 10] .ret))
theorem k29:Compiled prog 29 11 [.tmp 2] c29:=kMk [] func29
def c31:aB:=zs 0 2 [zX 1 8 0,zo 2 (.mv (.con (.one (.tt 2 []))))] (zs 1 5 [zf 4 7 1,zl 5 4,zL 6 5,zK 7 .sub 6 1,zv 3 7] (.seq (zs 2 3 [zf 8 0 1,zl 9 8,zK 10 .eql 9 2] (zd 10 (.seq (zs 3 2 [zv 11 3,zK 12 .lss 11 0] (zd 12 (zs 4 3 [zo 13 (.build [za,za] [(0,(1,zi (-1152921504606846976))),(1,(1,zi 1152921504606846976))]),zo 14 (.bslice 2 1 [za,za] [(0,(2,.tmp 13))]),zv 2 14] .ret) .skip)) (zs 5 5 [zf 15 7 1,zl 16 15,zv 17 3,zq 18 83 [16,17],zv 2 18] .ret)) .skip)) (.seq (zs 6 2 [zv 19 3,zK 20 .lss 19 0] (zd 20 (zs 7 3 [zo 21 (.build [za,za] [(0,(1,zi 0)),(1,(1,zi 40))]),zo 22 (.bslice 2 1 [za,za] [(0,(2,.tmp 21))]),zv 2 22] .ret) .skip)) (zs 8 5 [zf 23 7 1,zl 24 23,zv 25 3,zq 26 84 [24,25],zv 2 26] .ret))))
theorem k31:Compiled prog 31 27 [.tmp 2] c31:=kMk [] func31
def c82:aB:=zs 0 2 [zX 1 8 0,zo 2 (.mv (.con (.one (.tt 2 []))))] (.seq (.block 0 (zs 1 5 [zf 4 7 1,zl 5 4,zL 6 5,zK 7 .gtr 6 0,zv 3 7] (zd 3 (zs 2 8 [zf 8 7 1,zl 9 8,zf 10 7 1,zl 11 10,zL 12 11,zK 13 .sub 12 1,zq 14 90 [9,13],zv 2 14] .ret) (zs 3 4 [zf 16 0 1,zl 17 16,zK 18 .eql 17 2,zv 15 18] (zd 15 (zs 4 3 [zo 19 (.build [za,za] [(0,(1,zi (-1152921504606846976))),(1,(1,zi 1152921504606846976))]),zo 20 (.bslice 2 1 [za,za] [(0,(2,.tmp 19))]),zv 2 20] .ret) .skip))))) (zs 5 3 [zo 21 (.build [za,za] [(1,(1,zi 40))]),zo 22 (.bslice 2 1 [za,za] [(0,(2,.tmp 21))]),zv 2 22] .ret))
theorem k82:Compiled prog 82 23 [.tmp 2] c82:=kMk [] func82
def b71:aB:= .seq (zs 8 5 [zv 26 7,zf 27 3 5,zl 28 27,zp 29 28,zB 30 .lss 26 29] (zd 30 .skip (.exit 1))) (.seq (.block 2 (zs 10 6 [zf 33 3 5,zl 34 33,zv 35 7,zo 36 (.ixs (.tmp 34) (.tmp 35)),zo 37 (.dO .i64 (.tmp 36)),zv 8 37] (zr 11 7 [zv 38 6,zv 39 8,zv 40 8,zo 41 (.build [za,za] [(0,(1,.tmp 39)),(1,(1,.tmp 40))]),zo 42 (.bslice 2 1 [za,za] [(0,(2,.tmp 41))]),zc 43 38 [zi 0,.tmp 38,.tmp 42],zv 6 43]))) (zr 9 3 [zv 31 7,zK 32 .add 31 1,zv 7 32]))
def c83:aB:=zs 0 1 [zo 4 (.mv (.con (.one (.tt 2 []))))] (zs 1 6 [zv 10 0,zv 11 1,zI 12 5 10 11,zA 13 5 12,zo 5 (.alloc [za,za,za,.t (.str (bs [])),.tt 1 []]),zS 5 5 13] (.seq (zs 2 2 [zf 14 0 5,zl 15 14] (.block 0 (zs 3 2 [zK 17 .eql 15 0,zv 16 17] (zd 16 (zs 4 7 [zf 18 1 5,zl 19 18,zf 20 2 5,zl 21 20,zo 22 (.build [za,za] [(0,(1,.tmp 19)),(1,(1,.tmp 21))]),zo 23 (.bslice 2 1 [za,za] [(0,(2,.tmp 22))]),zv 4 23] .ret) (zs 5 2 [zK 25 .eql 15 1,zv 24 25] (zd 24 (zs 6 1 [zo 6 (.mv (.con (.one (.tt 2 []))))] (.seq (zs 7 1 [zM 7 0] (.block 1 (.loop b71))) (zs 12 2 [zv 44 6,zv 4 44] .ret))) .skip)))))) (.seq (zs 13 4 [zf 45 4 5,zl 46 45,zL 47 46,zK 48 .eql 47 1] (zd 48 (zs 14 7 [zv 49 0,zf 50 4 5,zl 51 50,zj 52 1 51 0,zl 53 52,zq 54 83 [49,53],zv 4 54] .ret) .skip)) (zs 15 1 [zM 9 0] (.seq (zs 16 3 [zf 55 0 5,zl 56 55,zK 57 .eql 56 5] (zd 57 (zr 17 1 [zM 9 1]) .skip)) (.seq (zs 18 3 [zf 58 0 5,zl 59 58,zK 60 .eql 59 6] (zd 60 (zr 19 1 [zM 9 2]) .skip)) (.seq (.region 20 true 15 [zv 61 9,zv 62 0,zf 63 4 5,zl 64 63,zj 65 1 64 0,zl 66 65,zq 67 83 [62,66],zv 68 0,zf 69 4 5,zl 70 69,zj 71 1 70 1,zl 72 71,zq 73 83 [68,72],zq 74 38 [61,67,73],zv 4 74]) .ret)))))))
theorem k83:Compiled prog 83 75 [.tmp 4] c83:=kMk [] func83
def c84:aB:=zs 0 1 [zo 4 (.mv (.con (.one (.tt 2 []))))] (zs 1 6 [zv 7 0,zv 8 1,zI 9 5 7 8,zA 10 5 9,zo 5 (.alloc [za,za,za,.t (.str (bs [])),.tt 1 []]),zS 5 5 10] (.seq (zs 2 3 [zf 11 0 5,zl 12 11,zK 13 .eql 12 2] (zd 13 (zs 3 7 [zv 14 0,zf 15 4 5,zl 16 15,zj 17 1 16 0,zl 18 17,zq 19 83 [14,18],zv 4 19] .ret) .skip)) (.seq (zs 4 4 [zf 20 4 5,zl 21 20,zL 22 21,zK 23 .eql 22 1] (zd 23 (zs 5 7 [zv 24 0,zf 25 4 5,zl 26 25,zj 27 1 26 0,zl 28 27,zq 29 84 [24,28],zv 4 29] .ret) .skip)) (zs 6 1 [zM 6 0] (.seq (zs 7 3 [zf 30 0 5,zl 31 30,zK 32 .eql 31 5] (zd 32 (zr 8 1 [zM 6 1]) .skip)) (.seq (zs 9 3 [zf 33 0 5,zl 34 33,zK 35 .eql 34 6] (zd 35 (zr 10 1 [zM 6 2]) .skip)) (.seq (.region 11 true 15 [zv 36 6,zv 37 0,zf 38 4 5,zl 39 38,zj 40 1 39 0,zl 41 40,zq 42 84 [37,41],zv 43 0,zf 44 4 5,zl 45 44,zj 46 1 45 1,zl 47 46,zq 48 84 [43,47],zq 49 38 [36,42,48],zv 4 49]) .ret)))))))
theorem k84:Compiled prog 84 50 [.tmp 4] c84:=kMk [] func84
theorem P19(b:Bool):PSp prog 19 [.one (.t (.bool (b)))] (.one (.t (I (if b then 1 else 0)))):=by
 refine k19.aI (by simp) rfl rfl ?_;cases q0:b
 ·simp -implicitDefEqProofs [c19,aC, *]
 ·simp -implicitDefEqProofs [c19,aC, *]
theorem P30(k:Int):PSp prog 30 [.one (.t (I (k)))] (.one (.t (.bool (k==11||k==12)))):=by
 refine k30.aI (by simp) rfl rfl ?_;simp -implicitDefEqProofs [c30,aC, *]
theorem P60(k:Int):PSp prog 60 [.one (.t (I (k)))] (.one (.t (.bool (k==6||k==4||k==5)))):=by
 refine k60.aI (by simp) rfl rfl ?_;simp -implicitDefEqProofs [c60,aC, *]
theorem P61(k:Int):PSp prog 61 [.one (.t (I (k)))] (.one (.t (.bool (k==11||k==12)))):=by
 refine k61.aI (by simp) rfl rfl ?_;simp -implicitDefEqProofs [c61,aC, *]
theorem aUU(k:Int):PSp prog 133 [.one (.t (I (k)))] (.one (.t (I (if k==11||k==12 then 40 else 200)))):=by
 refine k133.aI (by simp) rfl rfl ?_;rcases eW k 11 with rfl | q0
 ·simp -implicitDefEqProofs [c133, *]
  all_goals (refine aD.tree (P30 _) (by first | rfl | simp[D.kB]) ?_;simp -implicitDefEqProofs [aC, *])
 ·rcases eW k 12 with rfl | q1
  ·simp -implicitDefEqProofs [c133, *]
   all_goals (refine aD.tree (P30 _) (by first | rfl | simp[D.kB]) ?_;simp -implicitDefEqProofs [aC, *])
  ·simp -implicitDefEqProofs [c133, *]
   all_goals (refine aD.tree (P30 _) (by first | rfl | simp[D.kB]) ?_;simp -implicitDefEqProofs [aC, *])
theorem tP(n lo hi:Int):PSp prog 170 [.one (.t (I (n))),.one (.t (I (lo))),.one (.t (I (hi)))] (.one (.t (.bool (decide (lo≤n)&&decide (n≤hi))))):=by
 refine k170.aI (by simp) rfl rfl ?_;simp -implicitDefEqProofs [c170,aC, *]
theorem mX(b:Bool)(e:Int):PSp prog 171 [.one (.t (.bool (b))),.one (.t (I (e)))] (.one (.t (I (if b then 0 else e)))):=by
 refine k171.aI (by simp) rfl rfl ?_;cases q0:b
 ·simp -implicitDefEqProofs [c171,aC, *]
 ·simp -implicitDefEqProofs [c171,aC, *]
theorem aPX(k:Int):PSp prog 177 [.one (.t (I (k)))] (.one (.t (.bool (k==11||k==12)))):=by
 refine k177.aI (by simp) rfl rfl ?_;simp -implicitDefEqProofs [c177,aC, *]
theorem aUV(k:Int):PSp prog 212 [.one (.t (I (k)))] (.one (.t (.bool (k==9||k==10)))):=by
 refine k212.aI (by simp) rfl rfl ?_;simp -implicitDefEqProofs [c212,aC, *]
theorem aFR(k:Int):PSp prog 172 [.one (.t (I (k)))] (.one (.t (.bool (k==9||k==10||k==13)))):=by
 refine k172.aI (by simp) rfl rfl ?_;simp -implicitDefEqProofs [c172,aC, *]
 all_goals (refine aD.tree (aUV _) (by first | rfl | simp[D.kB]) ?_;simp -implicitDefEqProofs [*])
theorem aUW(k:Int):PSp prog 148 [.one (.t (I (k)))] (.one (.t (.bool (k==9||k==10||k==13||k==15)))):=by
 refine k148.aI (by simp) rfl rfl ?_;rcases eW k 9 with rfl | q0
 ·simp -implicitDefEqProofs [c148,aC, *]
  all_goals (refine aD.tree (aFR _) (by first | rfl | simp[D.kB]) ?_;simp -implicitDefEqProofs [*])
 ·rcases eW k 10 with rfl | q1
  ·simp -implicitDefEqProofs [c148,aC, *]
   all_goals (refine aD.tree (aFR _) (by first | rfl | simp[D.kB]) ?_;simp -implicitDefEqProofs [*])
  ·rcases eW k 13 with rfl | q2
   ·simp -implicitDefEqProofs [c148,aC, *]
    all_goals (refine aD.tree (aFR _) (by first | rfl | simp[D.kB]) ?_;simp -implicitDefEqProofs [*])
   ·simp -implicitDefEqProofs [c148,aC, *]
    all_goals (refine aD.tree (aFR _) (by first | rfl | simp[D.kB]) ?_;simp -implicitDefEqProofs [*])
theorem aRX(n:Int):PSp prog 184 [.one (.t (I (n)))] (.one (.t (.bool (decide (-1152921504606846976≤n)&&decide (n≤1152921504606846976))))):=by
 refine k184.aI (by simp) rfl rfl ?_;simp -implicitDefEqProofs [c184,aC, *]
 all_goals (refine aD.tree (tP _ _ _) (by first | rfl | simp[D.kB]) ?_;simp -implicitDefEqProofs [*])
theorem aUX(k:Int):PSp prog 235 [.one (.t (I (k)))] (.one (.t (.bool (k==9||k==10||k==13)))):=by
 refine k235.aI (by simp) rfl rfl ?_;simp -implicitDefEqProofs [c235,aC, *]
theorem aUY(c:Int):PSp prog 240 [.one (.t (.int .u8 (c)))] (.one (.t (.bool (decide (97≤c)&&decide (c≤122))))):=by
 refine k240.aI (by simp) rfl rfl ?_;simp -implicitDefEqProofs [c240,aC, *]
theorem aUZ(c:Int):PSp prog 241 [.one (.t (.int .u8 (c)))] (.one (.t (.bool (decide (65≤c)&&decide (c≤90))))):=by
 refine k241.aI (by simp) rfl rfl ?_;simp -implicitDefEqProofs [c241,aC, *]
theorem aV0(c:Int):PSp prog 242 [.one (.t (.int .u8 (c)))] (.one (.t (.bool (decide (48≤c)&&decide (c≤57))))):=by
 refine k242.aI (by simp) rfl rfl ?_;simp -implicitDefEqProofs [c242,aC, *]
theorem aV1(c:Int):PSp prog 260 [.one (.t (.int .u8 (c)))] (.one (.t (.bool (decide (48≤c)&&decide (c≤57))))):=by
 refine k260.aI (by simp) rfl rfl ?_;simp -implicitDefEqProofs [c260,aC, *]
theorem aV2(c:Int):PSp prog 257 [.one (.t (.int .u8 (c)))] (.one (.t (.bool ((decide (97≤c)&&decide (c≤122))||(decide (65≤c)&&decide (c≤90)))))):=by
 refine k257.aI (by simp) rfl rfl ?_;rcases mB (97) (c)with q0 | q0
 ·rcases mB (c) (122)with q1 | q1
  ·rcases mB (65) (c)with q2 | q2
   ·simp -implicitDefEqProofs [c257,aC, *]
   ·simp -implicitDefEqProofs [c257,aC, *]
  ·rcases mB (65) (c)with q2 | q2
   ·simp -implicitDefEqProofs [c257,aC, *]
   ·simp -implicitDefEqProofs [c257,aC, *]
 ·rcases mB (c) (122)with q1 | q1
  ·rcases mB (65) (c)with q2 | q2
   ·simp -implicitDefEqProofs [c257,aC, *]
   ·simp -implicitDefEqProofs [c257,aC, *]
  ·rcases mB (65) (c)with q2 | q2
   ·simp -implicitDefEqProofs [c257,aC, *]
   ·simp -implicitDefEqProofs [c257,aC, *]
theorem aRY(c:Int):PSp prog 284 [.one (.t (I (c)))] (.one (.t (.bool (false)))):=by
 refine k284.aI (by simp) rfl rfl ?_;simp -implicitDefEqProofs [c284,aC, *]
theorem aV3(k:Int):PSp prog 201 [.one (.t (I (k)))] (.one (.t (.bool (k==9||k==12)))):=by
 refine k201.aI (by simp) rfl rfl ?_;simp -implicitDefEqProofs [c201,aC, *]
theorem P49(k:Int):PSp prog 49 [.one (.t (I (k)))] (.one (.t (I (if k==2 then 1 else if k==6 then 2 else if k==4||k==5 then 3 else if k==11||k==12 then 4 else 0)))):=by
 refine k49.aI (by simp) rfl rfl ?_;rcases eW k 2 with rfl | q0
 ·simp -implicitDefEqProofs [c49,aC, *]
 ·rcases eW k 6 with rfl | q1
  ·simp -implicitDefEqProofs [c49,aC, *]
  ·rcases eW k 4 with rfl | q2
   ·simp -implicitDefEqProofs [c49,aC, *]
   ·rcases eW k 5 with rfl | q3
    ·simp -implicitDefEqProofs [c49,aC, *]
    ·rcases eW k 11 with rfl | q4
     ·simp -implicitDefEqProofs [c49,aC, *]
     ·rcases eW k 12 with rfl | q5
      ·simp -implicitDefEqProofs [c49,aC, *]
      ·simp -implicitDefEqProofs [c49,aC, *]
theorem aV4(k a:Int):PSp prog 115 [.one (.t (I (k))),.one (.t (I (a)))] (.one (.t (.bool (if k==0 then(a==1||a==5||a==6)else if k==1 then(a==2||a==3||a==6)else if k==2 then(a==2||a==3||a==4)else if k==3 then a==2 else true)))):=by
 refine k115.aI (by simp) rfl rfl ?_;rcases eW k 0 with rfl | q0
 ·simp -implicitDefEqProofs [c115,aC, *]
 ·rcases eW k 1 with rfl | q1
  ·simp -implicitDefEqProofs [c115,aC, *]
  ·rcases eW k 2 with rfl | q2
   ·simp -implicitDefEqProofs [c115,aC, *]
   ·rcases eW k 3 with rfl | q3
    ·simp -implicitDefEqProofs [c115,aC, *]
    ·simp -implicitDefEqProofs [c115,aC, *]
section
section
variable {P:Program} {n:Nat} {A:Exit→St→Prop} {ks:List KF} {st:St} {x:aB}
theorem fD{J J':St→Prop}(h:aZ P n A x (.post J::ks) st)(hJ:∀ st',J st'→J' st'):W P n x (kont P n A (.post J'::ks)) st:=by
 refine(W.iB x _ st h).mono fun e st' hq=>?_
 cases e with
 | normal=>exact hJ st' hq
 | _=>exact hq
theorem aDC(len:Nat)(J:Nat→St→Prop)(h0:J 0 st)(round:∀ i st,i<len→J i st→aZ P n A x (.post (J (i+1))::ks) st)(last:∀ st,J len st→aZ P n A x (.post (fun _=>False)::ks) st):
  W P n (.loop x) (kont P n A ks) st:=by
 refine W.loop (fun k st=>∃ i,k=len - i∧i≤len∧J i st) len ⟨0,by omega,by omega,h0⟩ ?_;rintro k st ⟨i,rfl,hi,hJ⟩;rcases Nat.lt_or_ge i len with h | h
 ·exact fD (round i st h hJ) fun st' hs=>⟨len - (i+1),by omega,i+1,rfl,by omega,hs⟩
 ·have:i=len:=by omega
  subst this;exact fD (last st hJ) fun st' h=>h.elim
theorem aDD{α:Type}(l:List α)(bad:α→Bool)(J:Nat→St→Prop)(h0:J 0 st)
  (round:∀ i y st,i<l.length→l[i]? =some y→y∈l→(bad y=true→l.any bad=true)→J i st→aZ P n A x (.post (fun st'=>bad y=false∧J (i+1) st')::ks) st)
  (last:∀ st,l.any bad=false→J l.length st→aZ P n A x (.post (fun _=>False)::ks) st):W P n (.loop x) (kont P n A ks) st:=by
 refine W.loop (fun k st=>∃ i,k=l.length - i∧i≤l.length∧(l.take i).any bad=false∧J i st) l.length ⟨0,by omega,by omega,by simp,h0⟩ ?_;rintro k st ⟨i,rfl,hi,ha,hJ⟩;rcases Nat.lt_or_ge i l.length with h | h
 ·have hy:l[i]? =some l[i]:=gE9 h;refine fD (round i _ st h hy (gL9 h) (fun hb=>List.any_eq_true.2 ⟨_,gL9 h,hb⟩) hJ) fun st' hs=>⟨l.length - (i+1),by omega,i+1,rfl,by omega,?_,hs.2⟩
  have e:List.take (i+1) l=List.take i l++[l[i]]:=by rw[List.take_add_one,hy];rfl
  rw[e,List.any_append,ha];simp[hs.1]
 ·have:i=l.length:=by omega
  subst this;rw[List.take_length]at ha;exact fD (last st ha hJ) fun st' h=>h.elim
theorem aE{α:Type}{l:List α}{g:α→List T}{i:Nat}{y:α}(h:l[i]? =some y):∀ hh,(l.map g)[i]'hh=g y:=fun hh=>by
 rw[List.getElem_map];congr 1;exact(gS9.1 h).2
end
end
end Go.Proofs.YtdpbobkcbakpfaaGreatDoor
namespace Go.Ab
open Go
set_option maxHeartbeats 4000000
def gOk:D→Prop
 | .one (.t (.bool _))=>True
 | .one .undef=>True
 | _=>False
def gV(d:D)(b:Bool):Bool:=
 match d with
 | .one (.t (.bool c))=>c==b
 | _=>false
theorem aBW{tm:Nat→D}{s:Nat}{b:Bool}:aA tm (some (s,b))=gOk (tm s):=rfl
theorem aIC{tm:Nat→D}{s:Nat}{b:Bool}:gval tm (some (s,b))=gV (tm s) b:=rfl
theorem aKK{c:Bool}:gOk (.one (.t (.bool c)))=True:=rfl
theorem aID:gOk (.one .undef)=True:=rfl
theorem aN9{g c:Bool}:gOk (sel g (.one (.t (.bool c))) (.one .undef))=True:=by cases g<;>rfl
theorem aNA{c:Bool}:gV (.one (.t (.bool c))) true=c:=by cases c<;>rfl
theorem aKL{c:Bool}:gV (.one (.t (.bool c))) false= !c:=by cases c<;>rfl
theorem aKM{b:Bool}:gV (.one .undef) b=false:=rfl
theorem aDE{g c:Bool}:gV (sel g (.one (.t (.bool c))) (.one .undef)) true=(g&&c):=by cases g<;>cases c<;>rfl
theorem aBX{g c:Bool}:gV (sel g (.one (.t (.bool c))) (.one .undef)) false=(g&& !c):=by cases g<;>cases c<;>rfl
theorem aKN{g c:Bool}{u a b v:D}:sel g ((sel g (.one (.t (.bool c))) u).pick a b) v=sel g (sel c a b) v:=by cases g<;>cases c<;>rfl
theorem aBY{g x:Bool}{a u b v:D}:sel g (sel x (sel (g&&x) a u) b) v=sel g (sel x a b) v:=by cases g<;>cases x<;>rfl
theorem yO{g x:Bool}{a u b v:D}:sel g (sel x b (sel (g&& !x) a u)) v=sel g (sel x b a) v:=by cases g<;>cases x<;>rfl
theorem yP{c:Bool}{a b u:D}:sel (!c) a (sel c b u)=sel (!c) a b:=by cases c<;>rfl
attribute [simp] yP aBW aIC aKK aID aN9 aNA aKL aKM aDE aBX aKN aBY yO
end Go.Ab
namespace Go.Proofs.YtdpbobkcbakpfaaGreatDoor
open Go Go.Ab
open Go.Proofs.Tryz
set_option maxRecDepth 100000
set_option maxHeartbeats 4000000
def nS(g:Tg):Bool:= !(decide (1≤g.cls)&&decide (g.cls≤3))|| !(decide (0≤g.num)&&decide (g.num≤100000))|| !(decide (0≤g.way)&&decide (g.way≤2))
def Fd.fT:Fd→Bool
 | .mk _ _ _ p _ g=> !(decide (0≤p)&&decide (p≤2))||decide (g<0)
def Ty.cI:Ty→Int
 | .mk k _ tg fs _ r _ _=>if !(decide (0≤k)&&decide (k≤15))then 4 else if 3<tg.length∨16<fs.length∨k=15∧4<fs.length then 2
  else if tg.any nS||fs.any Fd.fT|| !(decide (0≤r)&&decide (r≤fs.length))then 3 else 0
theorem oV{i n:Nat}(h:i<n)(hn:n≤9223372036854775807):IntKind.i64.wrap ((i:Int)+1)=((i+1:Nat):Int):=aH _ (by omega) (by omega)
theorem aV5(t:Ty)(ht:t.fine):PSp prog 146 [.agg (t.row.map .t)] (.one (.t (I t.cI))):=by
 obtain⟨k,nm,tg,fs,o,r,of,l⟩:=t;obtain⟨f1,f2,f3,f4,f5,f6,f7,f8⟩:=ht;simp only[short]at f2 f3 f5 f7;refine k146.aI (by simp) (by simp[Ty.row,D.closed];exact⟨rfl,rfl,rfl,rfl,rfl,rfl,rfl,rfl⟩) rfl ?_;simp -implicitDefEqProofs [c146,b5K,b5L,Ty.row,iS];refine aD.tree (tP _ _ _) rfl ?_;simp -implicitDefEqProofs+contextual [b5M,b5N,b5O,b5P,aC,-aA,-gval,-Bool.not_or,-Bool.not_and,-Int.not_lt,-Int.not_le,-Nat.not_lt,-Nat.not_le];refine⟨fun hk=>?_,fun h1 h2=>⟨fun h3=>?_,fun h4 h5 h6=>?_⟩⟩
 ·simp[Ty.cI];omega
 ·simp[Ty.cI];omega
 ·have base:∀ b,(Ty.mk k nm tg fs o r of l).cI=b↔(if tg.any nS||fs.any Fd.fT|| !(decide (0≤r)&&decide (r≤fs.length))then 3 else 0)=b:=fun b=>by
   have e1:(decide (0≤k)&&decide (k≤15))=true:=by simp[h1,h2]
   have e2:¬ (3<tg.length∨16<fs.length∨k=15∧4<fs.length):=by omega
   simp only[Ty.cI,e1,Bool.not_true];rw[if_neg (by simp),if_neg e2]
  generalize (Ty.mk k nm tg fs o r of l).cI=R at*
  refine aDD tg nS (fun i st=>st.tmps 1= .one (.ptr ⟨0,0,8,0,0⟩)∧st.heap 0=some (.arr 0 false 8 [[.t (I k),.t (.str nm),.t (.rows 3 (tg.map Tg.row)),.t (.rows 13 (fs.map Fd.row)),.t (.bool o),.t (I r),.t (.rows 8 (wS of)),.t (aG l)]])∧1≤st.nx∧
   st.tmps 33= .one (.t (.rows 3 (tg.map Tg.row)))∧st.tmps 34= .one (.t (I tg.length))∧st.tmps 35= .one (.t (I i))) ⟨by simp,by simp[Hp.set],by simp,by simp,by simp,by simp⟩ ?_ ?_
  ·rintro i ⟨c,n,w⟩ st hi hg _ hany ⟨j1,j2,j3,j33,j34,j35⟩;have hiI:(i:Int)<tg.length:=by omega
   have hw:=oV hi f2;have hn0:∀ c,¬0=st.nx+1+c:=fun c=>by omega
   simp -implicitDefEqProofs [a8U,a8T,b5Q,b5R,j33,j34,j35,hiI,hi,aE hg,Tg.row];have hbad:nS ⟨c,n,w⟩=(!(decide (1≤c)&&decide (c≤3))|| !(decide (0≤n)&&decide (n≤100000))|| !(decide (0≤w)&&decide (w≤2))):=rfl;rw[hbad]at hany ⊢
   have aDF:tg.any nS=true→3=R:=fun e=>by
    have:=(base 3).2 (by rw[e];rfl);exact this.symm
   refine aD.tree (tP _ _ _) rfl ?_;cases ha:(decide (1≤c)&&decide (c≤3))with
   | false=>
    simp -implicitDefEqProofs [a5U,aC];exact aDF (hany (by rw[ha];rfl))
   | true=>
    simp;refine aD.tree (tP _ _ _) rfl ?_;cases hb:(decide (0≤n)&&decide (n≤100000))with
    | false=>
     simp -implicitDefEqProofs [a5U,aC];exact aDF (hany (by rw[ha,hb];rfl))
    | true=>
     simp;refine aD.tree (tP _ _ _) rfl ?_;cases hc:(decide (0≤w)&&decide (w≤2))with
     | false=>
      simp -implicitDefEqProofs [a5U,aC];exact aDF (hany (by rw[ha,hb,hc];rfl))
     | true=>
      simp -implicitDefEqProofs [b5S,j35,hw];refine⟨by simp at ha hb hc;omega,j1,?_,j33,j34⟩;simp only[Hp.set];rw[if_neg (by omega),if_neg (by omega)];exact j2
  ·rintro st hany ⟨j1,j2,j3,j33,j34,j35⟩;have hn0:∀ c,¬0=st.nx+c:=fun c=>by omega
   obtain⟨o1,o2,o3,o4⟩:=aK j2;simp -implicitDefEqProofs [a8U,a8T,b5T,j34,j35,j1,o1,o2,o3];rw[hany,Bool.false_or]at base
   refine aDD fs Fd.fT (fun i st=>st.tmps 1= .one (.ptr ⟨0,0,8,0,0⟩)∧st.heap 0=some (.arr 0 false 8 [[.t (I k),.t (.str nm),.t (.rows 3 (tg.map Tg.row)),.t (.rows 13 (fs.map Fd.row)),.t (.bool o),.t (I r),.t (.rows 8 (wS of)),.t (aG l)]])∧1≤st.nx∧
    st.tmps 57= .one (.t (.rows 13 (fs.map Fd.row)))∧st.tmps 58= .one (.t (I fs.length))∧st.tmps 59= .one (.t (I i))) ⟨by simp[j1],by simp[j2],by simp,by simp,by simp,by simp⟩ ?_ ?_
   ·rintro i ⟨fn,fnum,⟨q1,q2,q3,q4,q5,q6,q7,q8⟩,fp,fd,fg⟩ st hi hg _ hany ⟨j1,j2,j3,j33,j34,j35⟩;have hiI:(i:Int)<fs.length:=by omega
    have hw:=oV hi f3;have hn0:∀ c,¬0=st.nx+1+c:=fun c=>by omega
    have aDF:fs.any Fd.fT=true→3=R:=fun e=>((base 3).2 (by rw[e];rfl)).symm
    simp -implicitDefEqProofs [a8W,a8V,b5U,b5V,j33,j34,j35,hiI,hi,aE hg,Fd.row,Ty.row];refine aD.tree (tP _ _ _) rfl ?_;simp -implicitDefEqProofs+contextual [b5W,b5X,aC,j35,hw,-aA,-gval,-Bool.not_or,-Bool.not_and,-Int.not_lt,-Int.not_le,-Nat.not_lt,-Nat.not_le];refine⟨fun hh=>aDF (hany (by simp[Fd.fT];omega)),fun c1 c2 c3=>⟨by simp[Fd.fT];omega,j1,?_,j33,j34⟩⟩;simp only[Hp.set];rw[if_neg (by omega),if_neg (by omega)];exact j2
   ·rintro st hany ⟨j1,j2,j3,j33,j34,j35⟩;have hn0:∀ c,¬0=st.nx+c:=fun c=>by omega
    obtain⟨o1,o2,o3,o4⟩:=aK j2;simp -implicitDefEqProofs [a8W,a8V,b5Y,j34,j35,j1,o1,o2,o3];refine aD.tree (tP _ _ _) rfl ?_;simp;refine aD.tree (mX _ _) rfl ?_;simp[aC];rw[hany,Bool.false_or]at base;refine((base _).2 ?_).symm
    by_cases hr:0≤r∧r≤fs.length
    ·rw[if_neg (by simp;omega),if_pos hr]
    ·rw[if_pos (by simp;omega),if_neg hr]
abbrev Sz:=Int×Bool
abbrev wr (n:Int):Int:=IntKind.i64.wrap n
def cD(lv:Int)(s:Sz):Sz:=(wr (s.1 - 1),s.2||decide (wr (s.1 - 1)<0)||decide (lv<1))
mutual
def Vl.sz(lv:Int):Vl→Sz→Sz
 | .mk _ _ _ _ _ is,s=>if(cD lv s).2 then cD lv s else gG (wr (lv - 1)) is (cD lv s)
def gG(lv:Int):List Vl→Sz→Sz
 | [],s=>s
 | v::r,s=>if s.2 then s else gG lv r (v.sz lv s)
end
mutual
def Ty.sz(lv:Int):Ty→Sz→Sz
 | .mk _ _ _ fs _ _ of _,s=>if(cD lv s).2 then cD lv s else lU (wr (lv - 1)) of (mO (wr (lv - 1)) fs (cD lv s))
def Fd.sz(lv:Int):Fd→Sz→Sz
 | .mk _ _ t _ d _,s=>gG lv d (t.sz lv s)
def mO(lv:Int):List Fd→Sz→Sz
 | [],s=>s
 | f::r,s=>if s.2 then s else mO lv r (f.sz lv s)
def lU(lv:Int):List Ty→Sz→Sz
 | [],s=>s
 | t::r,s=>if s.2 then s else lU lv r (t.sz lv s)
end
def eC(h:Hp)(id:Nat)(s:Sz):Hp:=h.set id (.arr 0 false 2 [[.t (I s.1),.t (.bool s.2)]])
theorem aNB{h:Hp}{id:Nat}{s:Sz}:eC h id s id=some (.arr 0 false 2 [[.t (I s.1),.t (.bool s.2)]]):=by simp[eC,Hp.set]
theorem okS{h:Hp}{n id:Nat}{s:Sz}(ho:aF h n)(hid:id<n):aF (eC h id s) n:=aF.set ho hid (by simp[O.below,A.below])
theorem dQ{t n0:Nat}{d:T}{e:Exit}{st:St}{h':Hp}(he:e= .normal∨e= .ret)(hr:st.tmps t= .one (.t d))(hh:∀ id,id<n0→st.heap id=h' id)(ho:aF h' n0):gF [.tmp t] (.one (.t d)) h' n0 e st:=
 ⟨he,⟨by simp[],by simp⟩,by simp[hr],by simp[hr],by simp[hr],hh,ho.above,ho.below⟩
theorem eX{n0:Nat}{e:Exit}{st:St}{h':Hp}(he:e= .normal∨e= .ret)(hh:∀ id,id<n0→st.heap id=h' id)(ho:aF h' n0):gF [] (.tup []) h' n0 e st:=
 ⟨he,⟨by simp,by simp⟩,by simp[lT,D.cE],by simp[lT,D.frz],by simp[lT,D.ids],hh,ho.above,ho.below⟩
theorem aHD(h:Hp)(n0 id:Nat)(lv:Int)(s:Sz)(ho:aF h n0)(hs:h id=some (.arr 0 false 2 [[.t (I s.1),.t (.bool s.2)]])):
  ISp prog 144 h n0 [.one (.ptr ⟨id,0,2,0,0⟩),.one (.t (I lv))] (.one (.t (.bool (!(cD lv s).2)))) (eC h id (cD lv s)):=by
 refine k144.gQ (by simp) ?_;obtain⟨o1,o2,o3,o4⟩:=aK hs;have hid:=fZ ho hs;obtain⟨l,b⟩:=s;simp only at o2;simp -implicitDefEqProofs+contextual [c144,b5z,b5A,b5B,b5C,o1,o2,o3,o4,-aA,-gval,-Bool.not_or,-Bool.not_and,-Int.not_lt,-Int.not_le,-Nat.not_lt,-Nat.not_le];refine⟨fun hb=>?_,fun hb=>?_⟩
 ·subst hb;refine dQ (.inr rfl) (by simp[cD,wr]) (fun j hj=>?_) (okS ho hid);simp only[eC,Hp.set,cD,wr];split<;>simp
 ·subst hb;refine dQ (.inr rfl) (by simp[cD,wr]) (fun j hj=>?_) (okS ho hid);simp only[eC,Hp.set,cD,wr];split<;>simp
theorem aHE(h:Hp)(n0 id:Nat)(lv:Int)(s:Sz)(ho:aF h n0)(hs:h id=some (.arr 0 false 2 [[.t (I s.1),.t (.bool s.2)]])):
  ISp prog 104 h n0 [.one (.ptr ⟨id,0,2,0,0⟩),.one (.t (I lv))] (.one (.t (.bool (!(cD lv s).2)))) (eC h id (cD lv s)):=by
 refine k104.gQ (by simp) ?_;obtain⟨o1,o2,o3,o4⟩:=aK hs;have hid:=fZ ho hs;obtain⟨l,b⟩:=s;simp only at o2;simp -implicitDefEqProofs+contextual [c104,b6Q,b6R,b6S,b6T,o1,o2,o3,o4,-aA,-gval,-Bool.not_or,-Bool.not_and,-Int.not_lt,-Int.not_le,-Nat.not_lt,-Nat.not_le];refine⟨fun hb=>?_,fun hb=>?_⟩
 ·subst hb;refine dQ (.inr rfl) (by simp[cD,wr]) (fun j hj=>?_) (okS ho hid);simp only[eC,Hp.set,cD,wr];split<;>simp
 ·subst hb;refine dQ (.inr rfl) (by simp[cD,wr]) (fun j hj=>?_) (okS ho hid);simp only[eC,Hp.set,cD,wr];split<;>simp
def yQ(s:Sz):O:= .arr 0 false 2 [[.t (I s.1),.t (.bool s.2)]]
def kC(f:FuncId)(arg:D)(F:Int→Sz→Sz):Prop:=
 ∀(h:Hp) (n0 id:Nat) (lv:Int) (s:Sz),aF h n0→h id=some (yQ s)→ISp prog f h n0 [.one (.ptr ⟨id,0,2,0,0⟩),arg,.one (.t (I lv))] (.tup []) (eC h id (F lv s))
structure SzH (h:Hp) (n0 id:Nat) (s:Sz) (h':Hp) (nx:Nat):Prop where
 ok:aF h' nx
 obj:h' id=some (yQ s)
 lt:id<n0
 le:n0≤nx
 rest:∀ j,j<n0→j≠id→h' j=h j
theorem SzH.more{h h':Hp}{n0 id nx nx':Nat}{s:Sz}(k:SzH h n0 id s h' nx)(hx:nx≤nx'):SzH h n0 id s h' nx':=⟨aF.more k.ok hx,k.obj,k.lt,by have:=k.le;omega,k.rest⟩
theorem SzH.own{h h':Hp}{n0 id nx a:Nat}{s:Sz}{o:O}(k:SzH h n0 id s h' nx)(ha:n0≤a)(hlt:a<nx)(hb:o.below nx=true):SzH h n0 id s (h'.set a o) nx:=
 ⟨aF.set k.ok hlt hb,by have:=k.lt;simp only[Hp.set];rw[if_neg (by omega)];exact k.obj,k.lt,k.le,fun j hj hne=>by simp only[Hp.set];rw[if_neg (by omega)];exact k.rest j hj hne⟩
theorem SzH.put{h h':Hp}{n0 id nx:Nat}{s s':Sz}(k:SzH h n0 id s h' nx):SzH h n0 id s' (eC h' id s') nx:=
 ⟨okS k.ok (by have:=k.lt;have:=k.le;omega),aNB,k.lt,k.le,fun j hj hne=>by simp only[eC,Hp.set];rw[if_neg hne];exact k.rest j hj hne⟩
theorem SzH.fin{h h':Hp}{n0 id nx:Nat}{s s':Sz}(k:SzH h n0 id s h' nx)(e:s=s'):∀ j,j<n0→h' j=eC h id s' j:=fun j hj=>by
 subst e;simp only[eC,Hp.set];split
 ·rename_i hji;subst hji;exact k.obj
 ·rename_i hji;exact k.rest j hj hji
structure aV6 (h:Hp) (n0 id:Nat) (lv:Int) (is:List Vl) (R:Sz) (i:Nat) (st:St):Prop where
 out:∃ si,gG (wr (lv - 1)) (is.drop i) si=R∧SzH h n0 id si st.heap st.nx∧st.tmps 0= .one (.ptr ⟨id,0,2,0,0⟩)∧st.tmps 2= .one (.t (I lv))∧
  st.tmps 13= .one (.t (.rows 6 (is.map Vl.row)))∧st.tmps 14= .one (.t (I is.length))∧st.tmps 15= .one (.t (I i))
theorem yR(k n e:Int)(sx:ByteArray)(ns:List ByteArray)(is:List Vl)(hs:short is)(IH:∀ x∈is,kC 145 (.agg (x.row.map .t)) fun lv s=>x.sz lv s):kC 145 (.agg ((Vl.mk k n e sx ns is).row.map .t)) fun lv s=>(Vl.mk k n e sx ns is).sz lv s:=by
 intro h n0 id lv s ho hid;have hlt:=fZ ho hid;simp only[short]at hs;refine k145.gQ (by simp) ?_;have k0:SzH h n0 id s h n0:=⟨ho,hid,hlt,Nat.le_refl _,fun _ _ _=>rfl⟩;simp -implicitDefEqProofs [c145,b5D,b5E,Vl.row,dV];obtain⟨h1,hh1⟩:∃ h1,h1=h.set n0 (O.arr 0 false 6 [[.t (I k),.t (I n),.t (I e),.t (T.str sx),.t (aO ns),.t (T.rows 6 (is.map Vl.row))]]):=⟨_,rfl⟩;rw[←hh1];have k1:SzH h n0 id s h1 (n0+1):=by rw[hh1];exact(k0.more (by omega)).own (Nat.le_refl _) (by omega) (by simp[O.below,A.below])
 refine aD.imp (aHD h1 _ id lv s (aF.more k1.ok (by omega)) k1.obj) ?_;have k2:=(k1.put (s':=cD lv s)).more (nx':=n0+1+4) (by omega)
 have hb1:(eC h1 id (cD lv s)) n0=some (O.arr 0 false 6 [[.t (I k),.t (I n),.t (I e),.t (T.str sx),.t (aO ns),.t (T.rows 6 (is.map Vl.row))]]):=by
  simp only[eC,Hp.set,hh1];rw[if_neg (by omega)];simp
 obtain⟨o1,o2,o3,o4⟩:=aK hb1;generalize eC h1 id (cD lv s)=h2 at*;have hend:(Vl.mk k n e sx ns is).sz lv s=if(cD lv s).2 then cD lv s else gG (wr (lv - 1)) is (cD lv s):=by rw[Vl.sz]
 generalize (Vl.mk k n e sx ns is).sz lv s=R at*;simp -implicitDefEqProofs+contextual [b5F,o1,o2,o3];refine⟨fun hb=>eX (.inr rfl) (k2.fin (by rw[hend,if_pos hb])) (okS ho hlt),fun hb=>?_⟩;rw[if_neg (by simp[hb])]at hend;refine aDC is.length (aV6 h n0 id lv is R) ⟨_,hend.symm,k2.more (by simp),by simp,by simp,by simp,by simp,by simp⟩ ?_ ?_
 ·rintro i st hi ⟨si,e1,k3,j0,j2,j13,j14,j15⟩;have hiI:(i:Int)<is.length:=by omega
  have hw:=oV hi hs;have hg:is[i]? =some is[i]:=gE9 hi;have hmem:is[i]∈is:=gL9 hi;obtain⟨o1,o2,o3,o4⟩:=aK k3.obj;have hle:=k3.le;have hne:¬ id=st.nx+1+2:=by omega
  rw[List.drop_eq_getElem_cons hi,gG]at e1;have hIH:=IH _ hmem;generalize is[i]=y at*;obtain⟨yk,yn,ye,ys,yns,yis⟩:=y;simp -implicitDefEqProofs+contextual [a8S,a8R,b5G,b5H,j0,j13,j14,j15,hiI,hi,aE hg,o1,o2,o3,hne,Vl.row,dV];have kk:=fun(o o':O) (ho:o.below (st.nx+13)=true) (ho':o'.below (st.nx+13)=true)=>((k3.more (nx':=st.nx+13) (by omega)).own (a:=st.nx+1+2) (o:=o) (by omega) (by omega) ho).own (a:=st.nx+1+2) (o:=o') (by omega) (by omega) ho'
  refine⟨fun hb=>eX (.inr rfl) ((kk _ _ (by simp[O.below,A.below]) (by simp[O.below,A.below])).fin (by rw[if_pos hb]at e1;exact e1)) (okS ho hlt),fun hb=>?_⟩;rw[if_neg (by simp[hb])]at e1;simp -implicitDefEqProofs [b5I,j0,j2];have k4:=kk (O.arr 0 false 6 [[A.t (T.int IntKind.i64 0),A.t (T.int IntKind.i64 0),A.t (T.int IntKind.i64 0),A.t (T.str (bs [])),A.tt 1 [],A.tt 6 []]]) (O.arr 0 false 6 [[A.t (I yk),A.t (I yn),A.t (I ye),A.t (T.str ys),A.t (aO yns),A.t (T.rows 6 (List.map Vl.row yis))]]) (by simp[O.below,A.below]) (by simp[O.below,A.below]);have aKO:kC 145 (D.agg [A.t (I yk),A.t (I yn),A.t (I ye),A.t (T.str ys),A.t (aO yns),A.t (T.rows 6 (List.map Vl.row yis))]) fun lv s=>(Vl.mk yk yn ye ys yns yis).sz lv s:=by simpa[Vl.row,dV]using hIH
  refine aD.imp (aKO _ _ id _ si k4.ok k4.obj) ?_;simp -implicitDefEqProofs [b5J,j15,hw];exact⟨_,e1,k4.put.more (by simp only;omega),by simp[j0],by simp[j2],by simp[j13],by simp[j14],by simp⟩
 ·rintro st ⟨si,e1,k3,j0,j2,j13,j14,j15⟩;rw[List.drop_length,gG]at e1;simp -implicitDefEqProofs [a8S,a8R,j14,j15];exact eX (.inl rfl) (k3.fin e1) (okS ho hlt)
mutual
theorem wU:∀ v:Vl,v.fine→kC 145 (.agg (v.row.map .t)) fun lv s=>v.sz lv s
 | .mk k n e sx ns is,hf=>yR k n e sx ns is hf.2.2.2.1 (aA8 is hf.2.2.2.2)
theorem aA8:∀ l:List Vl,mC l→∀x∈l,kC 145 (.agg (x.row.map .t)) fun lv s=>x.sz lv s
 | [],_,_,h=>by simp at h
 | v::r,hf,x,h=>by
  rcases List.mem_cons.1 h with e | e
  ·rw[e];exact wU v hf.1
  ·exact aA8 r hf.2 x e
end
structure aV7 (h:Hp) (n0 id:Nat) (lv:Int) (is:List Vl) (o:O) (R:Sz) (i:Nat) (st:St):Prop where
 out:∃ si,gG (wr (lv - 1)) (is.drop i) si=R∧SzH h n0 id si st.heap st.nx∧st.heap n0=some o∧n0<st.nx∧st.tmps 0= .one (.ptr ⟨id,0,2,0,0⟩)∧st.tmps 2= .one (.t (I lv))∧
  st.tmps 4= .one (.ptr ⟨n0,0,6,0,0⟩)∧st.tmps 6= .one (.t (I i))
theorem yS(k n e:Int)(sx:ByteArray)(ns:List ByteArray)(is:List Vl)(hs:short is)(IH:∀ x∈is,kC 105 (.agg (x.row.map .t)) fun lv s=>x.sz lv s):kC 105 (.agg ((Vl.mk k n e sx ns is).row.map .t)) fun lv s=>(Vl.mk k n e sx ns is).sz lv s:=by
 intro h n0 id lv s ho hid;have hlt:=fZ ho hid;simp only[short]at hs;refine k105.gQ (by simp) ?_;have k0:SzH h n0 id s h n0:=⟨ho,hid,hlt,Nat.le_refl _,fun _ _ _=>rfl⟩;simp -implicitDefEqProofs [c105,b6U,b6V,Vl.row,dV];obtain⟨h1,hh1⟩:∃ h1,h1=h.set n0 (O.arr 0 false 6 [[.t (I k),.t (I n),.t (I e),.t (T.str sx),.t (aO ns),.t (T.rows 6 (is.map Vl.row))]]):=⟨_,rfl⟩;rw[←hh1];have k1:SzH h n0 id s h1 (n0+1):=by rw[hh1];exact(k0.more (by omega)).own (Nat.le_refl _) (by omega) (by simp[O.below,A.below])
 refine aD.imp (aHE h1 _ id lv s (aF.more k1.ok (by omega)) k1.obj) ?_;have k2:=(k1.put (s':=cD lv s)).more (nx':=n0+1+4) (by omega)
 have hb1:(eC h1 id (cD lv s)) n0=some (O.arr 0 false 6 [[.t (I k),.t (I n),.t (I e),.t (T.str sx),.t (aO ns),.t (T.rows 6 (is.map Vl.row))]]):=by
  simp only[eC,Hp.set,hh1];rw[if_neg (by omega)];simp
 generalize eC h1 id (cD lv s)=h2 at*;have hend:(Vl.mk k n e sx ns is).sz lv s=if(cD lv s).2 then cD lv s else gG (wr (lv - 1)) is (cD lv s):=by rw[Vl.sz]
 generalize (Vl.mk k n e sx ns is).sz lv s=R at*;simp -implicitDefEqProofs+contextual [b6W];refine⟨fun hb=>eX (.inr rfl) (k2.fin (by rw[hend,if_pos hb])) (okS ho hlt),fun hb=>?_⟩;rw[if_neg (by simp[hb])]at hend;refine aDC is.length (aV7 h n0 id lv is (O.arr 0 false 6 [[.t (I k),.t (I n),.t (I e),.t (T.str sx),.t (aO ns),.t (T.rows 6 (is.map Vl.row))]]) R) ⟨_,hend.symm,k2.more (by simp),by simpa using hb1,by simp;omega,by simp,by simp,by simp,by simp⟩ ?_ ?_
 ·rintro i st hi ⟨si,e1,k3,hbx,hnx,j0,j2,j4,j6⟩;have hiI:(i:Int)<is.length:=by omega
  have hw:=oV hi hs;have hg:is[i]? =some is[i]:=gE9 hi;have hmem:is[i]∈is:=gL9 hi;obtain⟨o1,o2,o3,o4⟩:=aK k3.obj;obtain⟨p1,p2,p3,p4⟩:=aK hbx;have hle:=k3.le;rw[List.drop_eq_getElem_cons hi,gG]at e1;have hIH:=IH _ hmem;generalize is[i]=y at*;obtain⟨yk,yn,ye,ys,yns,yis⟩:=y;simp -implicitDefEqProofs+contextual [a9Y,a9X,j0,j4,j6,hiI,o1,o2,o3,p1,p2,p3];refine⟨fun hb=>?_,fun hb=>eX (.inl rfl) (k3.fin (by rw[if_pos hb]at e1;exact e1)) (okS ho hlt)⟩;rw[if_neg (by simp[hb])]at e1;simp -implicitDefEqProofs [b6X,j0,j2,j4,j6,hiI,hi,aE hg,p1,p2,p3,Vl.row,dV];have aKO:kC 105 (D.agg [A.t (I yk),A.t (I yn),A.t (I ye),A.t (T.str ys),A.t (aO yns),A.t (T.rows 6 (List.map Vl.row yis))]) fun lv s=>(Vl.mk yk yn ye ys yns yis).sz lv s:=by simpa[Vl.row,dV]using hIH
  have k4:=k3.more (nx':=st.nx+12+8) (by omega);refine aD.imp (aKO _ _ id _ si k4.ok k4.obj) ?_;simp -implicitDefEqProofs [b6Y,j6,hw];refine⟨_,e1,k4.put.more (by simp only;omega),?_,by simp only;omega,by simp[j0],by simp[j2],by simp[j4],by simp⟩;simp only[eC,Hp.set];rw[if_neg (by omega)];exact hbx
 ·rintro st ⟨si,e1,k3,hbx,hnx,j0,j2,j4,j6⟩;obtain⟨p1,p2,p3,p4⟩:=aK hbx;rw[List.drop_length,gG]at e1;simp -implicitDefEqProofs [a9Y,a9X,j0,j4,j6,p1,p2,p3];exact eX (.inl rfl) (k3.fin e1) (okS ho hlt)
mutual
theorem sG:∀ v:Vl,v.fine→kC 105 (.agg (v.row.map .t)) fun lv s=>v.sz lv s
 | .mk k n e sx ns is,hf=>yS k n e sx ns is hf.2.2.2.1 (aA9 is hf.2.2.2.2)
theorem aA9:∀ l:List Vl,mC l→∀x∈l,kC 105 (.agg (x.row.map .t)) fun lv s=>x.sz lv s
 | [],_,_,h=>by simp at h
 | v::r,hf,x,h=>by
  rcases List.mem_cons.1 h with e | e
  ·rw[e];exact sG v hf.1
  ·exact aA9 r hf.2 x e
end
theorem oW{lv:Int}{l:List Vl}{s:Sz}(h:s.2=true):gG lv l s=s:=by cases l<;>simp[gG,h]
theorem wV{lv:Int}{l:List Fd}{s:Sz}(h:s.2=true):mO lv l s=s:=by cases l<;>simp[mO,h]
theorem sH{lv:Int}{l:List Ty}{s:Sz}(h:s.2=true):lU lv l s=s:=by cases l<;>simp[lU,h]
theorem aAA:∀ {l:List Vl},mC l→∀x∈l,x.fine
 | [],_,_,h=>by simp at h
 | v::r,hf,x,h=>by
  rcases List.mem_cons.1 h with e | e
  ·rw[e];exact hf.1
  ·exact aAA hf.2 x e
def tyO(k:Int)(nm:ByteArray)(tg:List Tg)(fs:List Fd)(o:Bool)(r:Int)(of:List Ty)(l:List Nd):O:=
 .arr 0 false 8 [[.t (I k),.t (.str nm),.t (.rows 3 (tg.map Tg.row)),.t (.rows 13 (fs.map Fd.row)),.t (.bool o),.t (I r),.t (.rows 8 (of.map Ty.row)),.t (aG l)]]
structure aRZ (h:Hp) (n0 id:Nat) (lv:Int) (fs:List Fd) (of:List Ty) (b:O) (R:Sz) (i:Nat) (st:St):Prop where
 out:∃ si,lU (wr (lv - 1)) of (mO (wr (lv - 1)) (fs.drop i) si)=R∧SzH h n0 id si st.heap st.nx∧st.heap n0=some b∧n0<st.nx∧st.tmps 0= .one (.ptr ⟨id,0,2,0,0⟩)∧st.tmps 2= .one (.t (I lv))∧
  st.tmps 4= .one (.ptr ⟨n0,0,8,0,0⟩)∧st.tmps 17= .one (.t (.rows 13 (fs.map Fd.row)))∧st.tmps 18= .one (.t (I fs.length))∧st.tmps 19= .one (.t (I i))
structure aS0 (h:Hp) (n0 id:Nat) (lv:Int) (fs:List Fd) (of:List Ty) (b:O) (R:Sz) (i:Nat) (d:List Vl) (j:Nat) (st:St):Prop where
 out:∃ si,lU (wr (lv - 1)) of (mO (wr (lv - 1)) (fs.drop (i+1)) (gG (wr (lv - 1)) (d.drop j) si))=R∧SzH h n0 id si st.heap st.nx∧st.heap n0=some b∧n0<st.nx∧st.tmps 0= .one (.ptr ⟨id,0,2,0,0⟩)∧st.tmps 2= .one (.t (I lv))∧
  st.tmps 4= .one (.ptr ⟨n0,0,8,0,0⟩)∧st.tmps 17= .one (.t (.rows 13 (fs.map Fd.row)))∧st.tmps 18= .one (.t (I fs.length))∧st.tmps 19= .one (.t (I i))∧
  st.tmps 34= .one (.t (.rows 6 (d.map Vl.row)))∧st.tmps 35= .one (.t (I d.length))∧st.tmps 36= .one (.t (I j))
structure aS1 (h:Hp) (n0 id:Nat) (lv:Int) (of:List Ty) (R:Sz) (i:Nat) (st:St):Prop where
 out:∃ si,lU (wr (lv - 1)) (of.drop i) si=R∧SzH h n0 id si st.heap st.nx∧st.tmps 0= .one (.ptr ⟨id,0,2,0,0⟩)∧st.tmps 2= .one (.t (I lv))∧
  st.tmps 52= .one (.t (.rows 8 (of.map Ty.row)))∧st.tmps 53= .one (.t (I of.length))∧st.tmps 54= .one (.t (I i))
theorem aBZ(k:Int)(nm:ByteArray)(tg:List Tg)(fs:List Fd)(o:Bool)(r:Int)(of:List Ty)(l:List Nd)(hs:short fs)(hso:short of)
  (hd:∀ x∈fs,x.fine) (IHf:∀ nm n t p d g,Fd.mk nm n t p d g∈fs→kC 106 (.agg (t.row.map .t)) fun lv s=>t.sz lv s) (IHo:∀ x∈of,kC 106 (.agg (x.row.map .t)) fun lv s=>x.sz lv s):
  kC 106 (.agg ((Ty.mk k nm tg fs o r of l).row.map .t)) fun lv s=>(Ty.mk k nm tg fs o r of l).sz lv s:=by
 intro h n0 id lv s ho hid;have hlt:=fZ ho hid;simp only[short]at hs hso;refine k106.gQ (by simp) ?_;have k0:SzH h n0 id s h n0:=⟨ho,hid,hlt,Nat.le_refl _,fun _ _ _=>rfl⟩;simp -implicitDefEqProofs [c106,b5d,b5e,Ty.row,iS,jN];obtain⟨h1,hh1⟩:∃ h1,h1=h.set n0 (tyO k nm tg fs o r of l):=⟨_,rfl⟩;rw[show h.set n0 (O.arr 0 false 8 [[.t (I k),.t (.str nm),.t (.rows 3 (tg.map Tg.row)),.t (.rows 13 (fs.map Fd.row)),.t (.bool o),.t (I r),.t (.rows 8 (of.map Ty.row)),.t (aG l)]])=h1 from hh1.symm];have k1:SzH h n0 id s h1 (n0+1):=by rw[hh1];exact(k0.more (by omega)).own (Nat.le_refl _) (by omega) (by simp[tyO,O.below,A.below])
 refine aD.imp (aHD h1 _ id lv s (aF.more k1.ok (by omega)) k1.obj) ?_;have k2:=(k1.put (s':=cD lv s)).more (nx':=n0+1+4) (by omega)
 have hb1:(eC h1 id (cD lv s)) n0=some (tyO k nm tg fs o r of l):=by
  simp only[eC,Hp.set,hh1];rw[if_neg (by omega)];simp
 generalize eC h1 id (cD lv s)=h2 at*;have hend:(Ty.mk k nm tg fs o r of l).sz lv s=if(cD lv s).2 then cD lv s else lU (wr (lv - 1)) of (mO (wr (lv - 1)) fs (cD lv s)):=by rw[Ty.sz]
 generalize (Ty.mk k nm tg fs o r of l).sz lv s=R at*;obtain⟨p1,p2,p3,p4⟩:=aK hb1;simp -implicitDefEqProofs+contextual [b5f,p1,p2,p3];refine⟨fun hb=>eX (.inr rfl) (k2.fin (by rw[hend,if_pos hb])) (okS ho hlt),fun hb=>?_⟩;rw[if_neg (by simp[hb])]at hend;refine aDC fs.length (aRZ h n0 id lv fs of (tyO k nm tg fs o r of l) R) ⟨_,hend.symm,k2.more (by simp),by simpa using hb1,by simp;omega,by simp,by simp,by simp,by simp,by simp,by simp⟩ ?_ ?_
 ·rintro i st hi ⟨si,e1,k3,hbx,hnx,j0,j2,j4,j17,j18,j19⟩;have hiI:(i:Int)<fs.length:=by omega
  have hw:=oV hi hs;have hg:fs[i]? =some fs[i]:=gE9 hi;have hmem:fs[i]∈fs:=gL9 hi;have hfine:=hd _ hmem;obtain⟨o1,o2,o3,o4⟩:=aK k3.obj;have hle:=k3.le;have hne:¬ id=st.nx+1+2:=by omega
  rw[List.drop_eq_getElem_cons hi,mO]at e1;have hIH:=IHf;generalize fs[i]=y at*;obtain⟨yn,ynum,yt,yp,yd,yg⟩:=y;have aV8:=hIH _ _ _ _ _ _ hmem;have ht8:∃ q0 q1 q2 q3 q4 q5 q6 q7,yt.row=[q0,q1,q2,q3,q4,q5,q6,q7]:=by cases yt;exact⟨_,_,_,_,_,_,_,_,by rw[Ty.row]⟩
  obtain⟨q0,q1,q2,q3,q4,q5,q6,q7,hq⟩:=ht8;simp -implicitDefEqProofs+contextual [a8O,a8L,b5g,b5h,j0,j17,j18,j19,hiI,hi,aE hg,o1,o2,o3,hne,Fd.row,hq,dV];obtain⟨fo,hfo⟩:∃ fo,fo=O.arr 0 false 13 [[A.t (T.str yn),A.t (I ynum),A.t q0,A.t q1,A.t q2,A.t q3,A.t q4,A.t q5,A.t q6,A.t q7,A.t (I yp),A.t (T.rows 6 (List.map Vl.row yd)),A.t (I yg)]]:=⟨_,rfl⟩;rw[←hfo];have k4:∀ z,z.below (st.nx+13)=true→SzH h n0 id si ((st.heap.set (st.nx+1+2) z).set (st.nx+1+2) fo) (st.nx+13):=fun z hz=>((k3.more (nx':=st.nx+13) (by omega)).own (a:=st.nx+1+2) (o:=z) (by omega) (by omega) hz).own (a:=st.nx+1+2) (o:=fo) (by omega) (by omega) (by rw[hfo];simp[O.below,A.below])
  have hfa:∀ z,((st.heap.set (st.nx+1+2) z).set (st.nx+1+2) fo) (st.nx+1+2)=some fo:=fun z=>by simp[Hp.set]
  have hfn:∀ z,((st.heap.set (st.nx+1+2) z).set (st.nx+1+2) fo) n0=some (tyO k nm tg fs o r of l):=fun z=>by simp only[Hp.set];rw[if_neg (by omega),if_neg (by omega)];exact hbx
  refine⟨fun hb=>eX (.inr rfl) ((k4 _ (by simp[O.below,A.below])).fin (by rw[if_pos hb,sH hb]at e1;exact e1)) (okS ho hlt),fun hb=>?_⟩;rw[if_neg (by simp[hb]),Fd.sz]at e1;have k5:=k4 (O.arr 0 false 13 [[A.t (T.str (bs [])),A.t (T.int IntKind.i64 0),A.t (T.int IntKind.i64 0),A.t (T.str (bs [])),A.tt 3 [],A.tt 13 [],A.t (T.bool false),A.t (T.int IntKind.i64 0),A.tt 8 [],A.tt 5 [],A.t (T.int IntKind.i64 0),A.tt 6 [],A.t (T.int IntKind.i64 0)]]) (by simp[O.below,A.below]);have a5:=hfa (O.arr 0 false 13 [[A.t (T.str (bs [])),A.t (T.int IntKind.i64 0),A.t (T.int IntKind.i64 0),A.t (T.str (bs [])),A.tt 3 [],A.tt 13 [],A.t (T.bool false),A.t (T.int IntKind.i64 0),A.tt 8 [],A.tt 5 [],A.t (T.int IntKind.i64 0),A.tt 6 [],A.t (T.int IntKind.i64 0)]]);have n5:=hfn (O.arr 0 false 13 [[A.t (T.str (bs [])),A.t (T.int IntKind.i64 0),A.t (T.int IntKind.i64 0),A.t (T.str (bs [])),A.tt 3 [],A.tt 13 [],A.t (T.bool false),A.t (T.int IntKind.i64 0),A.tt 8 [],A.tt 5 [],A.t (T.int IntKind.i64 0),A.tt 6 [],A.t (T.int IntKind.i64 0)]]);generalize (st.heap.set (st.nx+1+2) (O.arr 0 false 13 [[A.t (T.str (bs [])),A.t (T.int IntKind.i64 0),A.t (T.int IntKind.i64 0),A.t (T.str (bs [])),A.tt 3 [],A.tt 13 [],A.t (T.bool false),A.t (T.int IntKind.i64 0),A.tt 8 [],A.tt 5 [],A.t (T.int IntKind.i64 0),A.tt 6 [],A.t (T.int IntKind.i64 0)]])).set (st.nx+1+2) fo=h3 at*;rw[hfo]at a5;obtain⟨b1,b2,b3,b4⟩:=aK a5;simp -implicitDefEqProofs [b5i,j0,j2,b1,b2,b3];have aKO:kC 106 (D.agg [A.t q0,A.t q1,A.t q2,A.t q3,A.t q4,A.t q5,A.t q6,A.t q7]) fun lv s=>yt.sz lv s:=by simpa[hq]using aV8
  refine aD.imp (aKO _ _ id _ si (k5.more (by omega)).ok k5.obj) ?_;have k6:=k5.put (s':=yt.sz (wr (lv - 1)) si)
  have a6:eC h3 id (yt.sz (wr (lv - 1)) si) (st.nx+1+2)=some (O.arr 0 false 13 [[A.t (T.str yn),A.t (I ynum),A.t q0,A.t q1,A.t q2,A.t q3,A.t q4,A.t q5,A.t q6,A.t q7,A.t (I yp),A.t (T.rows 6 (List.map Vl.row yd)),A.t (I yg)]]):=by
   simp only[eC,Hp.set];rw[if_neg (by omega)];exact a5
  have n6:eC h3 id (yt.sz (wr (lv - 1)) si) n0=some (tyO k nm tg fs o r of l):=by simp only[eC,Hp.set];rw[if_neg (by omega)];exact n5
  show wK _ _ _ _ _ (eC h3 id (yt.sz (wr (lv - 1)) si));generalize eC h3 id (yt.sz (wr (lv - 1)) si)=h4 at*;obtain⟨b1,b2,b3,b4⟩:=aK a6;simp -implicitDefEqProofs [b5j,b1,b2,b3];have hds:yd.length≤9223372036854775807:=by have:=hfine;simp only[Fd.fine,short]at this;exact this.2.2.1
  have hdf:mC yd:=by have:=hfine;simp only[Fd.fine]at this;exact this.2.2.2
  refine aDC yd.length (aS0 h n0 id lv fs of (tyO k nm tg fs o r of l) R i yd) ⟨_,e1,k6.more (by simp only;omega),n6,by simp only;omega,by simp[j0],by simp[j2],by simp[j4],by simp[j17],by simp[j18],by simp[j19],by simp,by simp,by simp⟩ ?_ ?_
  ·rintro j st hj ⟨si,e1,k3,hbx,hnx,j0,j2,j4,j17,j18,j19,j34,j35,j36⟩;have hjI:(j:Int)<yd.length:=by omega
   have hwj:=oV hj hds;have hgj:yd[j]? =some yd[j]:=gE9 hj;have hmj:yd[j]∈yd:=gL9 hj;have hvf:=aAA hdf _ hmj;obtain⟨o1,o2,o3,o4⟩:=aK k3.obj;have hle:=k3.le;have hne:¬ id=st.nx+1+2:=by omega
   rw[List.drop_eq_getElem_cons hj,gG]at e1;have hV:=wU _ hvf;generalize yd[j]=v at*;obtain⟨vk,vn,ve,vs,vns,vis⟩:=v;simp -implicitDefEqProofs+contextual [a8N,a8M,b5k,b5l,j0,j34,j35,j36,hjI,hj,aE hgj,o1,o2,o3,hne,Vl.row,dV];have kk:=fun(o o':O) (ho:o.below (st.nx+13)=true) (ho':o'.below (st.nx+13)=true)=>((k3.more (nx':=st.nx+13) (by omega)).own (a:=st.nx+1+2) (o:=o) (by omega) (by omega) ho).own (a:=st.nx+1+2) (o:=o') (by omega) (by omega) ho'
   refine⟨fun hb=>eX (.inr rfl) ((kk _ _ (by simp[O.below,A.below]) (by simp[O.below,A.below])).fin (by rw[if_pos hb,wV hb,sH hb]at e1;exact e1)) (okS ho hlt),fun hb=>?_⟩;rw[if_neg (by simp[hb])]at e1;simp -implicitDefEqProofs [b5m,j0,j2];have k4:=kk (O.arr 0 false 6 [[A.t (T.int IntKind.i64 0),A.t (T.int IntKind.i64 0),A.t (T.int IntKind.i64 0),A.t (T.str (bs [])),A.tt 1 [],A.tt 6 []]]) (O.arr 0 false 6 [[A.t (I vk),A.t (I vn),A.t (I ve),A.t (T.str vs),A.t (aO vns),A.t (T.rows 6 (List.map Vl.row vis))]]) (by simp[O.below,A.below]) (by simp[O.below,A.below]);have hV':kC 145 (D.agg [A.t (I vk),A.t (I vn),A.t (I ve),A.t (T.str vs),A.t (aO vns),A.t (T.rows 6 (List.map Vl.row vis))]) fun lv s=>(Vl.mk vk vn ve vs vns vis).sz lv s:=by simpa[Vl.row,dV]using hV
   refine aD.imp (hV' _ _ id _ si k4.ok k4.obj) ?_;simp -implicitDefEqProofs [b5n,j36,hwj];refine⟨_,e1,k4.put.more (by simp only;omega),?_,by simp only;omega,by simp[j0],by simp[j2],by simp[j4],by simp[j17],by simp[j18],by simp[j19],by simp[j34],by simp[j35],by simp⟩;simp only[eC,Hp.set];rw[if_neg (by omega),if_neg (by omega),if_neg (by omega)];exact hbx
  ·rintro st ⟨si,e1,k3,hbx,hnx,j0,j2,j4,j17,j18,j19,j34,j35,j36⟩;rw[List.drop_length,gG]at e1;simp -implicitDefEqProofs [a8N,a8M,b5o,j35,j36,j19,hw];exact⟨si,e1,k3.more (by simp only;omega),hbx,by simp only;omega,by simp[j0],by simp[j2],by simp[j4],by simp[j17],by simp[j18],by simp⟩
 ·rintro st ⟨si,e1,k3,hbx,hnx,j0,j2,j4,j17,j18,j19⟩;rw[List.drop_length,mO]at e1;obtain⟨p1,p2,p3,p4⟩:=aK hbx;simp -implicitDefEqProofs [a8O,a8L,b5p,j18,j19,j4,p1,p2,p3];refine aDC of.length (aS1 h n0 id lv of R) ⟨si,e1,k3.more (by simp only;omega),by simp[j0],by simp[j2],by simp,by simp,by simp⟩ ?_ ?_
  ·rintro j st hj ⟨si,e1,k3,j0,j2,j52,j53,j54⟩;have hjI:(j:Int)<of.length:=by omega
   have hwj:=oV hj hso;have hgj:of[j]? =some of[j]:=gE9 hj;have hmj:of[j]∈of:=gL9 hj;obtain⟨o1,o2,o3,o4⟩:=aK k3.obj;have hle:=k3.le;have hne:¬ id=st.nx+1+2:=by omega
   rw[List.drop_eq_getElem_cons hj,lU]at e1;have hV:=IHo _ hmj;generalize of[j]=v at*;obtain⟨vk,vn,vt,vf,vo,vr,vof,vl⟩:=v;simp -implicitDefEqProofs+contextual [a8Q,a8P,b5q,b5r,j0,j52,j53,j54,hjI,hj,aE hgj,o1,o2,o3,hne,Ty.row,iS,jN];have kk:=fun(o o':O) (ho:o.below (st.nx+13)=true) (ho':o'.below (st.nx+13)=true)=>((k3.more (nx':=st.nx+13) (by omega)).own (a:=st.nx+1+2) (o:=o) (by omega) (by omega) ho).own (a:=st.nx+1+2) (o:=o') (by omega) (by omega) ho'
   refine⟨fun hb=>eX (.inr rfl) ((kk _ _ (by simp[O.below,A.below]) (by simp[O.below,A.below])).fin (by rw[if_pos hb]at e1;exact e1)) (okS ho hlt),fun hb=>?_⟩;rw[if_neg (by simp[hb])]at e1;simp -implicitDefEqProofs [b5s,j0,j2];have k4:=kk (O.arr 0 false 8 [[A.t (T.int IntKind.i64 0),A.t (T.str (bs [])),A.tt 3 [],A.tt 13 [],A.t (T.bool false),A.t (T.int IntKind.i64 0),A.tt 8 [],A.tt 5 []]]) (O.arr 0 false 8 [[A.t (I vk),A.t (T.str vn),A.t (T.rows 3 (List.map Tg.row vt)),A.t (T.rows 13 (List.map Fd.row vf)),A.t (T.bool vo),A.t (I vr),A.t (T.rows 8 (List.map Ty.row vof)),A.t (aG vl)]]) (by simp[O.below,A.below]) (by simp[O.below,A.below]);have hV':kC 106 (D.agg [A.t (I vk),A.t (T.str vn),A.t (T.rows 3 (List.map Tg.row vt)),A.t (T.rows 13 (List.map Fd.row vf)),A.t (T.bool vo),A.t (I vr),A.t (T.rows 8 (List.map Ty.row vof)),A.t (aG vl)]) fun lv s=>(Ty.mk vk vn vt vf vo vr vof vl).sz lv s:=by simpa[Ty.row,iS,jN]using hV
   refine aD.imp (hV' _ _ id _ si k4.ok k4.obj) ?_;simp -implicitDefEqProofs [b5t,j54,hwj];exact⟨_,e1,k4.put.more (by simp only;omega),by simp[j0],by simp[j2],by simp[j52],by simp[j53],by simp⟩
  ·rintro st ⟨si,e1,k3,j0,j2,j52,j53,j54⟩;rw[List.drop_length,lU]at e1;simp -implicitDefEqProofs [a8Q,a8P,j53,j54];exact eX (.inl rfl) (k3.fin e1) (okS ho hlt)
theorem aAB:∀ {l:List Fd},wT l→∀x∈l,x.fine
 | [],_,_,h=>by simp at h
 | v::r,hf,x,h=>by
  rcases List.mem_cons.1 h with e | e
  ·rw[e];exact hf.1
  ·exact aAB hf.2 x e
mutual
theorem aC0:∀ t:Ty,t.fine→kC 106 (.agg (t.row.map .t)) fun lv s=>t.sz lv s
 | .mk k nm tg fs o r of l,hf=>aBZ k nm tg fs o r of l hf.2.2.1 hf.2.2.2.2.1 (aAB hf.2.2.2.1) (aAC fs hf.2.2.2.1) (aAD of hf.2.2.2.2.2.1)
theorem aAC:∀ l:List Fd,wT l→∀nm n t p d g,Fd.mk nm n t p d g∈l→kC 106 (.agg (t.row.map .t)) fun lv s=>t.sz lv s
 | [],_,_,_,_,_,_,_,h=>by simp at h
 | .mk nm' n' t' p' d' g'::r,hf,nm,n,t,p,d,g,h=>by
  rcases List.mem_cons.1 h with e | e
  ·injection e with e1 e2 e3;rw[e3];exact aC0 t' hf.1.2.1
  ·exact aAC r hf.2 nm n t p d g e
theorem aAD:∀ l:List Ty,aA7 l→∀x∈l,kC 106 (.agg (x.row.map .t)) fun lv s=>x.sz lv s
 | [],_,_,h=>by simp at h
 | v::r,hf,x,h=>by
  rcases List.mem_cons.1 h with e | e
  ·rw[e];exact aC0 v hf.1
  ·exact aAD r hf.2 x e
end
section
@[simp high] theorem _root_.Go.Ab.aPY(p q:St→Prop)(st:St):uN (.one (.t (.bool true))) p q st=p st:=by simp[uN]
@[simp high] theorem _root_.Go.Ab.aP6(p q:St→Prop)(st:St):uN (.one (.t (.bool false))) p q st=q st:=by simp[uN]
def dD:List Nat→(Nat→D)→(Nat→D)→Prop
 | [],_,_=>True
 | k::r,tm,tm'=>tm' k=tm k∧dD r tm tm'
def fK:List Nat→Hp→Hp→Nat→Prop
 | [],_,_,_=>True
 | k::r,h,h',nx=>(h' k=h k∧k<nx)∧fK r h h' nx
@[simp] theorem tQ{tm tm':Nat→D}:dD [] tm tm'=True:=rfl
@[simp] theorem rF{k:Nat}{r:List Nat}{tm tm':Nat→D}:dD (k::r) tm tm'=(tm' k=tm k∧dD r tm tm'):=rfl
@[simp] theorem aRH{h h':Hp}{nx:Nat}:fK [] h h' nx=True:=rfl
@[simp] theorem aPZ{k nx:Nat}{r:List Nat}{h h':Hp}:fK (k::r) h h' nx=((h' k=h k∧k<nx)∧fK r h h' nx):=rfl
section
variable {P:Program} {n:Nat} {A:Exit→St→Prop} {ks:List KF} {st:St} {x:aB}
theorem wW{α β:Type}(l:List α)(g:α→Option β)(kt kh:List Nat)(X:Nat→St→Prop)(hs:short l)(h0:X 0 st∧dD kt st.tmps st.tmps∧fK kh st.heap st.heap st.nx)
  (round:∀ i y st',i<l.length→(i:Int)<(l.length:Int)→IntKind.i64.wrap ((i:Int)+1)=((i+1:Nat):Int)→l[i]? =some y→y∈l→(∀r,g y=some r→l.findSome? g=some r)→
   X i st'→dD kt st.tmps st'.tmps→fK kh st.heap st'.heap st'.nx→aZ P n A x (.post (fun st''=>g y=none∧X (i+1) st''∧dD kt st.tmps st''.tmps∧fK kh st.heap st''.heap st''.nx)::ks) st')
  (last:∀ st',l.findSome? g=none→X l.length st'→dD kt st.tmps st'.tmps→fK kh st.heap st'.heap st'.nx→aZ P n A x (.post (fun _=>False)::ks) st'):W P n (.loop x) (kont P n A ks) st:=by
 refine W.loop (fun k st'=>∃ i,k=l.length - i∧i≤l.length∧(l.take i).findSome? g=none∧X i st'∧dD kt st.tmps st'.tmps∧fK kh st.heap st'.heap st'.nx) l.length ⟨0,by omega,by omega,by simp,h0⟩ ?_;rintro k st' ⟨i,rfl,hi,ha,hJ,hT,hH⟩;rcases Nat.lt_or_ge i l.length with h | h
 ·have hy:l[i]? =some l[i]:=gE9 h;have e:List.take (i+1) l=List.take i l++[l[i]]:=by rw[List.take_add_one,hy];rfl
  refine fD (round i _ st' h (by omega) (oV h hs) hy (gL9 h) (fun r hr=>?_) hJ hT hH) fun st'' hq=>⟨l.length - (i+1),by omega,i+1,rfl,by omega,?_,hq.2⟩
  ·have e2:l=List.take i l++(l[i]::List.drop (i+1) l):=by rw[List.getElem_cons_drop];exact(List.take_append_drop i l).symm
   refine(congrArg (List.findSome? g) e2).trans ?_;rw[List.findSome?_append,ha,List.findSome?_cons,hr];rfl
  ·rw[e,List.findSome?_append,ha];simp[hq.1]
 ·have:i=l.length:=by omega
  subst this;rw[List.take_length]at ha;exact fD (last st' ha hJ hT hH) fun st'' h=>h.elim
theorem oX{α σ:Type}(l:List α)(g:σ→α→σ)(s0:σ)(kt kh:List Nat)(X:Nat→σ→St→Prop)(hs:short l)(h0:X 0 s0 st∧dD kt st.tmps st.tmps∧fK kh st.heap st.heap st.nx)
  (round:∀ i y s st',i<l.length→(i:Int)<(l.length:Int)→IntKind.i64.wrap ((i:Int)+1)=((i+1:Nat):Int)→l[i]? =some y→y∈l→s=(l.take i).foldl g s0→
   X i s st'→dD kt st.tmps st'.tmps→fK kh st.heap st'.heap st'.nx→aZ P n A x (.post (fun st''=>X (i+1) (g s y) st''∧dD kt st.tmps st''.tmps∧fK kh st.heap st''.heap st''.nx)::ks) st')
  (last:∀ st',X l.length (l.foldl g s0) st'→dD kt st.tmps st'.tmps→fK kh st.heap st'.heap st'.nx→aZ P n A x (.post (fun _=>False)::ks) st'):W P n (.loop x) (kont P n A ks) st:=by
 refine W.loop (fun k st'=>∃ i,k=l.length - i∧i≤l.length∧X i ((l.take i).foldl g s0) st'∧dD kt st.tmps st'.tmps∧fK kh st.heap st'.heap st'.nx) l.length ⟨0,by omega,by omega,by simpa using h0⟩ ?_;rintro k st' ⟨i,rfl,hi,hJ,hT,hH⟩;rcases Nat.lt_or_ge i l.length with h | h
 ·have hy:l[i]? =some l[i]:=gE9 h;have e:List.take (i+1) l=List.take i l++[l[i]]:=by rw[List.take_add_one,hy];rfl
  refine fD (round i _ _ st' h (by omega) (oV h hs) hy (gL9 h) rfl hJ hT hH) fun st'' hq=>⟨l.length - (i+1),by omega,i+1,rfl,by omega,?_⟩
  rw[e,List.foldl_append];exact hq
 ·have:i=l.length:=by omega
  subst this;rw[List.take_length]at hJ;exact fD (last st' hJ hT hH) fun st'' h=>h.elim
end
end
def Vl.kind:Vl→Int | .mk k _ _ _ _ _=>k
def Vl.n:Vl→Int | .mk _ n _ _ _ _=>n
def Vl.e:Vl→Int | .mk _ _ e _ _ _=>e
def Vl.s:Vl→ByteArray | .mk _ _ _ s _ _=>s
def Vl.names:Vl→List ByteArray | .mk _ _ _ _ ns _=>ns
def Vl.items:Vl→List Vl | .mk _ _ _ _ _ is=>is
def Ty.kind:Ty→Int | .mk k _ _ _ _ _ _ _=>k
def Ty.name:Ty→ByteArray | .mk _ nm _ _ _ _ _ _=>nm
def Ty.tags:Ty→List Tg | .mk _ _ tg _ _ _ _ _=>tg
def Ty.fields:Ty→List Fd | .mk _ _ _ fs _ _ _ _=>fs
def Ty.opn:Ty→Bool | .mk _ _ _ _ o _ _ _=>o
def Ty.root:Ty→Int | .mk _ _ _ _ _ r _ _=>r
def Ty.of:Ty→List Ty | .mk _ _ _ _ _ _ of _=>of
def Ty.limits:Ty→List Nd | .mk _ _ _ _ _ _ _ l=>l
def Fd.name:Fd→ByteArray | .mk nm _ _ _ _ _=>nm
def Fd.num:Fd→Int | .mk _ n _ _ _ _=>n
def Fd.ty:Fd→Ty | .mk _ _ t _ _ _=>t
def Fd.pres:Fd→Int | .mk _ _ _ p _ _=>p
def Fd.dflt:Fd→List Vl | .mk _ _ _ _ d _=>d
def Fd.grp:Fd→Int | .mk _ _ _ _ _ g=>g
def aV(l:List Vl):T:= .rows 6 (l.map Vl.row)
def bE(l:List Tg):T:= .rows 3 (l.map Tg.row)
def aM(l:List Fd):T:= .rows 13 (l.map Fd.row)
def aQ(l:List Ty):T:= .rows 8 (l.map Ty.row)
theorem Vl.aP(v:Vl):v.row=[I v.kind,I v.n,I v.e,.str v.s,aO v.names,aV v.items]:=by
 cases v;simp[Vl.row,Vl.kind,Vl.n,Vl.e,Vl.s,Vl.names,Vl.items,aV,dV]
theorem Ty.aP(t:Ty):t.row=[I t.kind,.str t.name,bE t.tags,aM t.fields,.bool t.opn,I t.root,aQ t.of,aG t.limits]:=by
 cases t;simp[Ty.row,Ty.kind,Ty.name,Ty.tags,Ty.fields,Ty.opn,Ty.root,Ty.of,Ty.limits,bE,aM,aQ,iS,jN]
theorem Fd.aP(f:Fd):f.row=[.str f.name,I f.num,I f.ty.kind,.str f.ty.name,bE f.ty.tags,aM f.ty.fields,.bool f.ty.opn,I f.ty.root,aQ f.ty.of,aG f.ty.limits,I f.pres,aV f.dflt,I f.grp]:=by
 cases f;simp[Fd.row,Ty.aP,Fd.name,Fd.num,Fd.ty,Fd.pres,Fd.dflt,Fd.grp,aV,dV]
mutual
theorem Vl.ind{M:Vl→Prop}(step:∀ v,(∀x∈v.items,M x)→M v):∀ v,M v
 | .mk _k _n _e _s _ns is=>step _ (Vl.inds step is)
theorem Vl.inds{M:Vl→Prop}(step:∀ v,(∀x∈v.items,M x)→M v):∀ l:List Vl,∀x∈l,M x
 | [],_,h=>by simp at h
 | v::r,x,h=>by
  rcases List.mem_cons.1 h with e | e
  ·rw[e];exact Vl.ind step v
  ·exact Vl.inds step r x e
end
mutual
theorem Ty.ind{M:Ty→Prop}(step:∀ t,(∀f∈t.fields,M f.ty)→(∀o∈t.of,M o)→M t):∀ t,M t
 | .mk _k _nm _tg fs _o _r of _l=>step _ (Ty.aS2 step fs) (Ty.inds step of)
theorem Ty.aS2{M:Ty→Prop}(step:∀ t,(∀f∈t.fields,M f.ty)→(∀o∈t.of,M o)→M t):∀ l:List Fd,∀x∈l,M x.ty
 | [],_,h=>by simp at h
 | .mk a b t c d e::r,x,h=>by
  rcases List.mem_cons.1 h with e | e
  ·rw[e];exact Ty.ind step t
  ·exact Ty.aS2 step r x e
theorem Ty.inds{M:Ty→Prop}(step:∀ t,(∀f∈t.fields,M f.ty)→(∀o∈t.of,M o)→M t):∀ l:List Ty,∀x∈l,M x
 | [],_,h=>by simp at h
 | v::r,x,h=>by
  rcases List.mem_cons.1 h with e | e
  ·rw[e];exact Ty.ind step v
  ·exact Ty.inds step r x e
end
theorem Vl.bG(v:Vl):v.fine↔v.s.size≤9223372036854775807∧short v.names∧(∀x∈v.names,x.size≤9223372036854775807)∧short v.items∧∀x∈v.items,x.fine:=by
 have h:∀ l:List Vl,mC l↔∀x∈l,x.fine:=fun l=>by
  induction l with
  | nil=>simp[mC]
  | cons a r ih=>simp[mC,ih]
 cases v;simp[Vl.fine,Vl.s,Vl.names,Vl.items,h]
theorem tR(l:List Vl):mC l↔∀x∈l,x.fine:=by
 induction l with
 | nil=>simp[mC]
 | cons a r ih=>simp[mC,ih]
theorem aAE(l:List Fd):wT l↔∀x∈l,x.fine:=by
 induction l with
 | nil=>simp[wT]
 | cons a r ih=>simp[wT,ih]
theorem aAF(l:List Ty):aA7 l↔∀x∈l,x.fine:=by
 induction l with
 | nil=>simp[aA7]
 | cons a r ih=>simp[aA7,ih]
theorem Fd.bG(f:Fd):f.fine↔f.name.size≤9223372036854775807∧f.ty.fine∧short f.dflt∧∀x∈f.dflt,x.fine:=by
 cases f;simp[Fd.fine,Fd.name,Fd.ty,Fd.dflt,tR]
theorem Ty.bG(t:Ty):t.fine↔t.name.size≤9223372036854775807∧short t.tags∧short t.fields∧(∀f∈t.fields,f.fine)∧short t.of∧(∀o∈t.of,o.fine)∧short t.limits∧∀x∈t.limits,x.fine:=by
 cases t;simp[Ty.fine,Ty.name,Ty.tags,Ty.fields,Ty.of,Ty.limits,aAE,aAF]
end Go.Proofs.YtdpbobkcbakpfaaGreatDoor
namespace Go.Proofs
open Go.Shelf
set_option maxHeartbeats 4000000
def Tryz.aDG:Go.Shelf.Ren:=⟨fun | 106=>269 | 213=>285 | 265=>293 | n=>n,fun | 9=>9 | 3=>3 | n=>n,fun | n=>n⟩
theorem Tryz.aNC:Go.Proofs.Lays.n106 Tryz.prog Tryz.aDG:={
 mixed:=by kernel_rfl
 f106:=Tryz.func269.trans (congrArg some (by kernel_rfl))
 f213:=Tryz.func285.trans (congrArg some (by kernel_rfl))
 f265:=Tryz.func293.trans (congrArg some (by kernel_rfl))
 t3:=Tryz.underlying3
 a3:=Tryz.isAgg3
 z3:=Tryz.sizeOf3
 v3:=Tryz.zeroValue3
 t9:=Tryz.underlying9
 a9:=Tryz.isAgg9
 z9:=Tryz.sizeOf9
 v9:=Tryz.zeroValue9 }
def Tryz.aDH:Go.Shelf.Ren:=⟨fun | 144=>259 | 143=>282 | 219=>292 | 217=>295 | 225=>290 | 224=>289 | 267=>296 | 266=>297 | 314=>298 | n=>n,fun | 9=>9 | 4=>4 | 3=>3 | 5=>5 | 46=>207 | 146=>263 | 51=>232 | n=>n,fun | 1=>2 | n=>n⟩
theorem Tryz.aND:Go.Proofs.Lays.n144 Tryz.prog Tryz.aDH:={
 mixed:=by kernel_rfl
 f143:=Tryz.func282.trans (congrArg some (by kernel_rfl))
 f144:=Tryz.func259.trans (congrArg some (by kernel_rfl))
 f217:=Tryz.func295.trans (congrArg some (by kernel_rfl))
 f219:=Tryz.func292.trans (congrArg some (by kernel_rfl))
 f224:=Tryz.func289.trans (congrArg some (by kernel_rfl))
 f225:=Tryz.func290.trans (congrArg some (by kernel_rfl))
 f266:=Tryz.func297.trans (congrArg some (by kernel_rfl))
 f267:=Tryz.func296.trans (congrArg some (by kernel_rfl))
 f314:=Tryz.func298.trans (congrArg some (by kernel_rfl))
 t3:=Tryz.underlying3
 a3:=Tryz.isAgg3
 z3:=Tryz.sizeOf3
 v3:=Tryz.zeroValue3
 t4:=Tryz.underlying4
 a4:=Tryz.isAgg4
 z4:=Tryz.sizeOf4
 v4:=Tryz.zeroValue4
 t5:=Tryz.underlying5
 a5:=Tryz.isAgg5
 z5:=Tryz.sizeOf5
 v5:=Tryz.zeroValue5
 t9:=Tryz.underlying9
 a9:=Tryz.isAgg9
 z9:=Tryz.sizeOf9
 v9:=Tryz.zeroValue9
 t46:=Tryz.underlying207
 a46:=Tryz.isAgg207
 z46:=Tryz.sizeOf207
 v46:=Tryz.zeroValue207
 t51:=Tryz.underlying232
 a51:=Tryz.isAgg232
 z51:=Tryz.sizeOf232
 v51:=Tryz.zeroValue232
 t146:=Tryz.underlying263
 a146:=Tryz.isAgg263
 z146:=Tryz.sizeOf263
 v146:=Tryz.zeroValue263
 g1:=by kernel_rfl }
def Tryz.aDI:Go.Shelf.Ren:=⟨fun | 160=>151 | 232=>188 | 231=>187 | 227=>189 | 234=>191 | 233=>190 | 236=>193 | 235=>192 | 228=>231 | 271=>234 | 151=>233 | 197=>232 | 120=>274 | 152=>273 | 260=>272 | 137=>287 | 119=>288 | 224=>289 | 225=>290 | 217=>295 | 266=>297 | n=>n,fun | 9=>9 | 4=>4 | 3=>3 | 5=>5 | 117=>198 | 116=>197 | 0=>0 | 124=>201 | 21=>21 | 105=>220 | 46=>207 | 119=>256 | 139=>259 | 138=>258 | n=>n,fun | 3=>0 | 4=>1 | n=>n⟩
theorem Tryz.aNE:Go.Proofs.Lays.n160 Tryz.prog Tryz.aDI:={
 mixed:=by kernel_rfl
 f119:=Tryz.func288.trans (congrArg some (by kernel_rfl))
 f120:=Tryz.func274.trans (congrArg some (by kernel_rfl))
 f137:=Tryz.func287.trans (congrArg some (by kernel_rfl))
 f151:=Tryz.func233.trans (congrArg some (by kernel_rfl))
 f152:=Tryz.func273.trans (congrArg some (by kernel_rfl))
 f160:=Tryz.func151.trans (congrArg some (by kernel_rfl))
 f197:=Tryz.func232.trans (congrArg some (by kernel_rfl))
 f217:=Tryz.func295.trans (congrArg some (by kernel_rfl))
 f224:=Tryz.func289.trans (congrArg some (by kernel_rfl))
 f225:=Tryz.func290.trans (congrArg some (by kernel_rfl))
 f227:=Tryz.func189.trans (congrArg some (by kernel_rfl))
 f228:=Tryz.func231.trans (congrArg some (by kernel_rfl))
 f231:=Tryz.func187.trans (congrArg some (by kernel_rfl))
 f232:=Tryz.func188.trans (congrArg some (by kernel_rfl))
 f233:=Tryz.func190.trans (congrArg some (by kernel_rfl))
 f234:=Tryz.func191.trans (congrArg some (by kernel_rfl))
 f235:=Tryz.func192.trans (congrArg some (by kernel_rfl))
 f236:=Tryz.func193.trans (congrArg some (by kernel_rfl))
 f260:=Tryz.func272.trans (congrArg some (by kernel_rfl))
 f266:=Tryz.func297.trans (congrArg some (by kernel_rfl))
 f271:=Tryz.func234.trans (congrArg some (by kernel_rfl))
 t0:=Tryz.underlying0
 a0:=Tryz.isAgg0
 z0:=Tryz.sizeOf0
 v0:=Tryz.zeroValue0
 t3:=Tryz.underlying3
 a3:=Tryz.isAgg3
 z3:=Tryz.sizeOf3
 v3:=Tryz.zeroValue3
 t4:=Tryz.underlying4
 a4:=Tryz.isAgg4
 z4:=Tryz.sizeOf4
 v4:=Tryz.zeroValue4
 t5:=Tryz.underlying5
 a5:=Tryz.isAgg5
 z5:=Tryz.sizeOf5
 v5:=Tryz.zeroValue5
 t9:=Tryz.underlying9
 a9:=Tryz.isAgg9
 z9:=Tryz.sizeOf9
 v9:=Tryz.zeroValue9
 t21:=Tryz.underlying21
 a21:=Tryz.isAgg21
 z21:=Tryz.sizeOf21
 v21:=Tryz.zeroValue21
 t46:=Tryz.underlying207
 a46:=Tryz.isAgg207
 z46:=Tryz.sizeOf207
 v46:=Tryz.zeroValue207
 t105:=Tryz.underlying220
 a105:=Tryz.isAgg220
 z105:=Tryz.sizeOf220
 v105:=Tryz.zeroValue220
 t116:=Tryz.underlying197
 a116:=Tryz.isAgg197
 z116:=Tryz.sizeOf197
 t117:=Tryz.underlying198
 a117:=Tryz.isAgg198
 z117:=Tryz.sizeOf198
 v117:=Tryz.zeroValue198
 t119:=Tryz.underlying256
 a119:=Tryz.isAgg256
 z119:=Tryz.sizeOf256
 t124:=Tryz.underlying201
 a124:=Tryz.isAgg201
 z124:=Tryz.sizeOf201
 v124:=Tryz.zeroValue201
 t138:=Tryz.underlying258
 a138:=Tryz.isAgg258
 z138:=Tryz.sizeOf258
 v138:=Tryz.zeroValue258
 t139:=Tryz.underlying259
 a139:=Tryz.isAgg259
 z139:=Tryz.sizeOf259
 v139:=Tryz.zeroValue259
 g3:=by kernel_rfl
 g4:=by kernel_rfl }
def Tryz.aDJ:Go.Shelf.Ren:=⟨fun | 15=>225 | 20=>265 | n=>n,fun | 9=>9 | 23=>217 | 3=>3 | 4=>4 | 0=>0 | 21=>21 | n=>n,fun | n=>n⟩
theorem Tryz.aNF:Go.Proofs.LaysGw.n15 Tryz.prog Tryz.aDJ:={
 mixed:=by kernel_rfl
 f15:=Tryz.func225.trans (congrArg some (by kernel_rfl))
 f20:=Tryz.func265.trans (congrArg some (by kernel_rfl))
 t0:=Tryz.underlying0
 a0:=Tryz.isAgg0
 z0:=Tryz.sizeOf0
 v0:=Tryz.zeroValue0
 i0:=by kernel_rfl
 t3:=Tryz.underlying3
 a3:=Tryz.isAgg3
 z3:=Tryz.sizeOf3
 v3:=Tryz.zeroValue3
 i3:=by kernel_rfl
 t4:=Tryz.underlying4
 a4:=Tryz.isAgg4
 z4:=Tryz.sizeOf4
 v4:=Tryz.zeroValue4
 i4:=by kernel_rfl
 t9:=Tryz.underlying9
 a9:=Tryz.isAgg9
 z9:=Tryz.sizeOf9
 v9:=Tryz.zeroValue9
 i9:=by kernel_rfl
 t21:=Tryz.underlying21
 a21:=Tryz.isAgg21
 z21:=Tryz.sizeOf21
 v21:=Tryz.zeroValue21
 i21:=by kernel_rfl
 t23:=Tryz.underlying217
 a23:=Tryz.isAgg217
 z23:=Tryz.sizeOf217
 v23:=Tryz.zeroValue217
 i23:=by kernel_rfl }
def Tryz.aDK:Go.Shelf.Ren:=⟨fun | 100=>258 | 207=>281 | n=>n,fun | 9=>9 | 4=>4 | 3=>3 | n=>n,fun | n=>n⟩
theorem Tryz.aNG:Go.Proofs.Lays.n100 Tryz.prog Tryz.aDK:={
 mixed:=by kernel_rfl
 f100:=Tryz.func258.trans (congrArg some (by kernel_rfl))
 f207:=Tryz.func281.trans (congrArg some (by kernel_rfl))
 t3:=Tryz.underlying3
 a3:=Tryz.isAgg3
 z3:=Tryz.sizeOf3
 v3:=Tryz.zeroValue3
 t4:=Tryz.underlying4
 a4:=Tryz.isAgg4
 z4:=Tryz.sizeOf4
 v4:=Tryz.zeroValue4
 t9:=Tryz.underlying9
 a9:=Tryz.isAgg9
 z9:=Tryz.sizeOf9
 v9:=Tryz.zeroValue9 }
end Go.Proofs
namespace Go.Ab
open Go Go.Proofs Go.RowKit
set_option maxHeartbeats 4000000
theorem PSp.lib{P:Program}{f:FuncId}{xs:List D}{r:D}{vs:Array Value}{v:Value}(hvs:∀ w F ν us,qL w F ν xs us→us=vs)(hv:∀ w F ν,VD w F ν r v)
  (hC:∀ w:World,(∃m,w.cell? ⟨aCP,0,none⟩=some (.int .i64 m))→Calls P f vs w fun e w'=>e= .returned v∧Below w.heap.size w w'):PSp P f xs r:=by
 intro h n w F ν us hs ha;rw[hvs _ _ _ _ ha];refine(hC w hs.glob.2).mono ?_;rintro e w' ⟨rfl,hB⟩;obtain⟨g1,g2⟩:=hs.ext (F':=F) ⟨hB.os,hB.tape,hB.output⟩ hB.size hB.block (fun _ _ h=>h) fun _ _ h=> .inl h
 exact⟨r,v,h,F,ν,rfl,⟨rfl,rfl⟩,g1.more (Nat.le_add_right _ _),hv _ _ _,g2⟩
theorem nT{w:World}{F:Fix}{ν:Nu}{a b:ByteArray}{us:Array Value}(h:qL w F ν [.one (.t (.str a)),.one (.t (.str b))] us):us= #[.string a,.string b]:=by
 obtain⟨h1,h2⟩:=h;obtain⟨l⟩:=us
 match l,h1 with
 | [u,v],_=>
  have k0:VT w F (.str a) u:=h2 0 _ u rfl rfl;have k1:VT w F (.str b) v:=h2 1 _ v rfl rfl;cases k0;cases k1;rfl
theorem aDL{w:World}{F:Fix}{ν:Nu}{a:ByteArray}{f:FuncId}{us:Array Value}(h:qL w F ν [.one (.t (.str a)),.one (.fn f [])] us):us= #[.string a,.func (.func f) #[] #[]]:=by
 obtain⟨h1,h2⟩:=h;obtain⟨l⟩:=us
 match l,h1 with
 | [u,v],_=>
  have k0:VT w F (.str a) u:=h2 0 _ u rfl rfl;obtain⟨us,k1,k2,_⟩:VA w F ν (.fn f []) v:=h2 1 _ v rfl rfl;cases k0;have:us= #[]:=by simpa using k2
  rw[k1,this]
end Go.Ab
namespace Go.Proofs.YtdpbobkcbakpfaaGreatDoor
open Go.Proofs.Tryz
set_option maxRecDepth 100000
set_option maxHeartbeats 4000000
section
open Go Go.Ab Go.Proofs Go.Shelf Go.RowKit
theorem aKP(s:ByteArray)(hs:s.size≤9223372036854775807):PSp prog 151 [.one (.t (.str s)),.one (.t (.str (bs [48,49])))] (.one (.t (.str ⟨(Lib.trimS s.data.toList [48,49]).toArray⟩))):=
 PSp.lib (fun _ _ _ _ h=>nT h) (fun _ _ _=> .str _) fun w _=>by
  have h:=Any.strings_Trim_laid Tryz.aNE (by kernel_rfl) s ⟨#[48,49]⟩ w hs (by decide) (ascii_of_all (by decide));exact h
theorem aKQ(a b:ByteArray):PSp prog 269 [.one (.t (.str a)),.one (.t (.str b))] (.one (.t (.int .i64 (Lib.compareBytes a.data.toList b.data.toList)))):=
 PSp.lib (fun _ _ _ _ h=>nT h) (fun _ _ _=> .int _ _) fun w _=>(Any.strings_Compare Tryz.aNC a b w).mono fun e w' h=>⟨h.1,by rw[h.2];exact Below.refl _ _⟩
theorem aIE(s t:ByteArray)(hs:s.size<4294967281):PSp prog 259 [.one (.t (.str s)),.one (.t (.str t))] (.one (.t (.bool (Lib.contains s.data.toList t.data.toList)))):=
 PSp.lib (fun _ _ _ _ h=>nT h) (fun _ _ _=> .bool _) fun w hg=>by
  obtain⟨m,hm⟩:=hg;exact(Any.strings_Contains Tryz.aND s t m w hs hm).mono fun e w' h=>⟨h.1,by rw[h.2];exact Below.refl _ _⟩
theorem aKR(x:Nat)(w:World):Calls prog 226 #[.int .i32 x] w fun e w'=>e= .returned (.bool (decide (127<x)))∧w'=w:=by
 go_enter func226,Tryz.ntmps226
 go_wp2
 go_ret
 refine⟨?_,rfl⟩;congr 2;simp
 try omega
theorem aFS(s:ByteArray):PSp prog 225 [.one (.t (.str s)),.one (.fn 226 [])] (.one (.t (.int .i64 (Lib.idxFunc (fun x=>decide (127<x)) true s)))):=
 PSp.lib (fun _ _ _ _ h=>aDL h) (fun _ _ _=> .int _ _) fun w _=>by
  have h:=Any.strings_IndexFunc Tryz.aNF 226 #[] (enters_of func226 (by kernel_rfl) rfl) (fun x=>decide (127<x)) s w (fun W x _=>(aKR x W).mono fun e w' h=>⟨h.1,0,by rw[h.2];rfl⟩);exact h
end
section
open Go Go.Ab Go.Proofs Go.Shelf Go.RowKit
theorem aFT(s t:ByteArray)(hs:s.size≤9223372036854775807):PSp prog 258 [.one (.t (.str s)),.one (.t (.str t))] (.one (.t (.bool (Lib.hasSuffix s.data.toList t.data.toList)))):=
 PSp.lib (fun _ _ _ _ h=>nT h) (fun _ _ _=> .bool _) fun w hg=>
  (Any.strings_HasSuffix Tryz.aNG s t w hs).mono fun e w' h=>⟨h.1,by rw[h.2];exact Below.refl _ _⟩
end
section
attribute [-simp] Go.Ab.aA Go.Ab.gval
open Go Go.Ab
theorem eqCases(a b:Int):a=b∨((a==b)=false∧¬a=b∧¬b=a∧(b==a)=false∧(a != b)=true∧(b != a)=true):=by
 by_cases h:a=b
 ·exact .inl h
 ·have h':¬ b=a:=fun e=>h e.symm
  exact .inr ⟨by simp[h],h,h',by simp[h'],by simp[h],by simp[h']⟩
def bR(a b:ByteArray):Bool:=a.toList==b.toList
def vP(l:List ByteArray)(s:ByteArray):Int:=match l.findIdx? (fun x=>bR x s)with | some i=>(i:Int) | none=> -1
def aIF(l:List ByteArray)(s:ByteArray):Bool:=l.any fun x=>bR x s
section
variable {P:Program} {n:Nat} {A:Exit→St→Prop} {ks:List KF} {st:St} {x:aB}
theorem nU{α:Type}(l:List α)(p:α→Bool)(kt kh:List Nat)(X:Nat→St→Prop)(hs:short l)(h0:X 0 st∧dD kt st.tmps st.tmps∧fK kh st.heap st.heap st.nx)
  (round:∀ i y st',i<l.length→(i:Int)<(l.length:Int)→IntKind.i64.wrap ((i:Int)+1)=((i+1:Nat):Int)→l[i]? =some y→y∈l→(p y=true→l.findIdx? p=some i)→
   X i st'→dD kt st.tmps st'.tmps→fK kh st.heap st'.heap st'.nx→aZ P n A x (.post (fun st''=>p y=false∧X (i+1) st''∧dD kt st.tmps st''.tmps∧fK kh st.heap st''.heap st''.nx)::ks) st')
  (last:∀ st',l.findIdx? p=none→X l.length st'→dD kt st.tmps st'.tmps→fK kh st.heap st'.heap st'.nx→aZ P n A x (.post (fun _=>False)::ks) st'):W P n (.loop x) (kont P n A ks) st:=by
 refine W.loop (fun k st'=>∃ i,k=l.length - i∧i≤l.length∧(∀y∈l.take i,p y=false)∧X i st'∧dD kt st.tmps st'.tmps∧fK kh st.heap st'.heap st'.nx) l.length ⟨0,by omega,by omega,by simp,h0⟩ ?_;rintro k st' ⟨i,rfl,hi,ha,hJ,hT,hH⟩;rcases Nat.lt_or_ge i l.length with h | h
 ·have hy:l[i]? =some l[i]:=gE9 h;have e:List.take (i+1) l=List.take i l++[l[i]]:=by rw[List.take_add_one,hy];rfl
  refine fD (round i _ st' h (by omega) (oV h hs) hy (gL9 h) (fun hr=>?_) hJ hT hH) fun st'' hq=>⟨l.length - (i+1),by omega,i+1,rfl,by omega,?_,hq.2⟩
  ·rw[List.findIdx?_eq_some_iff_getElem];refine⟨h,hr,fun j hj=>?_⟩;have:=ha l[j] (List.mem_take_iff_getElem.2 ⟨j,by omega,rfl⟩);simp[this]
  ·rw[e];intro y hy;rcases List.mem_append.1 hy with hy | hy
   ·exact ha y hy
   ·simp at hy;rw[hy];exact hq.1
 ·have:i=l.length:=by omega
  subst this;rw[List.take_length]at ha;exact fD (last st' (by rw[List.findIdx?_eq_none_iff];exact ha) hJ hT hH) fun st'' h=>h.elim
end
theorem bS{P:Program}{n:Nat}{A:Exit→St→Prop}{ks:List KF}{st:St}{x:aB}{α:Type}(l:List α)(p:α→Bool)(kt kh:List Nat)(X:Nat→St→Prop)(hs:short l)(h0:X 0 st∧dD kt st.tmps st.tmps∧fK kh st.heap st.heap st.nx)
  (round:∀ i y st',i<l.length→(i:Int)<(l.length:Int)→IntKind.i64.wrap ((i:Int)+1)=((i+1:Nat):Int)→l[i]? =some y→y∈l→(p y=true→l.any p=true)→
   X i st'→dD kt st.tmps st'.tmps→fK kh st.heap st'.heap st'.nx→aZ P n A x (.post (fun st''=>p y=false∧X (i+1) st''∧dD kt st.tmps st''.tmps∧fK kh st.heap st''.heap st''.nx)::ks) st')
  (last:∀ st',l.any p=false→X l.length st'→dD kt st.tmps st'.tmps→fK kh st.heap st'.heap st'.nx→aZ P n A x (.post (fun _=>False)::ks) st'):W P n (.loop x) (kont P n A ks) st:=
 nU l p kt kh X hs h0 (fun i y st' hi hiI hw hg hy _ hx hk hh=>round i y st' hi hiI hw hg hy (fun e=>List.any_eq_true.2 ⟨y,hy,e⟩) hx hk hh)
  fun st' h=>last st' (by rw[List.findIdx?_eq_none_iff]at h;rw[List.any_eq_false];exact fun x hx=>by simp[h x hx])
attribute [local simp] b7i c243 in
theorem aV9(l:List ByteArray)(s:ByteArray)(hl:short l):PSp prog 243 [.one (.t (aO l)),.one (.t (.str s))] (.one (.t (I (vP l s)))):=by
 refine k243.aI (by simp) rfl rfl ?_;simp -implicitDefEqProofs [aO];refine nU l (fun x=>bR x s) [0,1] [] (fun i st=>st.tmps 5= .one (.t (I i))) hl ⟨by simp,by simp,by simp⟩ ?_ ?_
 ·intro i y st hi hiI hw hg hy hany hx hk hh;simp at hk;simp -implicitDefEqProofs [hx,hk,hiI,hi,aE hg,hw,aC];exact⟨fun e=>by simp[vP,hany (by simp[bR,e])],fun e=>by simp[bR,e]⟩
 ·intro st hany hx hk hh;simp at hk;simp -implicitDefEqProofs [hx,hk,aC,vP,hany]
attribute [local simp] c206 in
theorem aS3(l:List ByteArray)(s:ByteArray)(hl:short l):PSp prog 206 [.one (.t (aO l)),.one (.t (.str s))] (.one (.t (.bool (aIF l s)))):=by
 refine k206.aI (by simp) rfl rfl ?_;simp -implicitDefEqProofs [aO];refine aD.tree (aV9 l s hl) rfl ?_;simp -implicitDefEqProofs [aC,vP,aIF];cases h:l.findIdx? fun x=>bR x s with
 | none=>
  rw[List.findIdx?_eq_none_iff]at h;simp;exact fun x hx=>h x hx
 | some i=>
  rw[List.findIdx?_eq_some_iff_getElem]at h;obtain⟨h1,h2,_⟩:=h;have e:(l.any fun x=>bR x s)=true:=List.any_eq_true.2 ⟨_,gL9 h1,h2⟩;rw[e];simp
def ints(l:List Int):T:= .rows 1 (l.map fun a=>[I a])
attribute [local simp] b6H c46 in
theorem P46(l:List Int)(n:Int)(hl:short l):PSp prog 46 [.one (.t (ints l)),.one (.t (I n))] (.one (.t (.bool (l.any fun x=>x==n)))):=by
 refine k46.aI (by simp) rfl rfl ?_;simp -implicitDefEqProofs [ints];refine bS l (fun x=>x==n) [0,1] [] (fun i st=>st.tmps 5= .one (.t (I i))) hl ⟨by simp,by simp,by simp⟩ ?_ ?_
 ·intro i y st hi hiI hw hg hy hany hx hk hh;simp at hk;simp -implicitDefEqProofs [hx,hk,hiI,hi,aE hg,hw,aC];simpa using hany
 ·intro st hany hx hk hh;simp at hk hany;simp -implicitDefEqProofs [hx,hk,aC];exact hany
def chars(s:ByteArray):List Int:=s.data.toList.map fun b=>(b.toNat:Int)
theorem dW(s:ByteArray):(chars s).length=s.size:=by simp[chars]
theorem mY{s:ByteArray}{c:Int}(h:c∈chars s):0≤c∧c<256:=by
 simp only[chars,List.mem_map]at h;obtain⟨b,_,rfl⟩:=h;have:=b.toNat_lt;omega
def aIG(c:Int):Bool:=decide (97≤c)&&decide (c≤122)
def aIH(c:Int):Bool:=decide (65≤c)&&decide (c≤90)
def isLet(c:Int):Bool:=aIG c||aIH c
def uP(c:Int):Bool:=decide (48≤c)&&decide (c≤57)
theorem aVA(c:Int):PSp prog 242 [.one (.t (.int .u8 c))] (.one (.t (.bool (uP c)))):=aV0 c
theorem aS4(c:Int):PSp prog 240 [.one (.t (.int .u8 c))] (.one (.t (.bool (aIG c)))):=aUY c
theorem aS5(c:Int):PSp prog 241 [.one (.t (.int .u8 c))] (.one (.t (.bool (aIH c)))):=aUZ c
def lK(l:List Int)(i:Nat):Bool:=let c:=l.getD i 0;uP c||isLet c||c==95||(c==45&& !(l.getD (i - 1) 0==45))
def bF(s:ByteArray):Bool:=let l:=chars s
 decide (1≤l.length)&&decide (l.length≤32)&&isLet (l.getD 0 0)&& !(l.getD (l.length - 1) 0==45)&&(List.range (l.length - 1)).all fun i=>lK l (i+1)
theorem oY(s:ByteArray)(k:Int):D.ixs (some k) (.one (.t (.str s)))= .one (.t (.int .u8 ((chars s).getD k.toNat 0))):=by
 simp only[D.ixs,Option.getD_some,chars,List.getD_eq_getElem?_getD,List.getElem?_map];cases s.data.toList[k.toNat]? <;>rfl
attribute [local simp] oY D.oH
theorem iJ{n i y:Nat}(h:(List.range n)[i]? =some y):y=i:=by
 rw[List.getElem?_range]at h
 ·simpa using h.symm
 ·rcases Nat.lt_or_ge i n with g | g
  ·exact g
  ·rw[List.getElem?_eq_none (by simpa using g)]at h;cases h
attribute [local simp] b13 b14 b15 b16 b17 b18 b19 a6W b2a c205 in
theorem aQ0(s:ByteArray)(h1:0<s.size)(h2:s.size≤32)(h3:isLet ((chars s).getD 0 0)=true)(h4:((chars s).getD (s.size - 1) 0==45)=false)(st:St)(h0:st.tmps 0= .one (.t (.str s))):
  aZ prog 66 (aC [.tmp 2] (.one (.t (.bool (bF s))))) a6W [] st:=by
 have e0:bF s= !(List.range (s.size - 1)).any fun i=> !lK (chars s) (i+1):=by
  simp only[bF,dW,h3,h4];simp[show 1≤s.size by omega,h2,List.not_any_eq_all_not]
 simp -implicitDefEqProofs;refine bS (List.range (s.size - 1)) (fun i=> !lK (chars s) (i+1)) [0] [] (fun i st=>st.tmps 3= .one (.t (I (i+1)))) (by simp[short];omega) ⟨by simp,by simp,by simp⟩ ?_ ?_
 ·intro i y st hi hiI hw hg hy hany hx hk hh;obtain rfl:=iJ hg;simp[h0]at hk hi;have hi':(y:Int)+1<(s.size:Int):=by omega
  have hw2:IntKind.i64.wrap (y:Int)=(y:Int):=aH y (by omega) (by omega);have hw3:IntKind.i64.wrap ((y:Int)+1+1)=(y:Int)+1+1:=by have:=aH (x:=(y:Int)+1+1) (y+2) (by omega) (by omega);rw[this];omega
  have e1:((y:Int)+1).toNat=y+1:=by omega
  have e3:(0:Int)≤(y:Int)+1:=by omega
  have e4:y<s.size:=by omega
  have e5:(y:Int)<(s.size:Int):=by omega
  obtain⟨c,hc⟩:∃ c,(chars s)[y+1]?.getD 0=c:=⟨_,rfl⟩;obtain⟨d,hd⟩:∃ c,(chars s)[y]?.getD 0=c:=⟨_,rfl⟩;have e2:lK (chars s) (y+1)=(uP c||aIG c||aIH c||c==95||(c==45&& !(d==45))):=by simp[lK,hc,hd,isLet,Bool.or_assoc]
  rw[e0];rw[e2]at hany ⊢;simp -implicitDefEqProofs [h0,hx,hk,hi',e1,hc,e3];refine aD.tree (aVA _) rfl ?_;cases d1:uP c with
  | true=>simp -implicitDefEqProofs [hx,hk,hw3]
  | false=>
   simp -implicitDefEqProofs [hx,hk];refine aD.tree (aS4 _) rfl ?_;cases d2:aIG c with
   | true=>simp -implicitDefEqProofs [hx,hk,hw3]
   | false=>
    simp -implicitDefEqProofs [hx,hk];refine aD.tree (aS5 _) rfl ?_;cases d3:aIH c with
    | true=>simp -implicitDefEqProofs [hx,hk,hw3]
    | false=>
     rw[d1,d2,d3]at hany;rcases eqCases c 95 with rfl | q1
     ·simp -implicitDefEqProofs [hx,hk,hw3]
     ·rcases eqCases c 45 with rfl | q2
      ·rcases eqCases d 45 with rfl | q3
       ·simp -implicitDefEqProofs [hx,hk,hw2,hd,e5,aC];simpa using hany
       ·simp -implicitDefEqProofs [hx,hk,hw2,hw3,hd,e5,q3]
      ·simp -implicitDefEqProofs [hx,hk,q1,q2,aC];simpa[q1,q2]using hany
 ·intro st hany hx hk hh;simp[h0]at hk;rw[e0,hany];have e5:¬ ((s.size - 1:Nat):Int)+1<(s.size:Int):=by omega
  simp at hx;simp -implicitDefEqProofs [hx,hk,e5,aC]
attribute [local simp] b13 b14 b15 b16 b17 b18 b19 b2a c205 in
theorem aNH(s:ByteArray)(hs:s.size≤9223372036854775807):PSp prog 205 [.one (.t (.str s))] (.one (.t (.bool (bF s)))):=by
 refine k205.aI (by simp) rfl rfl ?_;simp -implicitDefEqProofs;refine aD.tree (dG _ _ _) rfl ?_;cases h1:(decide ((1:Int)≤(s.size:Int))&&decide ((s.size:Int)≤32))with
 | false=>
  simp -implicitDefEqProofs [aC];simp at h1;simp[bF,dW];omega
 | true=>
  simp at h1;have h1':0<s.size∧s.size≤32:=by omega
  have hw1:IntKind.i64.wrap ((s.size:Int) - 1)=((s.size - 1:Nat):Int):=aH _ (by omega) (by omega);simp -implicitDefEqProofs [h1'.1];refine aD.tree (aS4 _) rfl ?_;obtain⟨c0,hc0⟩:∃ c,(chars s)[0]?.getD 0=c:=⟨_,rfl⟩;obtain⟨cl,hcl⟩:∃ c,(chars s)[s.size - 1]?.getD 0=c:=⟨_,rfl⟩
  have key:isLet c0=false∨(cl==45)=true→bF s=false:=fun h=>by
   simp only[bF,dW,List.getD_eq_getElem?_getD,hc0,hcl];rcases h with h | h<;>simp[h]
  have main:isLet c0=true→¬cl=45→∀st:St,st.tmps 0= .one (.t (.str s))→aZ prog 66 (aC [.tmp 2] (.one (.t (.bool (bF s))))) a6W [] st:=fun h h'=>aQ0 s h1'.1 h1'.2 (by simpa[hc0]using h) (by simpa[hcl]using h')
  rw[hc0];cases h2:aIG c0 with
  | true=>
   simp -implicitDefEqProofs [hw1,hcl];refine⟨by omega,fun h=>?_,fun h=>main (by simp[isLet,h2]) h _ (by simp)⟩;simp -implicitDefEqProofs [aC,key (.inr (by simpa using h))]
  | false=>
   simp -implicitDefEqProofs [hw1,hc0,h1'.1];refine aD.tree (aS5 _) rfl ?_;cases h3:aIH c0 with
   | true=>
    simp -implicitDefEqProofs [hw1,hcl];refine⟨by omega,fun h=>?_,fun h=>main (by simp[isLet,h3]) h _ (by simp)⟩;simp -implicitDefEqProofs [aC,key (.inr (by simpa using h))]
   | false=>simp -implicitDefEqProofs [aC,key (.inl (by simp[isLet,h2,h3]))]
end
end Go.Proofs.YtdpbobkcbakpfaaGreatDoor
