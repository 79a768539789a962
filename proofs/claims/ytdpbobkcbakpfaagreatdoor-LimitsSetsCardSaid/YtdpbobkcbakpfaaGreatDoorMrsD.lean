/- Texts of this proof, laid one behind the other (CA, Aw1, De0). -/
import Derived.Test.YtdpbobkcbakpfaaGreatDoorProg
import Derived.Test.YtdpbobkcbakpfaaGreatDoorMrsC
namespace Go.Proofs.YtdpbobkcbakpfaaGreatDoor
open Go Go.Ab
set_option maxRecDepth 100000
def c12 : aB := zs 0 1 [zW 0 false] (zs 1 8 [zc 9 56 [], zc 10 40 [zi 8], zc 11 22 [.tmp 9, .tmp 10], zv 8 11, zE 12 0 8, zE 13 1 8, zv 1 12, zv 2 13] (zs 2 8 [zc 15 56 [], zc 16 40 [zi 8], zc 17 24 [.tmp 15, .tmp 16], zv 14 17, zE 18 0 14, zE 19 1 14, zv 3 18, zv 4 19] (zs 3 10 [zc 21 56 [], zc 22 43 [.tmp 21], zv 20 22, zE 23 0 20, zE 24 1 20, zE 25 2 20, zo 5 (.alloc [za, za]), zn (.store 2 (.tmp 5) (.tmp 23)), zv 6 24, zv 7 25] (zs 4 31 [zv 26 2, zK 27 .eql 26 0, zv 28 27, .grp 28 true [zg 29 (.mv (.tmp 1)) 28 true], zP 30 28 29, zv 31 30, .grp 31 true [zg 32 (.mv (.tmp 4)) 31 true, zg 33 (.bin .eql false (.tmp 32) (zi 0)) 31 true], zP 34 31 33, zv 35 34, .grp 35 true [zg 36 (.mv (.tmp 3)) 35 true, zg 37 (.un .not (.tmp 36)) 35 true], zP 38 35 37, zv 39 38, .grp 39 true [zg 40 (.mv (.tmp 7)) 39 true, zg 41 (.bin .eql false (.tmp 40) (zi 0)) 39 true], zP 42 39 41, zv 43 42, .grp 43 true [zg 44 (.mv (.tmp 6)) 43 true], zP 45 43 44, zv 46 45, .grp 46 true [zg 47 (.fa 0 (.tmp 5)) 46 true, zg 48 (.load 1 false (.tmp 47)) 46 true, zg 49 (.bin .eql false (.tmp 48) (zi 1)) 46 true], zP 50 46 49, zv 51 50, .grp 51 true [zg 52 (.fa 1 (.tmp 5)) 51 true, zg 53 (.load 1 false (.tmp 52)) 51 true, zg 54 (.bin .eql false (.tmp 53) (zi 5)) 51 true], zP 55 51 54, zv 0 55] .ret))))
theorem k12 : Compiled Tryz.prog 12 56 [.tmp 0] c12 := .mk' [] Tryz.func12 rfl (by kernel_rfl) (by kernel_rfl)
def c14t4 : aB := zd 12 (zs 3 3 [zv 13 4, zM 2 0, zv 3 13] .ret) .skip
def c14t5 : aB := zs 2 2 [zv 11 4, zK 12 .neq 11 0] c14t4
def c14t8 : aB := zd 17 (zs 5 2 [zM 2 0, zM 3 0] .ret) .skip
def c14t17 : aB := zd 33 (zs 13 2 [zM 2 0, zM 3 4] .ret) .skip
def c14t18 : aB := zd 29 (zr 11 1 [zM 6 2]) (zs 12 4 [zf 34 0 1, zl 35 34, zK 36 .neq 35 2, zv 33 36] c14t17)
def c14t19 : aB := zd 25 (zr 9 1 [zM 6 1]) (zs 10 4 [zf 30 0 1, zl 31 30, zc 32 61 [.tmp 31], zv 29 32] c14t18)
def c14t27 : aB := zd 54 (zs 20 4 [zv 55 7, zv 56 8, zv 2 55, zv 3 56] .ret) .skip
def c14t28 : aB := zs 19 2 [zv 53 8, zK 54 .neq 53 0] c14t27
def c14t29 : aB := zs 18 4 [zv 50 5, zv 51 7, zc 52 63 [.tmp 50, .tmp 51], zv 8 52] c14t28
def c14t31 : aB := .seq (.block 2 (zs 17 2 [zv 49 47, zv 7 49] c14t29)) (zr 21 2 [zK 57 .add 47 1, zv 47 57])
def c14t32 : aB := .seq (zd 48 .skip (.exit 1)) c14t31
def c14b33 : aB := zs 16 1 [zB 48 .lss 47 46] c14t32
def c14t34 : aB := .block 1 (.loop c14b33)
def c14t36 : aB := .seq (zs 15 4 [zf 44 7 1, zl 45 44, zL 46 45, zM 47 0] c14t34) (zs 22 5 [zf 58 7 1, zl 59 58, zL 60 59, zv 2 60, zM 3 0] .ret)
def c14t37 : aB := zs 14 7 [zv 37 5, zf 38 7 1, zl 39 38, zL 40 39, zK 41 .sub 40 1, zv 42 6, zc 43 62 [.tmp 37, .tmp 41, .tmp 42]] c14t36
def c14t38 : aB := .seq (.block 0 (zs 8 4 [zf 26 0 1, zl 27 26, zc 28 60 [.tmp 27], zv 25 28] c14t19)) c14t37
def c14t39 : aB := zs 7 1 [zM 6 0] c14t38
def c14t40 : aB := .seq (.region 6 true 8 [zA 18 8 1, zf 19 7 1, zl 20 19, zL 21 20, zo 22 (.mks 1 8 [za] (.tmp 21) (.tmp 21)), zo 23 (.build [za, .t (.str (bs [])), .tt 3 [], .tt 13 [], .t (.bool false), za, .tt 8 [], .tt 5 [], .tt 1 []] [(0, (8, .tmp 18)), (8, (1, .tmp 22))]), zX 24 9 23, zv 5 24]) c14t39
def c14t41 : aB := .seq (zs 4 4 [zf 14 7 1, zl 15 14, zL 16 15, zK 17 .eql 16 0] c14t8) c14t40
def c14t42 : aB := .seq (zs 1 3 [zA 9 8 1, zc 10 59 [.tmp 9], zv 4 10] c14t5) c14t41
def c14 : aB := zs 0 3 [zX 1 8 0, zM 2 0, zM 3 0] c14t42
theorem k14 : Compiled Tryz.prog 14 61 [.tmp 2, .tmp 3] c14 := .mk' [] Tryz.func14 rfl (by kernel_rfl) (by kernel_rfl)
def c22 : aB := zs 0 4 [zX 2 8 0, zX 3 6 1, zW 4 false, zM 5 0] (.seq (zs 1 4 [zA 7 8 2, zA 8 6 3, zc 9 71 [.tmp 7, .tmp 8], zv 6 9] (zs 2 2 [zv 10 6, zK 11 .neq 10 0] (zd 11 (zs 3 3 [zv 12 6, zW 4 false, zv 5 12] .ret) .skip))) (zs 4 16 [zf 13 7 2, zl 14 13, zL 15 14, zK 16 .eql 15 0, zv 17 16, .br 17 false [zg 18 (.fa 7 (.tmp 2)) 17 false, zg 19 (.load 1 false (.tmp 18)) 17 false, zg 20 (.fa 7 (.tmp 2)) 17 false, zg 21 (.load 1 false (.tmp 20)) 17 false, zg 22 (.len false (.tmp 21)) 17 false, zg 23 (.bin .sub false (.tmp 22) (zi 1)) 17 false, zg 24 (.load 6 true (.tmp 3)) 17 false, .mk (some 25) (.call 72 [.tmp 19, .tmp 23, .tmp 24]) (some (17, false))], zQ 26 17 25, zv 4 26, zM 5 0] .ret))
theorem k22 : Compiled Tryz.prog 22 27 [.tmp 4, .tmp 5] c22 := .mk' [] Tryz.func22 rfl (by kernel_rfl) (by kernel_rfl)
def c24 : aB := zs 0 4 [zX 2 8 0, zX 3 6 1, zW 4 false, zM 5 0] (.seq (zs 1 4 [zA 9 8 2, zA 10 6 3, zc 11 71 [.tmp 9, .tmp 10], zv 6 11] (zs 2 2 [zv 12 6, zK 13 .neq 12 0] (zd 13 (zs 3 3 [zv 14 6, zW 4 false, zv 5 14] .ret) .skip))) (zs 4 8 [zf 16 7 2, zl 17 16, zc 18 74 [.tmp 17], zv 15 18, zE 19 0 15, zE 20 1 15, zv 7 19, zv 8 20] (zs 5 11 [zv 21 7, zK 22 .lss 21 0, zv 23 22, .br 23 false [zg 24 (.fa 7 (.tmp 2)) 23 false, zg 25 (.load 1 false (.tmp 24)) 23 false, zg 26 (.mv (.tmp 7)) 23 false, zg 27 (.load 6 true (.tmp 3)) 23 false, .mk (some 28) (.call 72 [.tmp 25, .tmp 26, .tmp 27]) (some (23, false))], zQ 29 23 28, zv 4 29, zM 5 0] .ret)))
theorem k24 : Compiled Tryz.prog 24 30 [.tmp 4, .tmp 5] c24 := .mk' [] Tryz.func24 rfl (by kernel_rfl) (by kernel_rfl)
def c40 : aB := zs 0 1 [zo 2 (.alloc [za, za, za, .t (.str (bs [])), .tt 1 [], .tt 6 []])] (zs 1 3 [zv 3 0, zo 4 (.build [za, za, za, .t (.str (bs [])), .tt 1 [], .tt 6 []] [(0, (1, zi 2)), (1, (1, .tmp 3))]), zn (.store 6 (.tmp 2) (.tmp 4))] .ret)
theorem k40 : Compiled Tryz.prog 40 5 [.cell 2 6 true] c40 := .mk' [] Tryz.func40 rfl (by kernel_rfl) (by kernel_rfl)
def c43 : aB := zs 0 4 [zX 1 8 0, zo 2 (.alloc [za, za]), zW 3 false, zM 4 0] (.seq (.seq (.region 1 true 9 [zA 8 8 1, zc 9 80 [.tmp 8], zf 10 0 1, zl 11 10, zK 12 .eql 11 2, zc 13 81 [.tmp 12, zi 4], zo 14 (.bslice 1 2 [za, za] [(0, (1, .tmp 9)), (1, (1, .tmp 13))]), zc 15 79 [.tmp 14], zv 5 15]) (zs 2 2 [zv 16 5, zK 17 .neq 16 0] (zd 17 (zs 3 5 [zo 18 (.build [za, za] []), zv 19 5, zn (.store 2 (.tmp 2) (.tmp 18)), zW 3 false, zv 4 19] .ret) .skip))) (zs 4 8 [zf 21 7 1, zl 22 21, zc 23 74 [.tmp 22], zv 20 23, zE 24 0 20, zE 25 1 20, zv 6 24, zv 7 25] (.seq (zs 5 2 [zv 26 6, zK 27 .lss 26 0] (zd 27 (.seq (.region 6 true 10 [zA 28 8 1, zA 29 8 1, zc 30 82 [.tmp 29], zc 31 89 [.tmp 28, .tmp 30], zE 32 0 31, zE 33 1 31, zE 34 2 31, zn (.store 2 (.tmp 2) (.tmp 32)), zv 3 33, zv 4 34]) .ret) .skip)) (.seq (.region 7 true 12 [zA 35 8 1, zf 36 7 1, zl 37 36, zv 38 6, zc 39 90 [.tmp 37, .tmp 38], zc 40 89 [.tmp 35, .tmp 39], zE 41 0 40, zE 42 1 40, zE 43 2 40, zn (.store 2 (.tmp 2) (.tmp 41)), zv 3 42, zv 4 43]) .ret))))
theorem k43 : Compiled Tryz.prog 43 44 [.cell 2 2 true, .tmp 3, .tmp 4] c43 := .mk' [] Tryz.func43 rfl (by kernel_rfl) (by kernel_rfl)
def c59t5 : aB := zd 12 (zs 4 1 [zM 2 2] .ret) .skip
def c59t6 : aB := zs 3 4 [zv 9 3, zC 10 9, zf 11 1 10, zl 12 11] c59t5
def c59t8 : aB := .seq (zs 2 3 [zv 6 3, zA 7 8 1, zc 8 106 [.tmp 6, .tmp 7, zi 9]] c59t6) (zs 5 3 [zA 13 8 1, zc 14 107 [.tmp 13], zv 2 14] .ret)
def c59t9 : aB := zs 1 3 [zo 4 (.build [za, .t (.bool false)] [(0, (1, zi 60))]), zX 5 2 4, zv 3 5] c59t8
def c59 : aB := zs 0 2 [zX 1 8 0, zM 2 0] c59t9
theorem k59 : Compiled Tryz.prog 59 15 [.tmp 2] c59 := .mk' [] Tryz.func59 rfl (by kernel_rfl) (by kernel_rfl)
def c60 : aB := zs 0 1 [zW 2 false] (zs 1 11 [zv 3 0, zK 4 .eql 3 6, zv 5 4, .grp 5 false [zg 6 (.mv (.tmp 0)) 5 false, zg 7 (.bin .eql false (.tmp 6) (zi 4)) 5 false], zQ 8 5 7, zv 9 8, .grp 9 false [zg 10 (.mv (.tmp 0)) 9 false, zg 11 (.bin .eql false (.tmp 10) (zi 5)) 9 false], zQ 12 9 11, zv 2 12] .ret)
theorem k60 : Compiled Tryz.prog 60 13 [.tmp 2] c60 := .mk' [] Tryz.func60 rfl (by kernel_rfl) (by kernel_rfl)
def c61 : aB := zs 0 1 [zW 2 false] (zs 1 7 [zv 3 0, zK 4 .eql 3 11, zv 5 4, .grp 5 false [zg 6 (.mv (.tmp 0)) 5 false, zg 7 (.bin .eql false (.tmp 6) (zi 12)) 5 false], zQ 8 5 7, zv 2 8] .ret)
theorem k61 : Compiled Tryz.prog 61 9 [.tmp 2] c61 := .mk' [] Tryz.func61 rfl (by kernel_rfl) (by kernel_rfl)
def c62t10 : aB := zd 42 (zr 9 1 [zM 8 4]) .skip
def c62t11 : aB := zd 40 (zr 7 1 [zM 8 3]) (zs 8 2 [zK 43 .eql 39 3, zv 42 43] c62t10)
def c62t12 : aB := .block 2 (zs 6 2 [zK 41 .eql 39 2, zv 40 41] c62t11)
def c62t14 : aB := .seq (zs 5 9 [zv 31 0, zC 32 31, zf 33 0 32, zf 34 7 33, zl 35 34, zv 36 1, zI 37 5 35 36, zf 38 0 37, zl 39 38] c62t12) (zr 10 4 [zv 44 0, zv 45 7, zv 46 8, zc 47 62 [.tmp 44, .tmp 45, .tmp 46]])
def c62t15 : aB := zs 4 2 [zv 30 2, zv 8 30] c62t14
def c62t17 : aB := .seq (.block 1 (zs 3 3 [zI 28 1 24 26, zl 29 28, zv 7 29] c62t15)) (zr 11 2 [zK 48 .add 26 1, zv 26 48])
def c62t18 : aB := .seq (zd 27 .skip (.exit 0)) c62t17
def c62b19 : aB := zs 2 1 [zB 27 .lss 26 25] c62t18
def c62t20 : aB := .block 0 (.loop c62b19)
def c62t21 : aB := zs 1 11 [zv 16 0, zC 17 16, zf 18 0 17, zf 19 7 18, zl 20 19, zv 21 1, zI 22 5 20 21, zf 23 4 22, zl 24 23, zL 25 24, zM 26 0] c62t20
def c62 : aB := zs 0 8 [zv 9 0, zC 10 9, zf 11 8 10, zl 12 11, zv 13 1, zv 14 2, zI 15 1 12 13, zn (.store 1 (.tmp 15) (.tmp 14))] c62t21
theorem k62 : Compiled Tryz.prog 62 49 [] c62 := .mk' [] Tryz.func62 rfl (by kernel_rfl) (by kernel_rfl)
def c63t6 : aB := zd 40 (zs 5 2 [zv 41 7, zv 4 41] .ret) .skip
def c63t7 : aB := zs 4 2 [zv 39 7, zK 40 .neq 39 0] c63t6
def c63t14 : aB := zd 69 (.seq (.region 11 true 12 [zv 71 0, zv 72 1, zc 73 110 [.tmp 71, .tmp 72], zc 74 81 [.tmp 73, zi 17], zf 75 3 5, zl 76 75, zo 77 (.len true (.tmp 76)), zK 78 .leq 77 200, zc 79 81 [.tmp 78, zi 2], zo 80 (.bslice 1 2 [za, za] [(0, (1, .tmp 74)), (1, (1, .tmp 79))]), zc 81 79 [.tmp 80], zv 4 81]) .ret) .skip
def c63t15 : aB := zd 44 (zs 8 5 [zv 46 0, zv 47 1, zc 48 109 [.tmp 46, .tmp 47], zo 8 (.alloc [za, za]), zn (.store 2 (.tmp 8) (.tmp 48))] (zs 9 21 [zf 49 1 5, zl 50 49, zf 51 2 5, zl 52 51, zB 53 .leq 50 52, zv 54 53, .grp 54 true [zg 55 (.fa 0 (.tmp 8)) 54 true, zg 56 (.load 1 false (.tmp 55)) 54 true, zg 57 (.fa 1 (.tmp 5)) 54 true, zg 58 (.load 1 false (.tmp 57)) 54 true, zg 59 (.bin .leq false (.tmp 56) (.tmp 58)) 54 true], zP 60 54 59, zv 61 60, .grp 61 true [zg 62 (.fa 2 (.tmp 5)) 61 true, zg 63 (.load 1 false (.tmp 62)) 61 true, zg 64 (.fa 1 (.tmp 8)) 61 true, zg 65 (.load 1 false (.tmp 64)) 61 true, zg 66 (.bin .leq false (.tmp 63) (.tmp 65)) 61 true], zP 67 61 66, zc 68 81 [.tmp 67, zi 3], zv 4 68] .ret)) (zs 10 2 [zK 70 .eql 43 1, zv 69 70] c63t14)
def c63t16 : aB := .block 0 (zs 7 2 [zK 45 .eql 43 0, zv 44 45] c63t15)
def c63t18 : aB := .seq (zs 6 2 [zf 42 0 5, zl 43 42] c63t16) (zs 12 1 [zM 4 0] .ret)
def c63t19 : aB := .seq (zs 3 14 [zf 26 0 5, zl 27 26, zK 28 .neq 27 7, zv 29 28, .grp 29 false [zg 30 (.mv (.tmp 6)) 29 false], zQ 31 29 30, zc 32 81 [.tmp 31, zi 28], zv 33 0, zv 34 1, zc 35 108 [.tmp 33, .tmp 34], zc 36 81 [.tmp 35, zi 17], zo 37 (.bslice 1 2 [za, za] [(0, (1, .tmp 32)), (1, (1, .tmp 36))]), zc 38 79 [.tmp 37], zv 7 38] c63t7) c63t18
def c63t20 : aB := zs 2 10 [zv 17 1, zv 18 0, zC 19 18, zf 20 0 19, zf 21 7 20, zl 22 21, zL 23 22, zK 24 .sub 23 1, zB 25 .eql 17 24, zv 6 25] c63t19
def c63t21 : aB := zs 1 10 [zv 9 0, zC 10 9, zf 11 0 10, zf 12 7 11, zl 13 12, zv 14 1, zI 15 5 13 14, zA 16 5 15, zo 5 (.alloc [za, za, za, .t (.str (bs [])), .tt 1 []]), zn (.store 5 (.tmp 5) (.tmp 16))] c63t20
def c63 : aB := zs 0 1 [zM 4 0] c63t21
theorem k63 : Compiled Tryz.prog 63 82 [.tmp 4] c63 := .mk' [] Tryz.func63 rfl (by kernel_rfl) (by kernel_rfl)
def c71 : aB := zs 0 3 [zX 2 8 0, zX 3 6 1, zM 4 0] (.seq (.seq (.region 1 true 7 [zA 6 8 2, zc 7 80 [.tmp 6], zA 8 6 3, zc 9 118 [.tmp 8], zo 10 (.bslice 1 2 [za, za] [(0, (1, .tmp 7)), (1, (1, .tmp 9))]), zc 11 79 [.tmp 10], zv 5 11]) (zs 2 2 [zv 12 5, zK 13 .neq 12 0] (zd 13 (zs 3 2 [zv 14 5, zv 4 14] .ret) .skip))) (zs 4 5 [zA 15 8 2, zA 16 6 3, zc 17 119 [.tmp 15, .tmp 16], zc 18 81 [.tmp 17, zi 17], zv 4 18] .ret))
theorem k71 : Compiled Tryz.prog 71 19 [.tmp 4] c71 := .mk' [] Tryz.func71 rfl (by kernel_rfl) (by kernel_rfl)
def c72 : aB := zs 0 3 [zX 3 1 0, zX 5 6 2, zW 6 false] (zs 1 6 [zl 9 3, zv 10 1, zI 11 5 9 10, zA 12 5 11, zo 7 (.alloc [za, za, za, .t (.str (bs [])), .tt 1 []]), zn (.store 5 (.tmp 7) (.tmp 12))] (.seq (zs 2 2 [zf 13 0 7, zl 14 13] (.block 0 (zs 3 2 [zK 16 .eql 14 0, zv 15 16] (zd 15 (zs 4 8 [zf 17 1 5, zl 18 17, zf 19 1 7, zl 20 19, zf 21 2 7, zl 22 21, zc 23 85 [.tmp 18, .tmp 20, .tmp 22], zv 6 23] .ret) (zs 5 2 [zK 25 .eql 14 1, zv 24 25] (zd 24 (zs 6 6 [zf 26 3 5, zl 27 26, zf 28 3 7, zl 29 28, zB 30 .eql 27 29, zv 6 30] .ret) (zs 7 2 [zK 32 .eql 14 2, zv 31 32] (zd 31 (.seq (.region 8 true 10 [zl 33 3, zf 34 4 7, zl 35 34, zo 36 (.ia 1 (.tmp 35) (zi 0)), zl 37 36, zc 38 90 [.tmp 33, .tmp 37], zA 39 6 5, zc 40 121 [.tmp 39], zc 41 120 [.tmp 38, .tmp 40], zv 6 41]) .ret) (zs 9 2 [zK 43 .eql 14 3, zv 42 43] (zd 42 (.seq (.region 10 true 8 [zl 44 3, zf 45 4 7, zl 46 45, zo 47 (.ia 1 (.tmp 46) (zi 0)), zl 48 47, zc 49 90 [.tmp 44, .tmp 48], zo 8 (.alloc [.tt 2 []]), zn (.store 1 (.tmp 8) (.tmp 49))]) (zs 11 7 [zf 50 3 5, zl 51 50, zo 52 (.iM (.tmp 51)), zo 53 (.mkfn 123 [.tmp 8]), zc 54 122 [.tmp 52, .tmp 53], zN 55 54, zv 6 55] .ret)) (zs 12 2 [zK 57 .eql 14 5, zv 56 57] (zd 56 (.seq (.region 13 true 17 [zl 58 3, zf 59 4 7, zl 60 59, zo 61 (.ia 1 (.tmp 60) (zi 0)), zl 62 61, zA 63 6 5, zc 64 72 [.tmp 58, .tmp 62, .tmp 63], zv 65 64, .br 65 true [zg 66 (.load 1 false (.tmp 3)) 65 true, zg 67 (.fa 4 (.tmp 7)) 65 true, zg 68 (.load 1 false (.tmp 67)) 65 true, zg 69 (.ia 1 (.tmp 68) (zi 1)) 65 true, zg 70 (.load 1 false (.tmp 69)) 65 true, zg 71 (.load 6 true (.tmp 5)) 65 true, .mk (some 72) (.call 72 [.tmp 66, .tmp 70, .tmp 71]) (some (65, true))], zP 73 65 72, zv 6 73]) .ret) (zs 14 2 [zK 75 .eql 14 6, zv 74 75] (zd 74 (.seq (.region 15 true 18 [zl 76 3, zf 77 4 7, zl 78 77, zo 79 (.ia 1 (.tmp 78) (zi 0)), zl 80 79, zA 81 6 5, zc 82 72 [.tmp 76, .tmp 80, .tmp 81], zv 83 82, .br 83 true [zg 84 (.load 1 false (.tmp 3)) 83 true, zg 85 (.fa 4 (.tmp 7)) 83 true, zg 86 (.load 1 false (.tmp 85)) 83 true, zg 87 (.ia 1 (.tmp 86) (zi 1)) 83 true, zg 88 (.load 1 false (.tmp 87)) 83 true, zg 89 (.load 6 true (.tmp 5)) 83 true, .mk (some 90) (.call 72 [.tmp 84, .tmp 88, .tmp 89]) (some (83, true)), zg 91 (.un .not (.tmp 90)) 83 true], zP 92 83 91, zv 6 92]) .ret) .skip)))))))))))))) (zs 16 5 [zf 93 4 7, zl 94 93, zo 95 (.mkfn 125 [.tmp 3, .tmp 5]), zc 96 124 [.tmp 94, .tmp 95], zv 6 96] .ret)))
theorem k72 : Compiled Tryz.prog 72 97 [.tmp 6] c72 := .mk' [] Tryz.func72 rfl (by kernel_rfl) (by kernel_rfl)
def c74 : aB := zs 0 2 [zM 2 0, zW 3 false] (.seq (zs 1 3 [zv 5 0, zL 6 5, zK 7 .eql 6 0] (zd 7 (zs 2 2 [zM 2 (-1), zW 3 false] .ret) .skip)) (.seq (zs 3 8 [zv 8 0, zv 9 0, zL 10 9, zK 11 .sub 10 1, zI 12 5 8 11, zA 13 5 12, zo 4 (.alloc [za, za, za, .t (.str (bs [])), .tt 1 []]), zn (.store 5 (.tmp 4) (.tmp 13))] (zs 4 3 [zf 14 0 4, zl 15 14, zK 16 .eql 15 7] (zd 16 (zs 5 6 [zf 17 4 4, zl 18 17, zo 19 (.ia 1 (.tmp 18) (zi 0)), zl 20 19, zv 2 20, zW 3 true] .ret) .skip))) (zs 6 5 [zv 21 0, zL 22 21, zK 23 .sub 22 1, zv 2 23, zW 3 false] .ret)))
theorem k74 : Compiled Tryz.prog 74 24 [.tmp 2, .tmp 3] c74 := .mk' [] Tryz.func74 rfl (by kernel_rfl) (by kernel_rfl)
def c80 : aB := zs 0 2 [zX 1 8 0, zM 2 0] (zs 1 7 [zA 6 8 1, zc 7 14 [.tmp 6], zv 5 7, zE 8 0 5, zE 9 1 5, zv 3 8, zv 4 9] (zs 2 2 [zv 10 4, zv 2 10] .ret))
theorem k80 : Compiled Tryz.prog 80 11 [.tmp 2] c80 := .mk' [] Tryz.func80 rfl (by kernel_rfl) (by kernel_rfl)
def c89 : aB := zs 0 4 [zX 2 8 0, zo 4 (.alloc [za, za]), zW 5 false, zM 6 0] (.seq (zs 1 3 [zv 9 1, zL 10 9, zK 11 .eql 10 0] (zd 11 (zs 2 4 [zo 12 (.build [za, za] []), zn (.store 2 (.tmp 4) (.tmp 12)), zW 5 false, zM 6 23] .ret) .skip)) (zs 3 8 [zf 14 7 2, zl 15 14, zc 16 74 [.tmp 15], zv 13 16, zE 17 0 13, zE 18 1 13, zv 7 17, zv 8 18] (.seq (.region 4 true 16 [zv 19 1, zo 20 (.ia 2 (.tmp 19) (zi 0)), zf 21 0 20, zl 22 21, zv 23 1, zv 24 1, zL 25 24, zK 26 .sub 25 1, zI 27 2 23 26, zf 28 1 27, zl 29 28, zo 30 (.build [za, za] [(0, (1, .tmp 22)), (1, (1, .tmp 29))]), zv 31 8, zn (.store 2 (.tmp 4) (.tmp 30)), zv 5 31, zM 6 0]) .ret)))
theorem k89 : Compiled Tryz.prog 89 32 [.cell 4 2 true, .tmp 5, .tmp 6] c89 := .mk' [] Tryz.func89 rfl (by kernel_rfl) (by kernel_rfl)
def c90b12 : aB := zs 8 1 [zB 32 .lss 31 30] (.seq (zd 32 .skip (.exit 1)) (.seq (.block 2 (zs 9 3 [zI 33 1 29 31, zl 34 33, zv 8 34] (zr 10 9 [zv 35 6, zv 36 8, zo 37 (.eH .i64 (.tmp 36)), zv 38 8, zo 39 (.eH .i64 (.tmp 38)), zo 40 (.build [za, za] [(0, (1, .tmp 37)), (1, (1, .tmp 39))]), zo 41 (.bslice 2 1 [za, za] [(0, (2, .tmp 40))]), zo 42 (.app true 2 16 (.tmp 35) (.tmp 41)), zv 6 42]))) (zr 11 2 [zK 43 .add 31 1, zv 31 43])))
def c90 : aB := zs 0 1 [zo 4 (.mv (.con (.one (.tt 2 []))))] (zs 1 6 [zv 11 0, zv 12 1, zI 13 5 11 12, zA 14 5 13, zo 5 (.alloc [za, za, za, .t (.str (bs [])), .tt 1 []]), zn (.store 5 (.tmp 5) (.tmp 14))] (.seq (zs 2 2 [zf 15 0 5, zl 16 15] (.block 0 (zs 3 2 [zK 18 .eql 16 0, zv 17 18] (zd 17 (zs 4 7 [zf 19 1 5, zl 20 19, zf 21 2 5, zl 22 21, zo 23 (.build [za, za] [(0, (1, .tmp 20)), (1, (1, .tmp 22))]), zo 24 (.bslice 2 1 [za, za] [(0, (2, .tmp 23))]), zv 4 24] .ret) (zs 5 2 [zK 26 .eql 16 1, zv 25 26] (zd 25 (zs 6 1 [zo 6 (.mv (.con (.one (.tt 2 []))))] (.seq (zs 7 5 [zf 27 3 5, zl 28 27, zo 29 (.iM (.tmp 28)), zL 30 29, zM 31 0] (.block 1 (.loop c90b12))) (zs 12 3 [zv 44 6, zc 45 130 [.tmp 44], zv 4 45] .ret))) (zs 13 2 [zK 47 .eql 16 2, zv 46 47] (zd 46 (zs 14 7 [zv 48 0, zf 49 4 5, zl 50 49, zo 51 (.ia 1 (.tmp 50) (zi 0)), zl 52 51, zc 53 90 [.tmp 48, .tmp 52], zv 4 53] .ret) .skip)))))))) (zs 15 7 [zv 54 0, zf 55 4 5, zl 56 55, zo 57 (.ia 1 (.tmp 56) (zi 0)), zl 58 57, zc 59 90 [.tmp 54, .tmp 58], zv 9 59] (.seq (zs 16 4 [zf 60 4 5, zl 61 60, zL 62 61, zK 63 .lss 62 2] (zd 63 (zs 17 2 [zv 64 9, zv 4 64] .ret) .skip)) (zs 18 7 [zv 65 0, zf 66 4 5, zl 67 66, zo 68 (.ia 1 (.tmp 67) (zi 1)), zl 69 68, zc 70 90 [.tmp 65, .tmp 69], zv 10 70] (.seq (zs 19 2 [zf 71 0 5, zl 72 71] (.block 3 (zs 20 2 [zK 74 .eql 72 5, zv 73 74] (zd 73 (zs 21 4 [zv 75 9, zv 76 10, zc 77 132 [.tmp 75, .tmp 76], zv 4 77] .ret) (zs 22 2 [zK 79 .eql 72 6, zv 78 79] (zd 78 (zs 23 4 [zv 80 9, zv 81 10, zc 82 102 [.tmp 80, .tmp 81], zv 4 82] .ret) .skip)))))) (zs 24 4 [zv 83 9, zv 84 10, zc 85 86 [zi 0, .tmp 83, .tmp 84], zv 4 85] .ret)))))))
theorem k90 : Compiled Tryz.prog 90 86 [.tmp 4] c90 := .mk' [] Tryz.func90 rfl (by kernel_rfl) (by kernel_rfl)
def c106r0 : List Seg := [zX 4 8 1]
def c106r1 : List Seg := [zv 12 0, zv 13 2, zc 14 144 [.tmp 12, .tmp 13], zN 15 14]
def c106r2 : List Seg := [zf 16 3 4, zl 17 16, zL 18 17, zM 19 0]
def c106r3 : List Seg := [zB 20 .lss 19 18]
def c106r4 : List Seg := [zI 21 13 17 19, zA 22 13 21, zo 7 (.alloc [.t (.str (bs [])), za, za, .t (.str (bs [])), .tt 3 [], .tt 13 [], .t (.bool false), za, .tt 8 [], .tt 5 [], za, .tt 6 [], za]), zn (.store 13 (.tmp 7) (.tmp 22))]
def c106r5 : List Seg := [zv 23 0, zC 24 23, zf 25 1 24, zl 26 25]
def c106r6 : List Seg := [zv 27 0, zf 28 2 7, zA 29 8 28, zv 30 2, zK 31 .sub 30 1, zc 32 106 [.tmp 27, .tmp 29, .tmp 31]]
def c106r7 : List Seg := [zf 33 11 7, zl 34 33, zL 35 34, zM 36 0]
def c106r8 : List Seg := [zB 37 .lss 36 35]
def c106r9 : List Seg := [zI 38 6 34 36, zA 39 6 38, zo 9 (.alloc [za, za, za, .t (.str (bs [])), .tt 1 [], .tt 6 []]), zn (.store 6 (.tmp 9) (.tmp 39))]
def c106r10 : List Seg := [zv 40 0, zC 41 40, zf 42 1 41, zl 43 42]
def c106r11 : List Seg := [zv 44 0, zA 45 6 9, zv 46 2, zK 47 .sub 46 1, zc 48 145 [.tmp 44, .tmp 45, .tmp 47]]
def c106r12 : List Seg := [zK 49 .add 36 1, zv 36 49]
def c106b13 : aB := zs 8 1 c106r8 (.seq (zd 37 .skip (.exit 2)) (.seq (.block 3 (zs 9 4 c106r9 (.seq (zs 10 4 c106r10 (zd 43 .ret .skip)) (zr 11 5 c106r11)))) (zr 12 2 c106r12)))
def c106r13 : List Seg := [zK 50 .add 19 1, zv 19 50]
def c106b15 : aB := zs 3 1 c106r3 (.seq (zd 20 .skip (.exit 0)) (.seq (.block 1 (zs 4 4 c106r4 (.seq (zs 5 4 c106r5 (zd 26 .ret .skip)) (zs 6 6 c106r6 (zs 7 4 c106r7 (.block 2 (.loop c106b13))))))) (zr 13 2 c106r13)))
def c106r14 : List Seg := [zf 51 6 4, zl 52 51, zL 53 52, zM 54 0]
def c106r15 : List Seg := [zB 55 .lss 54 53]
def c106r16 : List Seg := [zI 56 8 52 54, zA 57 8 56, zo 11 (.alloc [za, .t (.str (bs [])), .tt 3 [], .tt 13 [], .t (.bool false), za, .tt 8 [], .tt 5 []]), zn (.store 8 (.tmp 11) (.tmp 57))]
def c106r17 : List Seg := [zv 58 0, zC 59 58, zf 60 1 59, zl 61 60]
def c106r18 : List Seg := [zv 62 0, zA 63 8 11, zv 64 2, zK 65 .sub 64 1, zc 66 106 [.tmp 62, .tmp 63, .tmp 65]]
def c106r19 : List Seg := [zK 67 .add 54 1, zv 54 67]
def c106b22 : aB := zs 15 1 c106r15 (.seq (zd 55 .skip (.exit 4)) (.seq (.block 5 (zs 16 4 c106r16 (.seq (zs 17 4 c106r17 (zd 61 .ret .skip)) (zr 18 5 c106r18)))) (zr 19 2 c106r19)))
def c106 : aB := zs 0 1 c106r0 (.seq (zs 1 4 c106r1 (zd 15 .ret .skip)) (.seq (zs 2 4 c106r2 (.block 0 (.loop c106b15))) (zs 14 4 c106r14 (.block 4 (.loop c106b22)))))
theorem k106 : Compiled Tryz.prog 106 68 [] c106 := .mk' [] Tryz.func106 rfl (by kernel_rfl) (by kernel_rfl)
def c107r0 : List Seg := [zX 1 8 0, zM 2 0]
def c107r1 : List Seg := [zA 14 8 1, zc 15 146 [.tmp 14], zv 3 15]
def c107r2 : List Seg := [zv 16 3, zK 17 .neq 16 0]
def c107r3 : List Seg := [zv 18 3, zv 2 18]
def c107t4 : aB := zd 17 (zs 3 2 c107r3 .ret) .skip
def c107t5 : aB := zs 2 2 c107r2 c107t4
def c107r4 : List Seg := [zA 19 8 1, zc 20 147 [.tmp 19], zv 4 20]
def c107r5 : List Seg := [zv 21 4, zK 22 .neq 21 0]
def c107r6 : List Seg := [zv 23 4, zv 2 23]
def c107t9 : aB := zd 22 (zs 6 2 c107r6 .ret) .skip
def c107t10 : aB := zs 5 2 c107r5 c107t9
def c107r7 : List Seg := [zf 24 3 1, zl 25 24, zL 26 25, zM 27 0]
def c107r8 : List Seg := [zB 28 .lss 27 26]
def c107r9 : List Seg := [zI 29 13 25 27, zA 30 13 29, zo 6 (.alloc [.t (.str (bs [])), za, za, .t (.str (bs [])), .tt 3 [], .tt 13 [], .t (.bool false), za, .tt 8 [], .tt 5 [], za, .tt 6 [], za]), zn (.store 13 (.tmp 6) (.tmp 30))]
def c107r10 : List Seg := [zf 31 0 1, zl 32 31, zc 33 148 [.tmp 32]]
def c107r11 : List Seg := [zf 34 2 6, zA 35 8 34, zc 36 107 [.tmp 35], zv 7 36]
def c107r12 : List Seg := [zv 37 7, zK 38 .neq 37 0]
def c107r13 : List Seg := [zv 39 7, zv 2 39]
def c107t18 : aB := zd 38 (zs 13 2 c107r13 .ret) .skip
def c107t19 : aB := zs 12 2 c107r12 c107t18
def c107t20 : aB := zd 33 (zs 11 4 c107r11 c107t19) .skip
def c107r14 : List Seg := [zf 40 11 6, zl 41 40, zL 42 41, zM 43 0]
def c107r15 : List Seg := [zB 44 .lss 43 42]
def c107r16 : List Seg := [zI 45 6 41 43, zA 46 6 45, zo 9 (.alloc [za, za, za, .t (.str (bs [])), .tt 1 [], .tt 6 []]), zn (.store 6 (.tmp 9) (.tmp 46))]
def c107r17 : List Seg := [zA 47 6 9, zc 48 149 [.tmp 47], zv 10 48]
def c107r18 : List Seg := [zv 49 10, zK 50 .neq 49 0]
def c107r19 : List Seg := [zv 51 10, zv 2 51]
def c107t27 : aB := zd 50 (zs 19 2 c107r19 .ret) .skip
def c107t28 : aB := zs 18 2 c107r18 c107t27
def c107t29 : aB := zs 17 3 c107r17 c107t28
def c107r20 : List Seg := [zK 52 .add 43 1, zv 43 52]
def c107t31 : aB := .seq (.block 3 (zs 16 4 c107r16 c107t29)) (zr 20 2 c107r20)
def c107t32 : aB := .seq (zd 44 .skip (.exit 2)) c107t31
def c107b33 : aB := zs 15 1 c107r15 c107t32
def c107t34 : aB := .block 2 (.loop c107b33)
def c107t35 : aB := zs 14 4 c107r14 c107t34
def c107t36 : aB := .seq (zs 10 3 c107r10 c107t20) c107t35
def c107r21 : List Seg := [zK 53 .add 27 1, zv 27 53]
def c107t38 : aB := .seq (.block 1 (zs 9 4 c107r9 c107t36)) (zr 21 2 c107r21)
def c107t39 : aB := .seq (zd 28 .skip (.exit 0)) c107t38
def c107b40 : aB := zs 8 1 c107r8 c107t39
def c107t41 : aB := .block 0 (.loop c107b40)
def c107r22 : List Seg := [zf 54 6 1, zl 55 54, zL 56 55, zM 57 0]
def c107r23 : List Seg := [zB 58 .lss 57 56]
def c107r24 : List Seg := [zI 59 8 55 57, zA 60 8 59, zo 12 (.alloc [za, .t (.str (bs [])), .tt 3 [], .tt 13 [], .t (.bool false), za, .tt 8 [], .tt 5 []]), zn (.store 8 (.tmp 12) (.tmp 60))]
def c107r25 : List Seg := [zA 61 8 12, zc 62 107 [.tmp 61], zv 13 62]
def c107r26 : List Seg := [zv 63 13, zK 64 .neq 63 0]
def c107r27 : List Seg := [zv 65 13, zv 2 65]
def c107t48 : aB := zd 64 (zs 27 2 c107r27 .ret) .skip
def c107t49 : aB := zs 26 2 c107r26 c107t48
def c107t50 : aB := zs 25 3 c107r25 c107t49
def c107r28 : List Seg := [zK 66 .add 57 1, zv 57 66]
def c107t52 : aB := .seq (.block 5 (zs 24 4 c107r24 c107t50)) (zr 28 2 c107r28)
def c107t53 : aB := .seq (zd 58 .skip (.exit 4)) c107t52
def c107b54 : aB := zs 23 1 c107r23 c107t53
def c107t55 : aB := .block 4 (.loop c107b54)
def c107r29 : List Seg := [zM 2 0]
def c107t57 : aB := .seq (zs 22 4 c107r22 c107t55) (zs 29 1 c107r29 .ret)
def c107t58 : aB := .seq (zs 7 4 c107r7 c107t41) c107t57
def c107t59 : aB := .seq (zs 4 3 c107r4 c107t10) c107t58
def c107t60 : aB := .seq (zs 1 3 c107r1 c107t5) c107t59
def c107 : aB := zs 0 2 c107r0 c107t60
theorem k107 : Compiled Tryz.prog 107 67 [.tmp 2] c107 := .mk' [] Tryz.func107 rfl (by kernel_rfl) (by kernel_rfl)
def c108 : aB := zs 0 1 [zW 4 false] (zs 1 8 [zv 6 0, zC 7 6, zf 8 8 7, zl 9 8, zv 10 1, zI 11 1 9 10, zl 12 11, zv 5 12] (.seq (zs 2 9 [zv 13 0, zC 14 13, zf 15 0 14, zf 16 7 15, zl 17 16, zv 18 1, zI 19 5 17 18, zf 20 0 19, zl 21 20] (.block 0 (zs 3 2 [zK 23 .eql 21 0, zv 22 23] (zd 22 (zs 4 11 [zv 24 5, zK 25 .eql 24 0, zv 26 25, .grp 26 false [zg 27 (.mv (.tmp 5)) 26 false, zg 28 (.bin .eql false (.tmp 27) (zi 3)) 26 false], zQ 29 26 28, zv 30 29, .grp 30 false [zg 31 (.mv (.tmp 5)) 30 false, zg 32 (.bin .eql false (.tmp 31) (zi 4)) 30 false], zQ 33 30 32, zv 4 33] .ret) (zs 5 2 [zK 35 .eql 21 1, zv 34 35] (zd 34 (zs 6 7 [zv 36 5, zK 37 .eql 36 1, zv 38 37, .grp 38 false [zg 39 (.mv (.tmp 5)) 38 false, zg 40 (.bin .eql false (.tmp 39) (zi 4)) 38 false], zQ 41 38 40, zv 4 41] .ret) (zs 7 2 [zK 43 .eql 21 2, zv 42 43] (zd 42 (zs 8 7 [zv 44 5, zK 45 .eql 44 1, zv 46 45, .grp 46 false [zg 47 (.mv (.tmp 5)) 46 false, zg 48 (.bin .eql false (.tmp 47) (zi 2)) 46 false], zQ 49 46 48, zv 4 49] .ret) (zs 9 2 [zK 51 .eql 21 3, zv 50 51] (zd 50 (zs 10 11 [zv 52 5, zK 53 .eql 52 1, zv 54 53, .br 54 true [zg 55 (.mv (.tmp 0)) 54 true, zg 56 (.nilc (.tmp 55)) 54 true, zg 57 (.fa 0 (.tmp 56)) 54 true, zg 58 (.fa 0 (.tmp 57)) 54 true, zg 59 (.load 1 false (.tmp 58)) 54 true, zg 60 (.bin .eql false (.tmp 59) (zi 6)) 54 true], zP 61 54 60, zv 4 61] .ret) .skip)))))))))) (zs 11 1 [zW 4 true] .ret)))
theorem k108 : Compiled Tryz.prog 108 62 [.tmp 4] c108 := .mk' [] Tryz.func108 rfl (by kernel_rfl) (by kernel_rfl)
def c109 : aB := zs 0 1 [zo 4 (.alloc [za, za])] (.seq (zs 1 7 [zv 5 0, zC 6 5, zf 7 8 6, zl 8 7, zv 9 1, zI 10 1 8 9, zl 11 10] (.block 0 (zs 2 2 [zK 13 .eql 11 3, zv 12 13] (zd 12 (zs 3 7 [zv 14 0, zC 15 14, zf 16 0 15, zA 17 8 16, zc 18 91 [.tmp 17], zo 19 (.build [za, za] [(1, (1, .tmp 18))]), zn (.store 2 (.tmp 4) (.tmp 19))] .ret) (zs 4 2 [zK 21 .eql 11 4, zv 20 21] (zd 20 (zs 5 2 [zo 22 (.build [za, za] [(1, (1, zi 127))]), zn (.store 2 (.tmp 4) (.tmp 22))] .ret) .skip)))))) (zs 6 2 [zo 23 (.build [za, za] [(0, (1, zi (-1152921504606846976))), (1, (1, zi 1152921504606846976))]), zn (.store 2 (.tmp 4) (.tmp 23))] .ret))
theorem k109 : Compiled Tryz.prog 109 24 [.cell 4 2 true] c109 := .mk' [] Tryz.func109 rfl (by kernel_rfl) (by kernel_rfl)
def c110t8 : aB := zd 42 (zs 7 8 [zv 49 0, zC 50 49, zf 51 0 50, zf 52 1 51, zl 53 52, zv 54 5, zc 55 152 [.tmp 53, .tmp 54], zv 4 55] .ret) .skip
def c110t9 : aB := zd 32 (zs 5 4 [zv 39 5, zc 40 151 [.tmp 39, .con (.one (.t (.str (bs [48, 49]))))], zo 41 (.bin .eql false (.tmp 40) (.con (.one (.t (.str (bs [])))))), zv 4 41] .ret) (zs 6 7 [zv 43 0, zC 44 43, zf 45 0 44, zf 46 0 45, zl 47 46, zK 48 .eql 47 6, zv 42 48] c110t8)
def c110t10 : aB := zd 15 (zs 3 9 [zv 24 5, zo 25 (.bin .neq false (.tmp 24) (.con (.one (.t (.str (bs [])))))), zv 26 25, .br 26 true [zg 27 (.mv (.tmp 5)) 26 true, zg 28 (.iM (.tmp 27)) 26 true, .mk (some 29) (.call 122 [.tmp 28, .con (.one (.fn 150 []))]) (some (26, true)), zg 30 (.un .not (.tmp 29)) 26 true], zP 31 26 30, zv 4 31] .ret) (zs 4 7 [zv 33 0, zC 34 33, zf 35 0 34, zf 36 0 35, zl 37 36, zK 38 .eql 37 4, zv 32 38] c110t9)
def c110t12 : aB := .seq (.block 0 (zs 2 9 [zv 16 0, zC 17 16, zf 18 8 17, zl 19 18, zv 20 1, zI 21 1 19 20, zl 22 21, zK 23 .eql 22 4, zv 15 23] c110t10)) (zs 8 1 [zW 4 true] .ret)
def c110t13 : aB := zs 1 10 [zv 6 0, zC 7 6, zf 8 0 7, zf 9 7 8, zl 10 9, zv 11 1, zI 12 5 10 11, zf 13 3 12, zl 14 13, zv 5 14] c110t12
def c110 : aB := zs 0 1 [zW 4 false] c110t13
theorem k110 : Compiled Tryz.prog 110 56 [.tmp 4] c110 := .mk' [] Tryz.func110 rfl (by kernel_rfl) (by kernel_rfl)
def c118 : aB := zs 0 2 [zX 1 6 0, zM 2 0] (zs 1 3 [zo 4 (.build [za, .t (.bool false)] [(0, (1, zi 120))]), zX 5 2 4, zv 3 5] (.seq (zs 2 3 [zv 6 3, zA 7 6 1, zc 8 145 [.tmp 6, .tmp 7, zi 8]] (zs 3 4 [zv 9 3, zC 10 9, zf 11 1 10, zl 12 11] (zd 12 (zs 4 1 [zM 2 2] .ret) .skip))) (zs 5 3 [zA 13 6 1, zc 14 149 [.tmp 13], zv 2 14] .ret)))
theorem k118 : Compiled Tryz.prog 118 15 [.tmp 2] c118 := .mk' [] Tryz.func118 rfl (by kernel_rfl) (by kernel_rfl)
def c119 : aB := zs 0 3 [zX 2 8 0, zX 3 6 1, zW 4 false] (zs 1 2 [zo 6 (.bslice 1 15 [za, za, za, za, za, za, za, za, za, za, za, za, za, za, za] [(0, (1, zi 0)), (1, (1, zi 1)), (2, (1, zi 2)), (3, (1, zi 3)), (4, (1, zi 4)), (5, (1, zi 5)), (6, (1, zi 6)), (7, (1, zi 7)), (8, (1, zi 8)), (9, (1, zi 9)), (10, (1, zi 11)), (11, (1, zi 12)), (12, (1, zi 13)), (13, (1, zi 14)), (14, (1, zi 16))]), zv 5 6] (.seq (zs 2 8 [zf 7 0 3, zl 8 7, zK 9 .eql 8 9, zv 10 9, .grp 10 true [zg 11 (.fa 0 (.tmp 2)) 10 true, zg 12 (.load 1 false (.tmp 11)) 10 true, zg 13 (.bin .eql false (.tmp 12) (zi 10)) 10 true], zP 14 10 13] (zd 14 (zs 3 1 [zW 4 true] .ret) .skip)) (.seq (.region 4 true 21 [zv 15 5, zf 16 0 3, zl 17 16, zI 18 1 15 17, zl 19 18, zf 20 0 2, zl 21 20, zB 22 .eql 19 21, zv 23 22, .grp 23 true [zg 24 (.fa 0 (.tmp 2)) 23 true, zg 25 (.load 1 false (.tmp 24)) 23 true, zg 26 (.bin .neq false (.tmp 25) (zi 6)) 23 true, zg 27 (.mv (.tmp 26)) 23 true], .br 27 false [zg 28 (.fa 1 (.tmp 2)) 27 false, zg 29 (.load 1 false (.tmp 28)) 27 false, zg 30 (.fa 3 (.tmp 3)) 27 false, zg 31 (.load 1 false (.tmp 30)) 27 false, .mk (some 32) (.call 152 [.tmp 29, .tmp 31]) (some (27, false))], .grp 23 true [zg 33 (.pick (.tmp 27) (zb true) (.tmp 32)) 23 true], zP 34 23 33, zv 4 34]) .ret)))
theorem k119 : Compiled Tryz.prog 119 35 [.tmp 4] c119 := .mk' [] Tryz.func119 rfl (by kernel_rfl) (by kernel_rfl)
def c124 : aB := zs 0 1 [zW 4 false] (zs 1 5 [zv 5 0, zv 6 1, zc 7 157 [.tmp 5, .tmp 6], zK 8 .geq 7 0, zv 4 8] .ret)
theorem k124 : Compiled Tryz.prog 124 9 [.tmp 4] c124 := .mk' [] Tryz.func124 rfl (by kernel_rfl) (by kernel_rfl)
def c125 : aB := zs 0 1 [zW 4 false] (zs 1 5 [zl 5 1, zv 6 0, zA 7 6 2, zc 8 72 [.tmp 5, .tmp 6, .tmp 7], zv 4 8] .ret)
theorem k125 : Compiled Tryz.prog 125 9 [.tmp 4] c125 := .mk' [] Tryz.func125 rfl (by kernel_rfl) (by kernel_rfl)
def c144r0 : List Seg := [zW 4 false]
def c144r1 : List Seg := [zv 5 0, zC 6 5, zf 7 0 6, zl 8 7, zK 9 .sub 8 1, zC 10 5, zf 11 0 10, zn (.store 1 (.tmp 11) (.tmp 9))]
def c144r2 : List Seg := [zv 12 0, zv 13 0, zC 14 13, zf 15 1 14, zl 16 15, zv 17 16, .br 17 false [zg 18 (.mv (.tmp 0)) 17 false, zg 19 (.nilc (.tmp 18)) 17 false, zg 20 (.fa 0 (.tmp 19)) 17 false, zg 21 (.load 1 false (.tmp 20)) 17 false, zg 22 (.bin .lss false (.tmp 21) (zi 0)) 17 false], zQ 23 17 22, zv 24 23, .grp 24 false [zg 25 (.mv (.tmp 1)) 24 false, zg 26 (.bin .lss false (.tmp 25) (zi 1)) 24 false], zQ 27 24 26, zC 28 12, zf 29 1 28, zn (.store 1 (.tmp 29) (.tmp 27))]
def c144r3 : List Seg := [zv 30 0, zC 31 30, zf 32 1 31, zl 33 32, zN 34 33, zv 4 34]
def c144 : aB := zs 0 1 c144r0 (zs 1 8 c144r1 (zs 2 19 c144r2 (zs 3 6 c144r3 .ret)))
theorem k144 : Compiled Tryz.prog 144 35 [.tmp 4] c144 := .mk' [] Tryz.func144 rfl (by kernel_rfl) (by kernel_rfl)
def c145r0 : List Seg := [zX 4 6 1]
def c145r1 : List Seg := [zv 8 0, zv 9 2, zc 10 144 [.tmp 8, .tmp 9], zN 11 10]
def c145r2 : List Seg := [zf 12 5 4, zl 13 12, zL 14 13, zM 15 0]
def c145r3 : List Seg := [zB 16 .lss 15 14]
def c145r4 : List Seg := [zI 17 6 13 15, zA 18 6 17, zo 7 (.alloc [za, za, za, .t (.str (bs [])), .tt 1 [], .tt 6 []]), zn (.store 6 (.tmp 7) (.tmp 18))]
def c145r5 : List Seg := [zv 19 0, zC 20 19, zf 21 1 20, zl 22 21]
def c145r6 : List Seg := [zv 23 0, zA 24 6 7, zv 25 2, zK 26 .sub 25 1, zc 27 145 [.tmp 23, .tmp 24, .tmp 26]]
def c145r7 : List Seg := [zK 28 .add 15 1, zv 15 28]
def c145b8 : aB := zs 3 1 c145r3 (.seq (zd 16 .skip (.exit 0)) (.seq (.block 1 (zs 4 4 c145r4 (.seq (zs 5 4 c145r5 (zd 22 .ret .skip)) (zr 6 5 c145r6)))) (zr 7 2 c145r7)))
def c145 : aB := zs 0 1 c145r0 (.seq (zs 1 4 c145r1 (zd 11 .ret .skip)) (zs 2 4 c145r2 (.block 0 (.loop c145b8))))
theorem k145 : Compiled Tryz.prog 145 29 [] c145 := .mk' [] Tryz.func145 rfl (by kernel_rfl) (by kernel_rfl)
def c146r0 : List Seg := [zX 1 8 0, zM 2 0]
def c146r1 : List Seg := [zf 7 0 1, zl 8 7, zc 9 170 [.tmp 8, zi 0, zi 15], zN 10 9]
def c146r2 : List Seg := [zM 2 4]
def c146r3 : List Seg := [zf 11 2 1, zl 12 11, zL 13 12, zK 14 .gtr 13 3, zv 15 14, .grp 15 false [zg 16 (.fa 3 (.tmp 1)) 15 false, zg 17 (.load 1 false (.tmp 16)) 15 false, zg 18 (.len false (.tmp 17)) 15 false, zg 19 (.bin .gtr false (.tmp 18) (zi 16)) 15 false], zQ 20 15 19, zv 21 20, .grp 21 false [zg 22 (.fa 0 (.tmp 1)) 21 false, zg 23 (.load 1 false (.tmp 22)) 21 false, zg 24 (.bin .eql false (.tmp 23) (zi 15)) 21 false, zg 25 (.mv (.tmp 24)) 21 false], .grp 25 true [zg 26 (.fa 3 (.tmp 1)) 25 true, zg 27 (.load 1 false (.tmp 26)) 25 true, zg 28 (.len false (.tmp 27)) 25 true, zg 29 (.bin .gtr false (.tmp 28) (zi 4)) 25 true], .grp 21 false [zg 30 (.pick (.tmp 25) (.tmp 29) (zb false)) 21 false], zQ 31 21 30]
def c146r4 : List Seg := [zM 2 2]
def c146r5 : List Seg := [zf 32 2 1, zl 33 32, zL 34 33, zM 35 0]
def c146r6 : List Seg := [zB 36 .lss 35 34]
def c146r7 : List Seg := [zI 37 3 33 35, zA 38 3 37, zo 4 (.alloc [za, za, za]), zn (.store 3 (.tmp 4) (.tmp 38))]
def c146r8 : List Seg := [zf 39 0 4, zl 40 39, zc 41 170 [.tmp 40, zi 1, zi 3], zN 42 41, zv 43 42, .br 43 false [zg 44 (.fa 1 (.tmp 4)) 43 false, zg 45 (.load 1 false (.tmp 44)) 43 false, .mk (some 46) (.call 170 [.tmp 45, zi 0, zi 100000]) (some (43, false)), zg 47 (.un .not (.tmp 46)) 43 false], zQ 48 43 47, zv 49 48, .br 49 false [zg 50 (.fa 2 (.tmp 4)) 49 false, zg 51 (.load 1 false (.tmp 50)) 49 false, .mk (some 52) (.call 170 [.tmp 51, zi 0, zi 2]) (some (49, false)), zg 53 (.un .not (.tmp 52)) 49 false], zQ 54 49 53]
def c146r9 : List Seg := [zM 2 3]
def c146r10 : List Seg := [zK 55 .add 35 1, zv 35 55]
def c146b11 : aB := zs 6 1 c146r6 (.seq (zd 36 .skip (.exit 0)) (.seq (.block 1 (zs 7 4 c146r7 (zs 8 16 c146r8 (zd 54 (zs 9 1 c146r9 .ret) .skip)))) (zr 10 2 c146r10)))
def c146r11 : List Seg := [zf 56 3 1, zl 57 56, zL 58 57, zM 59 0]
def c146r12 : List Seg := [zB 60 .lss 59 58]
def c146r13 : List Seg := [zI 61 13 57 59, zA 62 13 61, zo 6 (.alloc [.t (.str (bs [])), za, za, .t (.str (bs [])), .tt 3 [], .tt 13 [], .t (.bool false), za, .tt 8 [], .tt 5 [], za, .tt 6 [], za]), zn (.store 13 (.tmp 6) (.tmp 62))]
def c146r14 : List Seg := [zf 63 10 6, zl 64 63, zc 65 170 [.tmp 64, zi 0, zi 2], zN 66 65, zv 67 66, .grp 67 false [zg 68 (.fa 12 (.tmp 6)) 67 false, zg 69 (.load 1 false (.tmp 68)) 67 false, zg 70 (.bin .lss false (.tmp 69) (zi 0)) 67 false], zQ 71 67 70]
def c146r15 : List Seg := [zM 2 3]
def c146r16 : List Seg := [zK 72 .add 59 1, zv 59 72]
def c146b18 : aB := zs 12 1 c146r12 (.seq (zd 60 .skip (.exit 2)) (.seq (.block 3 (zs 13 4 c146r13 (zs 14 9 c146r14 (zd 71 (zs 15 1 c146r15 .ret) .skip)))) (zr 16 2 c146r16)))
def c146r17 : List Seg := [zf 73 5 1, zl 74 73, zf 75 3 1, zl 76 75, zL 77 76, zc 78 170 [.tmp 74, zi 0, .tmp 77], zc 79 171 [.tmp 78, zi 3], zv 2 79]
def c146 : aB := zs 0 2 c146r0 (.seq (zs 1 4 c146r1 (zd 10 (zs 2 1 c146r2 .ret) .skip)) (.seq (zs 3 21 c146r3 (zd 31 (zs 4 1 c146r4 .ret) .skip)) (.seq (zs 5 4 c146r5 (.block 0 (.loop c146b11))) (.seq (zs 11 4 c146r11 (.block 2 (.loop c146b18))) (zs 17 8 c146r17 .ret)))))
theorem k146 : Compiled Tryz.prog 146 80 [.tmp 2] c146 := .mk' [] Tryz.func146 rfl (by kernel_rfl) (by kernel_rfl)
def c147t8 : aB := zd 130 (zs 7 1 [zM 2 5] .ret) .skip
def c147t12 : aB := zd 141 (zs 10 2 [zv 142 7, zv 2 142] .ret) .skip
def c147t13 : aB := zs 9 2 [zv 140 7, zK 141 .neq 140 0] c147t12
def c147t16 : aB := .seq (.seq (.region 8 true 10 [zA 131 8 1, zc 132 180 [.tmp 131], zc 133 171 [.tmp 132, zi 6], zA 134 8 1, zc 135 181 [.tmp 134], zA 136 8 1, zc 137 182 [.tmp 136], zo 138 (.bslice 1 3 [za, za, za] [(0, (1, .tmp 133)), (1, (1, .tmp 135)), (2, (1, .tmp 137))]), zc 139 179 [.tmp 138], zv 7 139]) c147t13) (zs 11 10 [zf 143 0 1, zl 144 143, zK 145 .neq 144 3, zv 146 145, .br 146 false [zg 147 (.fa 3 (.tmp 1)) 146 false, zg 148 (.load 1 false (.tmp 147)) 146 false, .mk (some 149) (.call 173 [.tmp 148, .con (.one (.fn 183 []))]) (some (146, false)), zg 150 (.un .not (.tmp 149)) 146 false], zQ 151 146 150, zv 8 151] (zs 12 14 [zf 152 0 1, zl 153 152, zc 154 172 [.tmp 153], zN 155 154, zv 156 155, .br 156 false [zg 157 (.load 8 true (.tmp 1)) 156 false, .mk (some 158) (.call 185 [.tmp 157]) (some (156, false))], zQ 159 156 158, zc 160 171 [.tmp 159, zi 14], zv 161 8, zc 162 171 [.tmp 161, zi 3], zo 163 (.bslice 1 2 [za, za] [(0, (1, .tmp 160)), (1, (1, .tmp 162))]), zc 164 179 [.tmp 163], zv 2 164] .ret))
def c147t17 : aB := .seq (zs 6 73 [zv 58 3, zN 59 58, zv 60 59, .grp 60 true [zg 61 (.fa 1 (.tmp 1)) 60 true, zg 62 (.load 1 false (.tmp 61)) 60 true, zg 63 (.bin .neq false (.tmp 62) (.con (.one (.t (.str (bs [])))))) 60 true], zP 64 60 63, zv 65 64, .grp 65 false [zg 66 (.mv (.tmp 5)) 65 false, zg 67 (.un .not (.tmp 66)) 65 false, zg 68 (.mv (.tmp 67)) 65 false], .grp 68 true [zg 69 (.fa 3 (.tmp 1)) 68 true, zg 70 (.load 1 false (.tmp 69)) 68 true, zg 71 (.len false (.tmp 70)) 68 true, zg 72 (.bin .gtr false (.tmp 71) (zi 0)) 68 true], .grp 65 false [zg 73 (.pick (.tmp 68) (.tmp 72) (zb false)) 65 false], zQ 74 65 73, zv 75 74, .grp 75 false [zg 76 (.mv (.tmp 4)) 75 false, zg 77 (.un .not (.tmp 76)) 75 false, zg 78 (.mv (.tmp 77)) 75 false], .grp 78 true [zg 79 (.fa 4 (.tmp 1)) 78 true, zg 80 (.load 1 false (.tmp 79)) 78 true, zg 81 (.mv (.tmp 80)) 78 true], .grp 81 false [zg 82 (.fa 5 (.tmp 1)) 81 false, zg 83 (.load 1 false (.tmp 82)) 81 false, zg 84 (.bin .neq false (.tmp 83) (zi 0)) 81 false], .grp 78 true [zg 85 (.pick (.tmp 81) (zb true) (.tmp 84)) 78 true], .grp 75 false [zg 86 (.pick (.tmp 78) (.tmp 85) (zb false)) 75 false], zQ 87 75 86, zv 88 87, .grp 88 false [zg 89 (.mv (.tmp 4)) 88 false, zg 90 (.mv (.tmp 89)) 88 false], .grp 90 true [zg 91 (.fa 4 (.tmp 1)) 90 true, zg 92 (.load 1 false (.tmp 91)) 90 true, zg 93 (.un .not (.tmp 92)) 90 true], .grp 88 false [zg 94 (.pick (.tmp 90) (.tmp 93) (zb false)) 88 false, zg 95 (.mv (.tmp 94)) 88 false], .grp 95 true [zg 96 (.fa 5 (.tmp 1)) 95 true, zg 97 (.load 1 false (.tmp 96)) 95 true, zg 98 (.fa 3 (.tmp 1)) 95 true, zg 99 (.load 1 false (.tmp 98)) 95 true, zg 100 (.len false (.tmp 99)) 95 true, zg 101 (.bin .neq false (.tmp 97) (.tmp 100)) 95 true], .grp 88 false [zg 102 (.pick (.tmp 95) (.tmp 101) (zb false)) 88 false], zQ 103 88 102, zv 104 103, .br 104 false [zg 105 (.fa 0 (.tmp 1)) 104 false, zg 106 (.load 1 false (.tmp 105)) 104 false, .mk (some 107) (.call 177 [.tmp 106]) (some (104, false)), zg 108 (.un .not (.tmp 107)) 104 false, zg 109 (.mv (.tmp 108)) 104 false], .grp 109 true [zg 110 (.fa 6 (.tmp 1)) 109 true, zg 111 (.load 1 false (.tmp 110)) 109 true, zg 112 (.len false (.tmp 111)) 109 true, zg 113 (.bin .gtr false (.tmp 112) (zi 0)) 109 true], .grp 104 false [zg 114 (.pick (.tmp 109) (.tmp 113) (zb false)) 104 false], zQ 115 104 114, zv 116 115, .br 116 false [zg 117 (.fa 0 (.tmp 1)) 116 false, zg 118 (.load 1 false (.tmp 117)) 116 false, .mk (some 119) (.call 178 [.tmp 118]) (some (116, false)), zg 120 (.un .not (.tmp 119)) 116 false, zg 121 (.mv (.tmp 120)) 116 false], .grp 121 true [zg 122 (.fa 7 (.tmp 1)) 121 true, zg 123 (.load 1 false (.tmp 122)) 121 true, zg 124 (.len false (.tmp 123)) 121 true, zg 125 (.bin .gtr false (.tmp 124) (zi 0)) 121 true], .grp 116 false [zg 126 (.pick (.tmp 121) (.tmp 125) (zb false)) 116 false], zQ 127 116 126, zv 128 127, .grp 128 false [zg 129 (.mv (.tmp 6)) 128 false], zQ 130 128 129] c147t8) c147t16
def c147t18 : aB := zs 5 14 [zv 45 6, zv 46 45, .br 46 false [zg 47 (.fa 3 (.tmp 1)) 46 false, zg 48 (.load 1 false (.tmp 47)) 46 false, zg 49 (.fa 5 (.tmp 1)) 46 false, zg 50 (.load 1 false (.tmp 49)) 46 false, zg 51 (.fa 3 (.tmp 1)) 46 false, zg 52 (.load 1 false (.tmp 51)) 46 false, zg 53 (.len false (.tmp 52)) 46 false, zg 54 (.mm false [.tmp 50, .tmp 53]) 46 false, zg 55 (.sl false 13 (.tmp 48) none (some (.tmp 54)) none) 46 false, .mk (some 56) (.call 173 [.tmp 55, .con (.one (.fn 176 []))]) (some (46, false))], zQ 57 46 56, zv 6 57] c147t17
def c147t19 : aB := zs 4 5 [zf 41 3 1, zl 42 41, zo 43 (.mkfn 174 [.tmp 1]), zc 44 173 [.tmp 42, .tmp 43], zv 6 44] c147t18
def c147t20 : aB := zs 3 12 [zv 30 4, zv 31 30, .grp 31 false [zg 32 (.fa 0 (.tmp 1)) 31 false, zg 33 (.load 1 false (.tmp 32)) 31 false, zg 34 (.bin .eql false (.tmp 33) (zi 14)) 31 false], zQ 35 31 34, zv 36 35, .grp 36 false [zg 37 (.fa 0 (.tmp 1)) 36 false, zg 38 (.load 1 false (.tmp 37)) 36 false, zg 39 (.bin .eql false (.tmp 38) (zi 15)) 36 false], zQ 40 36 39, zv 5 40] c147t19
def c147t21 : aB := zs 2 9 [zf 22 0 1, zl 23 22, zc 24 172 [.tmp 23], zv 25 24, .grp 25 false [zg 26 (.fa 0 (.tmp 1)) 25 false, zg 27 (.load 1 false (.tmp 26)) 25 false, zg 28 (.bin .eql false (.tmp 27) (zi 3)) 25 false], zQ 29 25 28, zv 4 29] c147t20
def c147t22 : aB := zs 1 14 [zf 9 0 1, zl 10 9, zK 11 .eql 10 6, zv 12 11, .grp 12 false [zg 13 (.fa 0 (.tmp 1)) 12 false, zg 14 (.load 1 false (.tmp 13)) 12 false, zg 15 (.bin .eql false (.tmp 14) (zi 14)) 12 false], zQ 16 12 15, zv 17 16, .grp 17 false [zg 18 (.fa 0 (.tmp 1)) 17 false, zg 19 (.load 1 false (.tmp 18)) 17 false, zg 20 (.bin .eql false (.tmp 19) (zi 15)) 17 false], zQ 21 17 20, zv 3 21] c147t21
def c147 : aB := zs 0 2 [zX 1 8 0, zM 2 0] c147t22
theorem k147 : Compiled Tryz.prog 147 165 [.tmp 2] c147 := .mk' [] Tryz.func147 rfl (by kernel_rfl) (by kernel_rfl)
def c149t4 : aB := zd 10 (zs 3 2 [zv 11 3, zv 2 11] .ret) .skip
def c149t5 : aB := zs 2 2 [zv 9 3, zK 10 .neq 9 0] c149t4
def c149t12 : aB := zd 22 (zs 9 2 [zv 23 6, zv 2 23] .ret) .skip
def c149t13 : aB := zs 8 2 [zv 21 6, zK 22 .neq 21 0] c149t12
def c149t14 : aB := zs 7 3 [zA 19 6 5, zc 20 149 [.tmp 19], zv 6 20] c149t13
def c149t16 : aB := .seq (.block 1 (zs 6 4 [zI 17 6 13 15, zA 18 6 17, zo 5 (.alloc [za, za, za, .t (.str (bs [])), .tt 1 [], .tt 6 []]), zn (.store 6 (.tmp 5) (.tmp 18))] c149t14)) (zr 10 2 [zK 24 .add 15 1, zv 15 24])
def c149t17 : aB := .seq (zd 16 .skip (.exit 0)) c149t16
def c149b18 : aB := zs 5 1 [zB 16 .lss 15 14] c149t17
def c149t19 : aB := .block 0 (.loop c149b18)
def c149t21 : aB := .seq (zs 4 4 [zf 12 5 1, zl 13 12, zL 14 13, zM 15 0] c149t19) (zs 11 1 [zM 2 0] .ret)
def c149t22 : aB := .seq (zs 1 3 [zA 7 6 1, zc 8 186 [.tmp 7], zv 3 8] c149t5) c149t21
def c149 : aB := zs 0 2 [zX 1 6 0, zM 2 0] c149t22
theorem k149 : Compiled Tryz.prog 149 25 [.tmp 2] c149 := .mk' [] Tryz.func149 rfl (by kernel_rfl) (by kernel_rfl)
def c157b7 : aB := zs 2 1 [zB 9 .lss 8 7] (.seq (zd 9 .skip (.exit 0)) (.seq (.block 1 (zs 3 2 [zv 10 8, zv 5 10] (zs 4 6 [zv 11 1, zv 12 0, zv 13 5, zI 14 1 12 13, zl 15 14, .one (.mk (some 16) (.callv (.tmp 11) [.tmp 15]) none)] (zd 16 (zs 5 2 [zv 17 5, zv 4 17] .ret) .skip)))) (zr 6 2 [zK 18 .add 8 1, zv 8 18])))
def c157 : aB := zs 0 1 [zM 4 0] (.seq (zs 1 3 [zv 6 0, zL 7 6, zM 8 0] (.block 0 (.loop c157b7))) (zs 7 1 [zM 4 (-1)] .ret))
theorem k157 : Compiled Tryz.prog 157 19 [.tmp 4] c157 := .mk' [] Tryz.func157 rfl (by kernel_rfl) (by kernel_rfl)
def c170 : aB := zs 0 1 [zW 6 false] (zs 1 9 [zv 7 1, zv 8 0, zB 9 .leq 7 8, zv 10 9, .grp 10 true [zg 11 (.mv (.tmp 0)) 10 true, zg 12 (.mv (.tmp 2)) 10 true, zg 13 (.bin .leq false (.tmp 11) (.tmp 12)) 10 true], zP 14 10 13, zv 6 14] .ret)
theorem k170 : Compiled Tryz.prog 170 15 [.tmp 6] c170 := .mk' [] Tryz.func170 rfl (by kernel_rfl) (by kernel_rfl)
def c171 : aB := zs 0 1 [zM 4 0] (.seq (zs 1 1 [zv 5 0] (zd 5 (zs 2 1 [zM 4 0] .ret) .skip)) (zs 3 2 [zv 6 1, zv 4 6] .ret))
theorem k171 : Compiled Tryz.prog 171 7 [.tmp 4] c171 := .mk' [] Tryz.func171 rfl (by kernel_rfl) (by kernel_rfl)
def c172 : aB := zs 0 1 [zW 2 false] (zs 1 7 [zv 3 0, zc 4 212 [.tmp 3], zv 5 4, .grp 5 false [zg 6 (.mv (.tmp 0)) 5 false, zg 7 (.bin .eql false (.tmp 6) (zi 13)) 5 false], zQ 8 5 7, zv 2 8] .ret)
theorem k172 : Compiled Tryz.prog 172 9 [.tmp 2] c172 := .mk' [] Tryz.func172 rfl (by kernel_rfl) (by kernel_rfl)
def c173r0 : List Seg := [zW 4 false]
def c173r1 : List Seg := [zv 5 0, zv 6 1, zc 7 213 [.tmp 5, .tmp 6], zK 8 .geq 7 0, zv 4 8]
def c173 : aB := zs 0 1 c173r0 (zs 1 5 c173r1 .ret)
theorem k173 : Compiled Tryz.prog 173 9 [.tmp 4] c173 := .mk' [] Tryz.func173 rfl (by kernel_rfl) (by kernel_rfl)
def c177 : aB := zs 0 1 [zW 2 false] (zs 1 7 [zv 3 0, zK 4 .eql 3 11, zv 5 4, .grp 5 false [zg 6 (.mv (.tmp 0)) 5 false, zg 7 (.bin .eql false (.tmp 6) (zi 12)) 5 false], zQ 8 5 7, zv 2 8] .ret)
theorem k177 : Compiled Tryz.prog 177 9 [.tmp 2] c177 := .mk' [] Tryz.func177 rfl (by kernel_rfl) (by kernel_rfl)
def c178 : aB := zs 0 1 [zW 2 false] (zs 1 8 [zv 3 0, zc 4 177 [.tmp 3], zv 5 4, .br 5 false [zg 6 (.bslice 1 5 [za, za, za, za, za] [(0, (1, zi 2)), (1, (1, zi 4)), (2, (1, zi 5)), (3, (1, zi 6)), (4, (1, zi 15))]) 5 false, zg 7 (.mv (.tmp 0)) 5 false, .mk (some 8) (.call 215 [.tmp 6, .tmp 7]) (some (5, false))], zQ 9 5 8, zv 2 9] .ret)
theorem k178 : Compiled Tryz.prog 178 10 [.tmp 2] c178 := .mk' [] Tryz.func178 rfl (by kernel_rfl) (by kernel_rfl)
def c179b7 : aB := zs 2 1 [zB 8 .lss 7 6] (.seq (zd 8 .skip (.exit 0)) (.seq (.block 1 (zs 3 3 [zI 9 1 5 7, zl 10 9, zv 4 10] (zs 4 2 [zv 11 4, zK 12 .neq 11 0] (zd 12 (zs 5 2 [zv 13 4, zv 2 13] .ret) .skip)))) (zr 6 2 [zK 14 .add 7 1, zv 7 14])))
def c179 : aB := zs 0 1 [zM 2 0] (.seq (zs 1 3 [zv 5 0, zL 6 5, zM 7 0] (.block 0 (.loop c179b7))) (zs 7 1 [zM 2 0] .ret))
theorem k179 : Compiled Tryz.prog 179 15 [.tmp 2] c179 := .mk' [] Tryz.func179 rfl (by kernel_rfl) (by kernel_rfl)
def c180t3 : aB := zd 28 (zs 2 1 [zW 2 false] .ret) .skip
def c180t7 : aB := zd 56 (zs 5 1 [zW 2 false] .ret) .skip
def c180t8 : aB := zs 4 25 [zf 32 0 1, zl 33 32, zK 34 .eql 33 14, zv 35 34, .grp 35 true [zg 36 (.fa 1 (.tmp 1)) 35 true, zg 37 (.load 1 false (.tmp 36)) 35 true, zg 38 (.bin .eql false (.tmp 37) (.con (.one (.t (.str (bs [])))))) 35 true, zg 39 (.mv (.tmp 38)) 35 true], .grp 39 true [zg 40 (.mv (.tmp 3)) 39 true, zg 41 (.bin .gtr false (.tmp 40) (zi 0)) 39 true], .grp 35 true [zg 42 (.pick (.tmp 39) (.tmp 41) (zb false)) 35 true, zg 43 (.mv (.tmp 42)) 35 true], .grp 43 false [zg 44 (.fa 1 (.tmp 1)) 43 false, zg 45 (.load 1 false (.tmp 44)) 43 false, zg 46 (.bin .neq false (.tmp 45) (.con (.one (.t (.str (bs [])))))) 43 false, zg 47 (.mv (.tmp 46)) 43 false], .grp 47 true [zg 48 (.mv (.tmp 3)) 47 true, zg 49 (.bin .neq false (.tmp 48) (zi 2)) 47 true], .grp 43 false [zg 50 (.pick (.tmp 47) (.tmp 49) (zb false)) 43 false, zg 51 (.mv (.tmp 50)) 43 false], .grp 51 true [zg 52 (.mv (.tmp 3)) 51 true, zg 53 (.bin .neq false (.tmp 52) (zi 3)) 51 true], .grp 43 false [zg 54 (.pick (.tmp 51) (.tmp 53) (zb false)) 43 false], .grp 35 true [zg 55 (.pick (.tmp 43) (zb true) (.tmp 54)) 35 true], zP 56 35 55] c180t7
def c180t11 : aB := .seq (zs 3 4 [zf 29 3 1, zl 30 29, zL 31 30, zv 3 31] c180t8) (zs 6 1 [zo 4 (.mv (.con (.one (.fn 216 []))))] (zs 7 11 [zf 57 3 1, zl 58 57, zv 59 4, zc 60 173 [.tmp 58, .tmp 59], zN 61 60, zv 62 61, .br 62 true [zg 63 (.fa 7 (.tmp 1)) 62 true, zg 64 (.load 1 false (.tmp 63)) 62 true, .mk (some 65) (.call 217 [.tmp 64]) (some (62, true))], zP 66 62 65, zv 2 66] .ret))
def c180t12 : aB := .seq (zs 1 24 [zf 5 0 1, zl 6 5, zc 7 177 [.tmp 6], zv 8 7, .grp 8 true [zg 9 (.fa 6 (.tmp 1)) 8 true, zg 10 (.load 1 false (.tmp 9)) 8 true, zg 11 (.len false (.tmp 10)) 8 true, zg 12 (.bin .neq false (.tmp 11) (zi 1)) 8 true], zP 13 8 12, zv 14 13, .grp 14 false [zg 15 (.fa 0 (.tmp 1)) 14 false, zg 16 (.load 1 false (.tmp 15)) 14 false, zg 17 (.bin .eql false (.tmp 16) (zi 3)) 14 false, zg 18 (.mv (.tmp 17)) 14 false], .grp 18 false [zg 19 (.fa 0 (.tmp 1)) 18 false, zg 20 (.load 1 false (.tmp 19)) 18 false, zg 21 (.bin .eql false (.tmp 20) (zi 13)) 18 false], .grp 14 false [zg 22 (.pick (.tmp 18) (zb true) (.tmp 21)) 14 false, zg 23 (.mv (.tmp 22)) 14 false], .grp 23 true [zg 24 (.fa 5 (.tmp 1)) 23 true, zg 25 (.load 1 false (.tmp 24)) 23 true, zg 26 (.bin .lss false (.tmp 25) (zi 1)) 23 true], .grp 14 false [zg 27 (.pick (.tmp 23) (.tmp 26) (zb false)) 14 false], zQ 28 14 27] c180t3) c180t11
def c180 : aB := zs 0 2 [zX 1 8 0, zW 2 false] c180t12
theorem k180 : Compiled Tryz.prog 180 67 [.tmp 2] c180 := .mk' [] Tryz.func180 rfl (by kernel_rfl) (by kernel_rfl)
def c181t9 : aB := zd 28 (zs 8 1 [zM 2 7] .ret) .skip
def c181t10 : aB := zd 18 (zs 7 9 [zf 20 1 1, zl 21 20, zo 22 (.bin .neq false (.tmp 21) (.con (.one (.t (.str (bs [])))))), zv 23 22, .br 23 true [zg 24 (.fa 1 (.tmp 1)) 23 true, zg 25 (.load 1 false (.tmp 24)) 23 true, .mk (some 26) (.call 219 [.tmp 25]) (some (23, true)), zg 27 (.un .not (.tmp 26)) 23 true], zP 28 23 27] c181t9) .skip
def c181t11 : aB := zd 12 (zs 5 5 [zf 14 1 1, zl 15 14, zc 16 219 [.tmp 15], zc 17 171 [.tmp 16, zi 7], zv 2 17] .ret) (zs 6 2 [zK 19 .eql 4 14, zv 18 19] c181t10)
def c181t12 : aB := zd 5 (zs 3 6 [zo 7 (.bslice 1 4 [.t (.str (bs [])), .t (.str (bs [])), .t (.str (bs [])), .t (.str (bs []))] [(0, (1, .con (.one (.t (.str (bs [78, 117, 109, 101, 114, 105, 99, 83, 116, 114, 105, 110, 103])))))), (1, (1, .con (.one (.t (.str (bs [80, 114, 105, 110, 116, 97, 98, 108, 101, 83, 116, 114, 105, 110, 103])))))), (2, (1, .con (.one (.t (.str (bs [86, 105, 115, 105, 98, 108, 101, 83, 116, 114, 105, 110, 103])))))), (3, (1, .con (.one (.t (.str (bs [73, 65, 53, 83, 116, 114, 105, 110, 103]))))))]), zf 8 1 1, zl 9 8, zc 10 218 [.tmp 7, .tmp 9], zc 11 171 [.tmp 10, zi 7], zv 2 11] .ret) (zs 4 2 [zK 13 .eql 4 15, zv 12 13] c181t11)
def c181t13 : aB := .block 0 (zs 2 2 [zK 6 .eql 4 6, zv 5 6] c181t12)
def c181t15 : aB := .seq (zs 1 2 [zf 3 0 1, zl 4 3] c181t13) (zs 9 6 [zf 29 3 1, zl 30 29, zc 31 173 [.tmp 30, .con (.one (.fn 220 []))], zN 32 31, zc 33 171 [.tmp 32, zi 7], zv 2 33] .ret)
def c181 : aB := zs 0 2 [zX 1 8 0, zM 2 0] c181t15
theorem k181 : Compiled Tryz.prog 181 34 [.tmp 2] c181 := .mk' [] Tryz.func181 rfl (by kernel_rfl) (by kernel_rfl)
def c182t3 : aB := zd 12 (zs 2 1 [zM 2 0] .ret) .skip
def c182t9 : aB := zd 26 (zs 7 1 [zM 2 13] .ret) .skip
def c182t10 : aB := zs 6 6 [zf 21 3 1, zl 22 21, zv 23 3, zo 24 (.sl false 13 (.tmp 22) none (some (.tmp 23)) none), zo 25 (.mkfn 221 [.tmp 4, .tmp 1]), zc 26 173 [.tmp 24, .tmp 25]] c182t9
def c182t12 : aB := .seq (.block 1 (zs 5 6 [zv 18 16, zI 19 13 14 16, zA 20 13 19, zo 4 (.alloc [.t (.str (bs [])), za, za, .t (.str (bs [])), .tt 3 [], .tt 13 [], .t (.bool false), za, .tt 8 [], .tt 5 [], za, .tt 6 [], za]), zv 3 18, zn (.store 13 (.tmp 4) (.tmp 20))] c182t10)) (zr 8 2 [zK 27 .add 16 1, zv 16 27])
def c182t13 : aB := .seq (zd 17 .skip (.exit 0)) c182t12
def c182b14 : aB := zs 4 1 [zB 17 .lss 16 15] c182t13
def c182t15 : aB := .block 0 (.loop c182b14)
def c182t17 : aB := .seq (zs 3 4 [zf 13 3 1, zl 14 13, zL 15 14, zM 16 0] c182t15) (zs 9 1 [zM 2 0] .ret)
def c182t18 : aB := .seq (zs 1 8 [zf 5 0 1, zl 6 5, zK 7 .eql 6 15, zv 8 7, .grp 8 false [zg 9 (.fa 0 (.tmp 1)) 8 false, zg 10 (.load 1 false (.tmp 9)) 8 false, zg 11 (.bin .eql false (.tmp 10) (zi 14)) 8 false], zQ 12 8 11] c182t3) c182t17
def c182 : aB := zs 0 2 [zX 1 8 0, zM 2 0] c182t18
theorem k182 : Compiled Tryz.prog 182 28 [.tmp 2] c182 := .mk' [] Tryz.func182 rfl (by kernel_rfl) (by kernel_rfl)
def c184 : aB := zs 0 1 [zW 2 false] (zs 1 3 [zv 3 0, zc 4 170 [.tmp 3, zi (-1152921504606846976), zi 1152921504606846976], zv 2 4] .ret)
theorem k184 : Compiled Tryz.prog 184 5 [.tmp 2] c184 := .mk' [] Tryz.func184 rfl (by kernel_rfl) (by kernel_rfl)
def c185t8 : aB := zd 44 (zs 7 1 [zW 2 false] .ret) .skip
def c185t10 : aB := .seq (zs 6 2 [zv 43 7, zN 44 43] c185t8) (.region 8 true 8 [zv 45 3, zf 46 12 6, zl 47 46, zo 48 (.mm true [.tmp 45, .tmp 47]), zf 49 12 6, zl 50 49, zv 3 48, zv 4 50])
def c185t11 : aB := zs 5 28 [zf 16 12 6, zl 17 16, zK 18 .eql 17 0, zv 19 18, .grp 19 false [zg 20 (.mv (.tmp 5)) 19 false, zg 21 (.fa 5 (.tmp 1)) 19 false, zg 22 (.load 1 false (.tmp 21)) 19 false, zg 23 (.bin .geq false (.tmp 20) (.tmp 22)) 19 false, zg 24 (.mv (.tmp 23)) 19 false], .grp 24 true [zg 25 (.fa 12 (.tmp 6)) 24 true, zg 26 (.load 1 false (.tmp 25)) 24 true, zg 27 (.mv (.tmp 3)) 24 true, zg 28 (.bin .add false (.tmp 27) (zi 1)) 24 true, zg 29 (.bin .eql false (.tmp 26) (.tmp 28)) 24 true, zg 30 (.mv (.tmp 29)) 24 true], .grp 30 false [zg 31 (.fa 12 (.tmp 6)) 30 false, zg 32 (.load 1 false (.tmp 31)) 30 false, zg 33 (.mv (.tmp 3)) 30 false, zg 34 (.bin .eql false (.tmp 32) (.tmp 33)) 30 false, zg 35 (.mv (.tmp 34)) 30 false], .grp 35 true [zg 36 (.mv (.tmp 4)) 35 true, zg 37 (.mv (.tmp 3)) 35 true, zg 38 (.bin .eql false (.tmp 36) (.tmp 37)) 35 true], .grp 30 false [zg 39 (.pick (.tmp 35) (.tmp 38) (zb false)) 30 false], .grp 24 true [zg 40 (.pick (.tmp 30) (zb true) (.tmp 39)) 24 true], .grp 19 false [zg 41 (.pick (.tmp 24) (.tmp 40) (zb false)) 19 false], zQ 42 19 41, zv 7 42] c185t10
def c185t13 : aB := .seq (.block 1 (zs 4 6 [zv 13 11, zI 14 13 9 11, zA 15 13 14, zo 6 (.alloc [.t (.str (bs [])), za, za, .t (.str (bs [])), .tt 3 [], .tt 13 [], .t (.bool false), za, .tt 8 [], .tt 5 [], za, .tt 6 [], za]), zv 5 13, zn (.store 13 (.tmp 6) (.tmp 15))] c185t11)) (zr 9 2 [zK 51 .add 11 1, zv 11 51])
def c185t14 : aB := .seq (zd 12 .skip (.exit 0)) c185t13
def c185b15 : aB := zs 3 1 [zB 12 .lss 11 10] c185t14
def c185t16 : aB := .block 0 (.loop c185b15)
def c185t18 : aB := .seq (zs 2 4 [zf 8 3 1, zl 9 8, zL 10 9, zM 11 0] c185t16) (zs 10 1 [zW 2 true] .ret)
def c185t19 : aB := zs 1 2 [zM 3 0, zM 4 0] c185t18
def c185 : aB := zs 0 2 [zX 1 8 0, zW 2 false] c185t19
theorem k185 : Compiled Tryz.prog 185 52 [.tmp 2] c185 := .mk' [] Tryz.func185 rfl (by kernel_rfl) (by kernel_rfl)
def c186t3 : aB := zd 13 (zs 2 1 [zM 2 4] .ret) .skip
def c186t7 : aB := zd 66 (zs 5 1 [zM 2 5] .ret) .skip
def c186t10 : aB := zd 69 (zs 7 1 [zM 2 3] .ret) .skip
def c186t15 : aB := zd 85 (zr 11 1 [zM 5 16]) .skip
def c186t18 : aB := zd 99 (zs 13 1 [zM 2 2] .ret) .skip
def c186t21 : aB := zd 102 (zs 15 1 [zM 2 6] .ret) .skip
def c186t26 : aB := zd 124 (zs 19 1 [zM 2 17] .ret) .skip
def c186t29 : aB := zd 148 (zs 21 1 [zM 2 7] .ret) .skip
def c186t35 : aB := zd 162 (zs 26 1 [zM 2 13] .ret) .skip
def c186t36 : aB := zs 25 6 [zf 157 4 1, zl 158 157, zv 159 8, zo 160 (.sl false 1 (.tmp 158) none (some (.tmp 159)) none), zv 161 9, zc 162 218 [.tmp 160, .tmp 161]] c186t35
def c186t38 : aB := .seq (.block 1 (zs 24 5 [zv 154 152, zI 155 1 150 152, zl 156 155, zv 8 154, zv 9 156] c186t36)) (zr 27 2 [zK 163 .add 152 1, zv 152 163])
def c186t39 : aB := .seq (zd 153 .skip (.exit 0)) c186t38
def c186b40 : aB := zs 23 1 [zB 153 .lss 152 151] c186t39
def c186t41 : aB := .block 0 (.loop c186b40)
def c186t43 : aB := .seq (zs 22 4 [zf 149 4 1, zl 150 149, zL 151 150, zM 152 0] c186t41) (zs 28 10 [zf 164 0 1, zl 165 164, zK 166 .neq 165 11, zv 167 166, .br 167 false [zg 168 (.fa 5 (.tmp 1)) 167 false, zg 169 (.load 1 false (.tmp 168)) 167 false, .mk (some 170) (.call 229 [.tmp 169, .con (.one (.fn 230 []))]) (some (167, false))], zQ 171 167 170, zc 172 171 [.tmp 171, zi 14], zv 2 172] .ret)
def c186t44 : aB := .seq (zs 20 24 [zf 125 0 1, zl 126 125, zK 127 .eql 126 3, zv 128 127, .grp 128 false [zg 129 (.fa 0 (.tmp 1)) 128 false, zg 130 (.load 1 false (.tmp 129)) 128 false, zg 131 (.bin .eql false (.tmp 130) (zi 13)) 128 false, zg 132 (.mv (.tmp 131)) 128 false], .grp 132 true [zg 133 (.fa 3 (.tmp 1)) 132 true, zg 134 (.load 1 false (.tmp 133)) 132 true, zg 135 (.bin .neq false (.tmp 134) (.con (.one (.t (.str (bs [])))))) 132 true], .grp 128 false [zg 136 (.pick (.tmp 132) (.tmp 135) (zb false)) 128 false], zQ 137 128 136, zv 138 137, .br 138 true [zg 139 (.fa 3 (.tmp 1)) 138 true, zg 140 (.load 1 false (.tmp 139)) 138 true, .mk (some 141) (.call 219 [.tmp 140]) (some (138, true)), zg 142 (.un .not (.tmp 141)) 138 true], zP 143 138 142, zv 144 143, .br 144 false [zg 145 (.fa 4 (.tmp 1)) 144 false, zg 146 (.load 1 false (.tmp 145)) 144 false, .mk (some 147) (.call 227 [.tmp 146, .con (.one (.fn 228 []))]) (some (144, false))], zQ 148 144 147] c186t29) c186t43
def c186t45 : aB := .seq (zs 18 4 [zv 121 6, zv 122 121, .grp 122 false [zg 123 (.mv (.tmp 7)) 122 false], zQ 124 122 123] c186t26) c186t44
def c186t46 : aB := zs 17 10 [zf 112 0 1, zl 113 112, zK 114 .eql 113 6, zv 115 114, .br 115 true [zg 116 (.fa 3 (.tmp 1)) 115 true, zg 117 (.load 1 false (.tmp 116)) 115 true, .mk (some 118) (.call 225 [.tmp 117, .con (.one (.fn 226 []))]) (some (115, true)), zg 119 (.bin .geq false (.tmp 118) (zi 0)) 115 true], zP 120 115 119, zv 7 120] c186t45
def c186t47 : aB := zs 16 10 [zf 103 0 1, zl 104 103, zK 105 .eql 104 4, zv 106 105, .br 106 true [zg 107 (.fa 3 (.tmp 1)) 106 true, zg 108 (.load 1 false (.tmp 107)) 106 true, .mk (some 109) (.call 151 [.tmp 108, .con (.one (.t (.str (bs [48, 49]))))]) (some (106, true)), zg 110 (.bin .neq false (.tmp 109) (.con (.one (.t (.str (bs [])))))) 106 true], zP 111 106 110, zv 6 111] c186t46
def c186t48 : aB := .seq (zs 14 3 [zA 100 6 1, zc 101 224 [.tmp 100], zN 102 101] c186t21) c186t47
def c186t49 : aB := .seq (zs 12 14 [zv 86 4, zv 87 86, .grp 87 true [zg 88 (.fa 3 (.tmp 1)) 87 true, zg 89 (.load 1 false (.tmp 88)) 87 true, zg 90 (.len true (.tmp 89)) 87 true, zg 91 (.bin .gtr false (.tmp 90) (zi 200)) 87 true], zP 92 87 91, zv 93 92, .grp 93 false [zg 94 (.fa 5 (.tmp 1)) 93 false, zg 95 (.load 1 false (.tmp 94)) 93 false, zg 96 (.len false (.tmp 95)) 93 false, zg 97 (.mv (.tmp 5)) 93 false, zg 98 (.bin .gtr false (.tmp 96) (.tmp 97)) 93 false], zQ 99 93 98] c186t18) c186t48
def c186t50 : aB := .seq (zs 10 3 [zf 83 0 1, zl 84 83, zK 85 .eql 84 9] c186t15) c186t49
def c186t51 : aB := zs 9 1 [zM 5 40] c186t50
def c186t52 : aB := zs 8 14 [zf 70 0 1, zl 71 70, zK 72 .eql 71 4, zv 73 72, .grp 73 false [zg 74 (.fa 0 (.tmp 1)) 73 false, zg 75 (.load 1 false (.tmp 74)) 73 false, zg 76 (.bin .eql false (.tmp 75) (zi 5)) 73 false], zQ 77 73 76, zv 78 77, .grp 78 false [zg 79 (.fa 0 (.tmp 1)) 78 false, zg 80 (.load 1 false (.tmp 79)) 78 false, zg 81 (.bin .eql false (.tmp 80) (zi 6)) 78 false], zQ 82 78 81, zv 4 82] c186t51
def c186t53 : aB := .seq (zs 6 3 [zA 67 6 1, zc 68 223 [.tmp 67], zN 69 68] c186t10) c186t52
def c186t54 : aB := .seq (zs 4 50 [zf 17 0 3, zl 18 17, zN 19 18, zv 20 19, .grp 20 true [zg 21 (.fa 1 (.tmp 1)) 20 true, zg 22 (.load 1 false (.tmp 21)) 20 true, zg 23 (.bin .neq false (.tmp 22) (zi 0)) 20 true], zP 24 20 23, zv 25 24, .grp 25 false [zg 26 (.fa 1 (.tmp 3)) 25 false, zg 27 (.load 1 false (.tmp 26)) 25 false, zg 28 (.un .not (.tmp 27)) 25 false, zg 29 (.mv (.tmp 28)) 25 false], .grp 29 true [zg 30 (.fa 2 (.tmp 1)) 29 true, zg 31 (.load 1 false (.tmp 30)) 29 true, zg 32 (.bin .neq false (.tmp 31) (zi 0)) 29 true], .grp 25 false [zg 33 (.pick (.tmp 29) (.tmp 32) (zb false)) 25 false], zQ 34 25 33, zv 35 34, .grp 35 false [zg 36 (.fa 2 (.tmp 3)) 35 false, zg 37 (.load 1 false (.tmp 36)) 35 false, zg 38 (.un .not (.tmp 37)) 35 false, zg 39 (.mv (.tmp 38)) 35 false], .grp 39 true [zg 40 (.fa 3 (.tmp 1)) 39 true, zg 41 (.load 1 false (.tmp 40)) 39 true, zg 42 (.bin .neq false (.tmp 41) (.con (.one (.t (.str (bs [])))))) 39 true], .grp 35 false [zg 43 (.pick (.tmp 39) (.tmp 42) (zb false)) 35 false], zQ 44 35 43, zv 45 44, .grp 45 false [zg 46 (.fa 3 (.tmp 3)) 45 false, zg 47 (.load 1 false (.tmp 46)) 45 false, zg 48 (.un .not (.tmp 47)) 45 false, zg 49 (.mv (.tmp 48)) 45 false], .grp 49 true [zg 50 (.fa 4 (.tmp 1)) 49 true, zg 51 (.load 1 false (.tmp 50)) 49 true, zg 52 (.len false (.tmp 51)) 49 true, zg 53 (.bin .gtr false (.tmp 52) (zi 0)) 49 true], .grp 45 false [zg 54 (.pick (.tmp 49) (.tmp 53) (zb false)) 45 false], zQ 55 45 54, zv 56 55, .grp 56 false [zg 57 (.fa 4 (.tmp 3)) 56 false, zg 58 (.load 1 false (.tmp 57)) 56 false, zg 59 (.un .not (.tmp 58)) 56 false, zg 60 (.mv (.tmp 59)) 56 false], .grp 60 true [zg 61 (.fa 5 (.tmp 1)) 60 true, zg 62 (.load 1 false (.tmp 61)) 60 true, zg 63 (.len false (.tmp 62)) 60 true, zg 64 (.bin .gtr false (.tmp 63) (zi 0)) 60 true], .grp 56 false [zg 65 (.pick (.tmp 60) (.tmp 64) (zb false)) 56 false], zQ 66 56 65] c186t7) c186t53
def c186t55 : aB := zs 3 5 [zf 14 0 1, zl 15 14, zc 16 222 [.tmp 15], zo 3 (.alloc [.t (.bool false), .t (.bool false), .t (.bool false), .t (.bool false), .t (.bool false)]), zn (.store 5 (.tmp 3) (.tmp 16))] c186t54
def c186t56 : aB := .seq (zs 1 4 [zf 10 0 1, zl 11 10, zc 12 170 [.tmp 11, zi 0, zi 14], zN 13 12] c186t3) c186t55
def c186 : aB := zs 0 2 [zX 1 6 0, zM 2 0] c186t56
theorem k186 : Compiled Tryz.prog 186 173 [.tmp 2] c186 := .mk' [] Tryz.func186 rfl (by kernel_rfl) (by kernel_rfl)
def c212 : aB := zs 0 1 [zW 2 false] (zs 1 7 [zv 3 0, zK 4 .eql 3 9, zv 5 4, .grp 5 false [zg 6 (.mv (.tmp 0)) 5 false, zg 7 (.bin .eql false (.tmp 6) (zi 10)) 5 false], zQ 8 5 7, zv 2 8] .ret)
theorem k212 : Compiled Tryz.prog 212 9 [.tmp 2] c212 := .mk' [] Tryz.func212 rfl (by kernel_rfl) (by kernel_rfl)
def c213r0 : List Seg := [zM 4 0]
def c213r1 : List Seg := [zv 6 0, zL 7 6, zM 8 0]
def c213r2 : List Seg := [zB 9 .lss 8 7]
def c213r3 : List Seg := [zv 10 8, zv 5 10]
def c213r4 : List Seg := [zv 11 1, zv 12 0, zv 13 5, zI 14 13 12 13, zA 15 13 14, .one (.mk (some 16) (.callv (.tmp 11) [.tmp 15]) none)]
def c213r5 : List Seg := [zv 17 5, zv 4 17]
def c213r6 : List Seg := [zK 18 .add 8 1, zv 8 18]
def c213b7 : aB := zs 2 1 c213r2 (.seq (zd 9 .skip (.exit 0)) (.seq (.block 1 (zs 3 2 c213r3 (zs 4 6 c213r4 (zd 16 (zs 5 2 c213r5 .ret) .skip)))) (zr 6 2 c213r6)))
def c213r7 : List Seg := [zM 4 (-1)]
def c213 : aB := zs 0 1 c213r0 (.seq (zs 1 3 c213r1 (.block 0 (.loop c213b7))) (zs 7 1 c213r7 .ret))
theorem k213 : Compiled Tryz.prog 213 19 [.tmp 4] c213 := .mk' [] Tryz.func213 rfl (by kernel_rfl) (by kernel_rfl)
def c215 : aB := zs 0 1 [zW 4 false] (zs 1 5 [zv 5 0, zv 6 1, zc 7 254 [.tmp 5, .tmp 6], zK 8 .geq 7 0, zv 4 8] .ret)
theorem k215 : Compiled Tryz.prog 215 9 [.tmp 4] c215 := .mk' [] Tryz.func215 rfl (by kernel_rfl) (by kernel_rfl)
def c222 : aB := zs 0 1 [zo 2 (.alloc [.t (.bool false), .t (.bool false), .t (.bool false), .t (.bool false), .t (.bool false)])] (.seq (zs 1 1 [zv 3 0] (.block 0 (.seq (zs 2 2 [zK 5 .eql 3 1, zv 4 5] (zd 4 .skip (zs 3 2 [zK 6 .eql 3 2, zv 4 6] (zd 4 .skip (zr 4 2 [zK 7 .eql 3 14, zv 4 7]))))) (zd 4 (zs 5 2 [zo 8 (.build [.t (.bool false), .t (.bool false), .t (.bool false), .t (.bool false), .t (.bool false)] [(0, (1, zb true))]), zn (.store 5 (.tmp 2) (.tmp 8))] .ret) (.seq (zs 6 2 [zK 10 .eql 3 3, zv 9 10] (zd 9 .skip (zs 7 2 [zK 11 .eql 3 4, zv 9 11] (zd 9 .skip (zs 8 2 [zK 12 .eql 3 5, zv 9 12] (zd 9 .skip (zr 9 2 [zK 13 .eql 3 6, zv 9 13]))))))) (zd 9 (zs 10 2 [zo 14 (.build [.t (.bool false), .t (.bool false), .t (.bool false), .t (.bool false), .t (.bool false)] [(2, (1, zb true))]), zn (.store 5 (.tmp 2) (.tmp 14))] .ret) (.seq (zs 11 2 [zK 16 .eql 3 7, zv 15 16] (zd 15 .skip (zs 12 2 [zK 17 .eql 3 10, zv 15 17] (zd 15 .skip (zr 13 2 [zK 18 .eql 3 11, zv 15 18]))))) (zd 15 (zs 14 2 [zo 19 (.build [.t (.bool false), .t (.bool false), .t (.bool false), .t (.bool false), .t (.bool false)] [(4, (1, zb true))]), zn (.store 5 (.tmp 2) (.tmp 19))] .ret) (zs 15 2 [zK 21 .eql 3 8, zv 20 21] (zd 20 (zs 16 2 [zo 22 (.build [.t (.bool false), .t (.bool false), .t (.bool false), .t (.bool false), .t (.bool false)] [(0, (1, zb true)), (1, (1, zb true))]), zn (.store 5 (.tmp 2) (.tmp 22))] .ret) (.seq (zs 17 2 [zK 24 .eql 3 9, zv 23 24] (zd 23 .skip (zr 18 2 [zK 25 .eql 3 12, zv 23 25]))) (zd 23 (zs 19 2 [zo 26 (.build [.t (.bool false), .t (.bool false), .t (.bool false), .t (.bool false), .t (.bool false)] [(3, (1, zb true)), (4, (1, zb true))]), zn (.store 5 (.tmp 2) (.tmp 26))] .ret) (zs 20 2 [zK 28 .eql 3 13, zv 27 28] (zd 27 (zs 21 2 [zo 29 (.build [.t (.bool false), .t (.bool false), .t (.bool false), .t (.bool false), .t (.bool false)] [(2, (1, zb true)), (4, (1, zb true))]), zn (.store 5 (.tmp 2) (.tmp 29))] .ret) .skip)))))))))))))) (zs 22 2 [zo 30 (.build [.t (.bool false), .t (.bool false), .t (.bool false), .t (.bool false), .t (.bool false)] []), zn (.store 5 (.tmp 2) (.tmp 30))] .ret))
theorem k222 : Compiled Tryz.prog 222 31 [.cell 2 5 true] c222 := .mk' [] Tryz.func222 rfl (by kernel_rfl) (by kernel_rfl)
def c223t12 : aB := zd 46 (zs 11 4 [zf 48 5 1, zl 49 48, zc 50 261 [.tmp 49], zv 2 50] .ret) .skip
def c223t13 : aB := zd 41 (zs 9 4 [zf 43 1 1, zl 44 43, zc 45 170 [.tmp 44, zi 0, zi 4], zv 2 45] .ret) (zs 10 2 [zK 47 .eql 4 7, zv 46 47] c223t12)
def c223t14 : aB := zd 15 (zs 7 25 [zf 17 1 1, zl 18 17, zK 19 .eql 18 0, zv 20 19, .grp 20 true [zg 21 (.fa 2 (.tmp 1)) 20 true, zg 22 (.load 1 false (.tmp 21)) 20 true, zg 23 (.bin .eql false (.tmp 22) (zi 0)) 20 true], zP 24 20 23, zv 25 24, .br 25 false [zg 26 (.fa 1 (.tmp 1)) 25 false, zg 27 (.load 1 false (.tmp 26)) 25 false, .mk (some 28) (.call 184 [.tmp 27]) (some (25, false)), zg 29 (.mv (.tmp 28)) 25 false], .br 29 true [zg 30 (.fa 1 (.tmp 1)) 29 true, zg 31 (.load 1 false (.tmp 30)) 29 true, zg 32 (.bin .rem false (.tmp 31) (zi 2)) 29 true, zg 33 (.bin .neq false (.tmp 32) (zi 0)) 29 true], .grp 25 false [zg 34 (.pick (.tmp 29) (.tmp 33) (zb false)) 25 false, zg 35 (.mv (.tmp 34)) 25 false], .br 35 true [zg 36 (.fa 2 (.tmp 1)) 35 true, zg 37 (.load 1 false (.tmp 36)) 35 true, .mk (some 38) (.call 170 [.tmp 37, zi (-1000), zi 1000]) (some (35, true))], .grp 25 false [zg 39 (.pick (.tmp 35) (.tmp 38) (zb false)) 25 false], zQ 40 25 39, zv 2 40] .ret) (zs 8 2 [zK 42 .eql 4 14, zv 41 42] c223t13)
def c223t15 : aB := zd 10 (zs 5 4 [zf 12 1 1, zl 13 12, zc 14 184 [.tmp 13], zv 2 14] .ret) (zs 6 2 [zK 16 .eql 4 8, zv 15 16] c223t14)
def c223t16 : aB := zd 5 (zs 3 4 [zf 7 1 1, zl 8 7, zc 9 170 [.tmp 8, zi 0, zi 1], zv 2 9] .ret) (zs 4 2 [zK 11 .eql 4 2, zv 10 11] c223t15)
def c223t17 : aB := .block 0 (zs 2 2 [zK 6 .eql 4 1, zv 5 6] c223t16)
def c223t19 : aB := .seq (zs 1 2 [zf 3 0 1, zl 4 3] c223t17) (zs 12 1 [zW 2 true] .ret)
def c223 : aB := zs 0 2 [zX 1 6 0, zW 2 false] c223t19
theorem k223 : Compiled Tryz.prog 223 51 [.tmp 2] c223 := .mk' [] Tryz.func223 rfl (by kernel_rfl) (by kernel_rfl)
def c224t12 : aB := zd 38 (zs 11 16 [zv 40 3, zK 41 .eql 40 1, zv 42 41, .grp 42 true [zg 43 (.fa 3 (.tmp 1)) 42 true, zg 44 (.load 1 false (.tmp 43)) 42 true, zg 45 (.bin .neq false (.tmp 44) (.con (.one (.t (.str (bs [])))))) 42 true, zg 46 (.mv (.tmp 45)) 42 true], .br 46 false [zg 47 (.fa 5 (.tmp 1)) 46 false, zg 48 (.load 1 false (.tmp 47)) 46 false, zg 49 (.ia 6 (.tmp 48) (zi 0)) 46 false, zg 50 (.fa 0 (.tmp 49)) 46 false, zg 51 (.load 1 false (.tmp 50)) 46 false, zg 52 (.bin .eql false (.tmp 51) (zi 5)) 46 false], .grp 42 true [zg 53 (.pick (.tmp 46) (zb true) (.tmp 52)) 42 true], zP 54 42 53, zv 2 54] .ret) .skip
def c224t13 : aB := zd 28 (zs 9 9 [zf 30 4 1, zl 31 30, zL 32 31, zK 33 .eql 32 1, zv 34 33, .grp 34 true [zg 35 (.mv (.tmp 3)) 34 true, zg 36 (.bin .eql false (.tmp 35) (zi 1)) 34 true], zP 37 34 36, zv 2 37] .ret) (zs 10 2 [zK 39 .eql 9 13, zv 38 39] c224t12)
def c224t14 : aB := zd 21 (zs 7 6 [zf 23 4 1, zl 24 23, zL 25 24, zv 26 3, zB 27 .eql 25 26, zv 2 27] .ret) (zs 8 2 [zK 29 .eql 9 12, zv 28 29] c224t13)
def c224t15 : aB := zd 10 (zs 5 10 [zv 12 3, zK 13 .geq 12 2, zv 14 13, .br 14 true [zg 15 (.fa 5 (.tmp 1)) 14 true, zg 16 (.load 1 false (.tmp 15)) 14 true, zg 17 (.mkfn 264 [.tmp 4]) 14 true, .mk (some 18) (.call 263 [.tmp 16, .tmp 17]) (some (14, true)), zg 19 (.un .not (.tmp 18)) 14 true], zP 20 14 19, zv 2 20] .ret) (zs 6 2 [zK 22 .eql 9 9, zv 21 22] c224t14)
def c224t16 : aB := .block 0 (zs 4 2 [zK 11 .eql 9 7, zv 10 11] c224t15)
def c224t18 : aB := .seq (zs 3 2 [zf 8 0 1, zl 9 8] c224t16) (zs 12 1 [zW 2 true] .ret)
def c224t19 : aB := zs 2 2 [zo 4 (.alloc [.t .nilf]), zn (.store 1 (.tmp 4) (.con (.one (.fn 262 []))))] c224t18
def c224t20 : aB := zs 1 4 [zf 5 5 1, zl 6 5, zL 7 6, zv 3 7] c224t19
def c224 : aB := zs 0 2 [zX 1 6 0, zW 2 false] c224t20
theorem k224 : Compiled Tryz.prog 224 55 [.tmp 2] c224 := .mk' [] Tryz.func224 rfl (by kernel_rfl) (by kernel_rfl)
def c227 : aB := zs 0 1 [zW 4 false] (zs 1 5 [zv 5 0, zv 6 1, zc 7 266 [.tmp 5, .tmp 6], zK 8 .geq 7 0, zv 4 8] .ret)
theorem k227 : Compiled Tryz.prog 227 9 [.tmp 4] c227 := .mk' [] Tryz.func227 rfl (by kernel_rfl) (by kernel_rfl)
def c254b7 : aB := zs 2 1 [zB 9 .lss 8 7] (.seq (zd 9 .skip (.exit 0)) (.seq (.block 1 (zs 3 2 [zv 10 8, zv 5 10] (zs 4 6 [zv 11 1, zv 12 0, zv 13 5, zI 14 1 12 13, zl 15 14, zB 16 .eql 11 15] (zd 16 (zs 5 2 [zv 17 5, zv 4 17] .ret) .skip)))) (zr 6 2 [zK 18 .add 8 1, zv 8 18])))
def c254 : aB := zs 0 1 [zM 4 0] (.seq (zs 1 3 [zv 6 0, zL 7 6, zM 8 0] (.block 0 (.loop c254b7))) (zs 7 1 [zM 4 (-1)] .ret))
theorem k254 : Compiled Tryz.prog 254 19 [.tmp 4] c254 := .mk' [] Tryz.func254 rfl (by kernel_rfl) (by kernel_rfl)
def c266b7 : aB := zs 2 1 [zB 9 .lss 8 7] (.seq (zd 9 .skip (.exit 0)) (.seq (.block 1 (zs 3 2 [zv 10 8, zv 5 10] (zs 4 6 [zv 11 1, zv 12 0, zv 13 5, zI 14 1 12 13, zl 15 14, .one (.mk (some 16) (.callv (.tmp 11) [.tmp 15]) none)] (zd 16 (zs 5 2 [zv 17 5, zv 4 17] .ret) .skip)))) (zr 6 2 [zK 18 .add 8 1, zv 8 18])))
def c266 : aB := zs 0 1 [zM 4 0] (.seq (zs 1 3 [zv 6 0, zL 7 6, zM 8 0] (.block 0 (.loop c266b7))) (zs 7 1 [zM 4 (-1)] .ret))
theorem k266 : Compiled Tryz.prog 266 19 [.tmp 4] c266 := .mk' [] Tryz.func266 rfl (by kernel_rfl) (by kernel_rfl)
end Go.Proofs.YtdpbobkcbakpfaaGreatDoor

namespace Go.Proofs.YtdpbobkcbakpfaaGreatDoor
open Go Go.Ab
set_option maxRecDepth 1000000
def aO6 : List (Nat × Nat × List RV × aB) := [(12, 56, [(RV.tmp 0)], c12), (14, 61, [(RV.tmp 2), (RV.tmp 3)], c14), (22, 27, [(RV.tmp 4), (RV.tmp 5)], c22), (24, 30, [(RV.tmp 4), (RV.tmp 5)], c24), (40, 5, [(RV.cell 2 6 true)], c40), (43, 44, [(RV.cell 2 2 true), (RV.tmp 3), (RV.tmp 4)], c43), (56, 7, [(RV.cell 0 8 true)], c56), (59, 15, [(RV.tmp 2)], c59), (60, 13, [(RV.tmp 2)], c60), (61, 9, [(RV.tmp 2)], c61), (62, 49, [], c62), (63, 82, [(RV.tmp 4)], c63), (71, 19, [(RV.tmp 4)], c71), (72, 97, [(RV.tmp 6)], c72), (74, 24, [(RV.tmp 2), (RV.tmp 3)], c74), (79, 15, [(RV.tmp 2)], c79), (80, 11, [(RV.tmp 2)], c80), (81, 7, [(RV.tmp 4)], c81), (85, 15, [(RV.tmp 6)], c85), (89, 32, [(RV.cell 4 2 true), (RV.tmp 5), (RV.tmp 6)], c89), (90, 86, [(RV.tmp 4)], c90), (106, 68, [], c106), (107, 67, [(RV.tmp 2)], c107), (108, 62, [(RV.tmp 4)], c108), (109, 24, [(RV.cell 4 2 true)], c109), (118, 15, [(RV.tmp 2)], c118), (119, 35, [(RV.tmp 4)], c119), (124, 9, [(RV.tmp 4)], c124), (125, 9, [(RV.tmp 4)], c125), (144, 35, [(RV.tmp 4)], c144), (145, 29, [], c145), (146, 80, [(RV.tmp 2)], c146), (147, 165, [(RV.tmp 2)], c147), (149, 25, [(RV.tmp 2)], c149), (157, 19, [(RV.tmp 4)], c157), (170, 15, [(RV.tmp 6)], c170), (171, 7, [(RV.tmp 4)], c171), (172, 9, [(RV.tmp 2)], c172), (173, 9, [(RV.tmp 4)], c173), (177, 9, [(RV.tmp 2)], c177), (178, 10, [(RV.tmp 2)], c178), (179, 15, [(RV.tmp 2)], c179), (180, 67, [(RV.tmp 2)], c180), (181, 34, [(RV.tmp 2)], c181), (182, 28, [(RV.tmp 2)], c182), (184, 5, [(RV.tmp 2)], c184), (186, 173, [(RV.tmp 2)], c186), (212, 9, [(RV.tmp 2)], c212), (213, 19, [(RV.tmp 4)], c213), (215, 9, [(RV.tmp 4)], c215), (222, 31, [(RV.cell 2 5 true)], c222), (223, 51, [(RV.tmp 2)], c223), (224, 55, [(RV.tmp 2)], c224), (227, 9, [(RV.tmp 4)], c227), (254, 19, [(RV.tmp 4)], c254), (266, 19, [(RV.tmp 4)], c266)]
def aCB (f : Nat) : List (Nat × Nat × List RV × aB) → Option (Nat × List RV × aB)
 | [] => none
 | (k, e) :: r => bif Nat.beq k f then some e else aCB f r
def tab : Tab := fun f => aCB f aO6
theorem aCC : ∀ l : List (Nat × Nat × List RV × aB), (∀ e ∈ l, Compiled Tryz.prog e.1 e.2.1 e.2.2.1 e.2.2.2) → ∀ f n rs ac, aCB f l = some (n, rs, ac) → Compiled Tryz.prog f n rs ac
 | [], _, f, n, rs, ac, h => by simp [aCB] at h
 | (k, e) :: r, hl, f, n, rs, ac, h => by
  simp only [aCB] at h
  cases hb : Nat.beq k f with
  | true =>
   rw [hb] at h
   simp only [cond_true, Option.some.injEq] at h
   subst h
   have := Nat.eq_of_beq_eq_true hb
   subst this
   exact hl _ (List.mem_cons_self ..)
  | false =>
   rw [hb] at h
   exact aCC r (fun e he => hl e (List.mem_cons_of_mem _ he)) f n rs ac h
theorem aJI : Tab.Ok Tryz.prog tab := fun f n rs ac h => aCC aO6 (fun e he => by
 simp only [aO6, List.mem_cons, List.not_mem_nil, or_false] at he
 rcases he with rfl | rfl | rfl | rfl | rfl | rfl | rfl | rfl | rfl | rfl | rfl | rfl | rfl | rfl | rfl | rfl | rfl | rfl | rfl | rfl | rfl | rfl | rfl | rfl | rfl | rfl | rfl | rfl | rfl | rfl | rfl | rfl | rfl | rfl | rfl | rfl | rfl | rfl | rfl | rfl | rfl | rfl | rfl | rfl | rfl | rfl | rfl | rfl | rfl | rfl | rfl | rfl | rfl | rfl | rfl | rfl
 ·exact k12
 ·exact k14
 ·exact k22
 ·exact k24
 ·exact k40
 ·exact k43
 ·exact k56
 ·exact k59
 ·exact k60
 ·exact k61
 ·exact k62
 ·exact k63
 ·exact k71
 ·exact k72
 ·exact k74
 ·exact k79
 ·exact k80
 ·exact k81
 ·exact k85
 ·exact k89
 ·exact k90
 ·exact k106
 ·exact k107
 ·exact k108
 ·exact k109
 ·exact k118
 ·exact k119
 ·exact k124
 ·exact k125
 ·exact k144
 ·exact k145
 ·exact k146
 ·exact k147
 ·exact k149
 ·exact k157
 ·exact k170
 ·exact k171
 ·exact k172
 ·exact k173
 ·exact k177
 ·exact k178
 ·exact k179
 ·exact k180
 ·exact k181
 ·exact k182
 ·exact k184
 ·exact k186
 ·exact k212
 ·exact k213
 ·exact k215
 ·exact k222
 ·exact k223
 ·exact k224
 ·exact k227
 ·exact k254
 ·exact k266) f n rs ac h
theorem aO7 : aLC (exec Tryz.prog tab aJH 1000) tab aJH 12 [] = some (.one (.t (.bool true))) := by kernel_rfl
theorem aO8 : PSp Tryz.prog 12 [] (.one (.t (.bool true))) := uN aJI aGA (aEU aJI aGA 1000) rfl aO7
end Go.Proofs.YtdpbobkcbakpfaaGreatDoor

namespace Go.Proofs.YtdpbobkcbakpfaaGreatDoor
open Go Go.Ab
set_option maxRecDepth 100000
inductive Vl where
 | mk (kind n e : Int) (s : ByteArray) (names : List ByteArray) (items : List Vl)
structure Tg where
 cls : Int
 num : Int
 way : Int
mutual
inductive Ty where
 | mk (kind : Int) (name : ByteArray) (tags : List Tg) (fields : List Fd) (opn : Bool) (root : Int) (of : List Ty) (limits : List Nd)
inductive Fd where
 | mk (name : ByteArray) (num : Int) (ty : Ty) (pres : Int) (dflt : List Vl) (grp : Int)
end
def aO (l : List ByteArray) : T := .rows 1 (l.map fun s => [.str s])
def Tg.row (g : Tg) : List T := [I g.cls, I g.num, I g.way]
mutual
def Vl.row : Vl → List T
 | .mk k n e s ns is => [I k, I n, I e, .str s, aO ns, .rows 6 (xR is)]
def xR : List Vl → List (List T)
 | [] => []
 | v :: r => v.row :: xR r
end
mutual
def Ty.row : Ty → List T
 | .mk k nm tg fs o r of l => [I k, .str nm, .rows 3 (tg.map Tg.row), .rows 13 (aCD fs), .bool o, I r, .rows 8 (uS of), aK l]
def Fd.row : Fd → List T
 | .mk nm n t p d g => [.str nm, I n] ++ t.row ++ [I p, .rows 6 (xR d), I g]
def aCD : List Fd → List (List T)
 | [] => []
 | f :: r => f.row :: aCD r
def uS : List Ty → List (List T)
 | [] => []
 | t :: r => t.row :: uS r
end
theorem cU : ∀ l : List Vl, xR l = l.map Vl.row
 | [] => by simp [xR]
 | v :: r => by simp [xR, cU r]
theorem gT : ∀ l : List Fd, aCD l = l.map Fd.row
 | [] => by simp [aCD]
 | v :: r => by simp [aCD, gT r]
theorem iJ : ∀ l : List Ty, uS l = l.map Ty.row
 | [] => by simp [uS]
 | v :: r => by simp [uS, iJ r]
def sP : A → Bool
 | .t _ => true
 | _ => false
def _root_.Go.Ab.D.iV : D → Bool
 | .one x => sP x
 | .agg cs => cs.all sP
 | _ => false
theorem lF (h : Hp) {x : D} (hx : x.iV = true) : x.bT h ∧ x.frz h = x ∧ x.ids h = [] := by
 cases x with
 | one x => cases x <;> simp_all [D.iV, sP]
 | agg cs =>
  simp only [D.iV, List.all_eq_true] at hx
  refine ⟨fun x hxm => ?_, ?_, ?_⟩
  ·have := hx x hxm
   cases x <;> simp_all [sP, aG7]
  ·simp only [D.frz, D.agg.injEq]
   refine (List.map_congr_left fun x hxm => ?_).trans (List.map_id _)
   have := hx x hxm
   cases x <;> simp_all [sP, aN8]
  ·simp only [D.ids]
   refine List.flatMap_eq_nil_iff.2 fun x hxm => ?_
   have := hx x hxm
   cases x <;> simp_all [sP, aN9]
 | tup xs => simp [D.iV] at hx
theorem aH9 (h : Hp) : h.close [] = h := by funext j; simp [Hp.close]
theorem _root_.Go.Ab.aD.tree {P : Program} {f : FuncId} {xs : List D} {h : Hp} {new : Nat} {K : D → Hp → Prop} {r : D} (hs : PSp P f xs r) (hx : xs.all D.iV = true) (hK : K r h) : aD P false f xs h new K := by
 have hx' := List.all_eq_true.1 hx
 refine aD.pure hs (fun x hm => (lF h (hx' x hm)).1) ((List.map_congr_left fun x hm => (lF h (hx' x hm)).2.1).trans (List.map_id _)) ?_
 have e : xs.flatMap (D.ids h) = [] := List.flatMap_eq_nil_iff.2 fun x hm => (lF h (hx' x hm)).2.2
 rw [e, aH9]
 split <;> exact hK
theorem _root_.Go.Ab.aD.bO {P : Program} {f : FuncId} {xs : List D} {h : Hp} {new : Nat} {K : D → Hp → Prop} {r : D} (hs : PSp P f xs r) (hx : xs.all D.iV = true) (hK : K r h) : aD P true f xs h new K := by
 have hx' := List.all_eq_true.1 hx
 exact aD.draw hs (fun x hm => (lF h (hx' x hm)).1) ((List.map_congr_left fun x hm => (lF h (hx' x hm)).2.1).trans (List.map_id _)) (.inr (List.flatMap_eq_nil_iff.2 fun x hm => (lF h (hx' x hm)).2.2)) hK
theorem dL (a b : Int) : a = b ∨ ((a == b) = false ∧ ¬ a = b ∧ ¬ b = a ∧ (b == a) = false) := by
 by_cases h : a = b
 ·exact .inl h
 ·exact .inr ⟨by simp [h], h, fun e => h e.symm, by simp; exact fun e => h e.symm⟩
theorem kO (a b : Int) : (a ≤ b ∧ ¬ b < a) ∨ (¬ a ≤ b ∧ b < a) := by omega
theorem oH (a b : Int) : (a < b ∧ ¬ b ≤ a) ∨ (¬ a < b ∧ b ≤ a) := by omega
def short {α : Type} (l : List α) : Prop := l.length ≤ 9223372036854775807
mutual
def Vl.fine : Vl → Prop
 | .mk _ _ _ s ns is => s.size ≤ 9223372036854775807 ∧ short ns ∧ (∀ x ∈ ns, x.size ≤ 9223372036854775807) ∧ short is ∧ lG is
def lG : List Vl → Prop
 | [] => True
 | v :: r => v.fine ∧ lG r
end
def Nd.fine (x : Nd) : Prop := x.s.size ≤ 9223372036854775807 ∧ short x.args
mutual
def Ty.fine : Ty → Prop
 | .mk _ nm tg fs _ _ of l => nm.size ≤ 9223372036854775807 ∧ short tg ∧ short fs ∧ uT fs ∧ short of ∧ uU of ∧ short l ∧ ∀ x ∈ l, x.fine
def Fd.fine : Fd → Prop
 | .mk nm _ t _ d _ => nm.size ≤ 9223372036854775807 ∧ t.fine ∧ short d ∧ lG d
def uT : List Fd → Prop
 | [] => True
 | f :: r => f.fine ∧ uT r
def uU : List Ty → Prop
 | [] => True
 | t :: r => t.fine ∧ uU r
end
end Go.Proofs.YtdpbobkcbakpfaaGreatDoor

