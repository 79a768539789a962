/- Texts of this proof, laid one behind the other (CA, Aw1, De0). -/
import Derived.Test.YtdpbobkcbakpfaaGreatDoorProg
import Derived.Test.YtdpbobkcbakpfaaGreatDoorMrcC
namespace Go.Proofs.YtdpbobkcbakpfaaGreatDoor
open Go Go.Ab
set_option maxRecDepth 100000
def c12r0 : List Seg := [zo 0 (.mv (zb false))]
def c12r1 : List Seg := [zc 9 56 [], zc 10 40 [zi 8], zc 11 22 [.tmp 9, .tmp 10], zv 8 11, zo 12 (.ext 0 (.tmp 8)), zo 13 (.ext 1 (.tmp 8)), zv 1 12, zv 2 13]
def c12r2 : List Seg := [zc 15 56 [], zc 16 40 [zi 8], zc 17 24 [.tmp 15, .tmp 16], zv 14 17, zo 18 (.ext 0 (.tmp 14)), zo 19 (.ext 1 (.tmp 14)), zv 3 18, zv 4 19]
def c12r3 : List Seg := [zc 21 56 [], zc 22 43 [.tmp 21], zv 20 22, zo 23 (.ext 0 (.tmp 20)), zo 24 (.ext 1 (.tmp 20)), zo 25 (.ext 2 (.tmp 20)), zo 5 (.alloc [za, za]), zn (.store 2 (.tmp 5) (.tmp 23)), zv 6 24, zv 7 25]
def c12r4 : List Seg := [zv 26 2, zo 27 (.bin .eql false (.tmp 26) (zi 0)), zv 28 27, .grp 28 true [zg 29 (.mv (.tmp 1)) 28 true], zo 30 (.pick (.tmp 28) (.tmp 29) (zb false)), zv 31 30, .grp 31 true [zg 32 (.mv (.tmp 4)) 31 true, zg 33 (.bin .eql false (.tmp 32) (zi 0)) 31 true], zo 34 (.pick (.tmp 31) (.tmp 33) (zb false)), zv 35 34, .grp 35 true [zg 36 (.mv (.tmp 3)) 35 true, zg 37 (.un .not (.tmp 36)) 35 true], zo 38 (.pick (.tmp 35) (.tmp 37) (zb false)), zv 39 38, .grp 39 true [zg 40 (.mv (.tmp 7)) 39 true, zg 41 (.bin .eql false (.tmp 40) (zi 0)) 39 true], zo 42 (.pick (.tmp 39) (.tmp 41) (zb false)), zv 43 42, .grp 43 true [zg 44 (.mv (.tmp 6)) 43 true], zo 45 (.pick (.tmp 43) (.tmp 44) (zb false)), zv 46 45, .grp 46 true [zg 47 (.fa 0 (.tmp 5)) 46 true, zg 48 (.load 1 false (.tmp 47)) 46 true, zg 49 (.bin .eql false (.tmp 48) (zi 1)) 46 true], zo 50 (.pick (.tmp 46) (.tmp 49) (zb false)), zv 51 50, .grp 51 true [zg 52 (.fa 1 (.tmp 5)) 51 true, zg 53 (.load 1 false (.tmp 52)) 51 true, zg 54 (.bin .eql false (.tmp 53) (zi 5)) 51 true], zo 55 (.pick (.tmp 51) (.tmp 54) (zb false)), zv 0 55]
def c12 : ACode := .seq (zr 0 1 c12r0) (.seq (zr 1 8 c12r1) (.seq (zr 2 8 c12r2) (.seq (zr 3 10 c12r3) (.seq (zr 4 31 c12r4) .ret))))
theorem k12 : Compiled Tryz.prog 12 56 [.tmp 0] c12 := .mk' [] Tryz.func12 rfl (by kernel_rfl) (by kernel_rfl)
def c14r0 : List Seg := [zo 1 (.box 8 (.tmp 0)), zo 2 (.mv (zi 0)), zo 3 (.mv (zi 0))]
def c14r1 : List Seg := [zo 9 (.load 8 true (.tmp 1)), zc 10 59 [.tmp 9], zv 4 10]
def c14r2 : List Seg := [zv 11 4, zo 12 (.bin .neq false (.tmp 11) (zi 0))]
def c14r3 : List Seg := [zv 13 4, zo 2 (.mv (zi 0)), zv 3 13]
def c14t4 : ACode := .cond (.tmp 12) (.seq (zr 3 3 c14r3) .ret) .skip
def c14t5 : ACode := .seq (zr 2 2 c14r2) c14t4
def c14r4 : List Seg := [zf 14 7 1, zl 15 14, zo 16 (.len false (.tmp 15)), zo 17 (.bin .eql false (.tmp 16) (zi 0))]
def c14r5 : List Seg := [zo 2 (.mv (zi 0)), zo 3 (.mv (zi 0))]
def c14t8 : ACode := .cond (.tmp 17) (.seq (zr 5 2 c14r5) .ret) .skip
def c14r6 : List Seg := [zo 18 (.load 8 true (.tmp 1)), zf 19 7 1, zl 20 19, zo 21 (.len false (.tmp 20)), zo 22 (.mks 1 8 [za] (.tmp 21) (.tmp 21)), zo 23 (.build [za, .t (.str (bs [])), .tt 3 [], .tt 13 [], .t (.bool false), za, .tt 8 [], .tt 5 [], .tt 1 []] [(0, (8, .tmp 18)), (8, (1, .tmp 22))]), zo 24 (.box 9 (.tmp 23)), zv 5 24]
def c14r7 : List Seg := [zo 6 (.mv (zi 0))]
def c14r8 : List Seg := [zf 26 0 1, zl 27 26, zc 28 60 [.tmp 27], zv 25 28]
def c14r9 : List Seg := [zo 6 (.mv (zi 1))]
def c14r10 : List Seg := [zf 30 0 1, zl 31 30, zc 32 61 [.tmp 31], zv 29 32]
def c14r11 : List Seg := [zo 6 (.mv (zi 2))]
def c14r12 : List Seg := [zf 34 0 1, zl 35 34, zo 36 (.bin .neq false (.tmp 35) (zi 2)), zv 33 36]
def c14r13 : List Seg := [zo 2 (.mv (zi 0)), zo 3 (.mv (zi 4))]
def c14t17 : ACode := .cond (.tmp 33) (.seq (zr 13 2 c14r13) .ret) .skip
def c14t18 : ACode := .cond (.tmp 29) (zr 11 1 c14r11) (.seq (zr 12 4 c14r12) c14t17)
def c14t19 : ACode := .cond (.tmp 25) (zr 9 1 c14r9) (.seq (zr 10 4 c14r10) c14t18)
def c14r14 : List Seg := [zv 37 5, zf 38 7 1, zl 39 38, zo 40 (.len false (.tmp 39)), zo 41 (.bin .sub false (.tmp 40) (zi 1)), zv 42 6, zc 43 62 [.tmp 37, .tmp 41, .tmp 42]]
def c14r15 : List Seg := [zf 44 7 1, zl 45 44, zo 46 (.len false (.tmp 45)), zo 47 (.mv (zi 0))]
def c14r16 : List Seg := [zo 48 (.bin .lss false (.tmp 47) (.tmp 46))]
def c14r17 : List Seg := [zv 49 47, zv 7 49]
def c14r18 : List Seg := [zv 50 5, zv 51 7, zc 52 63 [.tmp 50, .tmp 51], zv 8 52]
def c14r19 : List Seg := [zv 53 8, zo 54 (.bin .neq false (.tmp 53) (zi 0))]
def c14r20 : List Seg := [zv 55 7, zv 56 8, zv 2 55, zv 3 56]
def c14t27 : ACode := .cond (.tmp 54) (.seq (zr 20 4 c14r20) .ret) .skip
def c14t28 : ACode := .seq (zr 19 2 c14r19) c14t27
def c14t29 : ACode := .seq (zr 18 4 c14r18) c14t28
def c14r21 : List Seg := [zo 57 (.bin .add false (.tmp 47) (zi 1)), zv 47 57]
def c14t31 : ACode := .seq (.block 2 (.seq (zr 17 2 c14r17) c14t29)) (zr 21 2 c14r21)
def c14t32 : ACode := .seq (.cond (.tmp 48) .skip (.exit 1)) c14t31
def c14b33 : ACode := .seq (zr 16 1 c14r16) c14t32
def c14t34 : ACode := .block 1 (.loop c14b33)
def c14r22 : List Seg := [zf 58 7 1, zl 59 58, zo 60 (.len false (.tmp 59)), zv 2 60, zo 3 (.mv (zi 0))]
def c14t36 : ACode := .seq (.seq (zr 15 4 c14r15) c14t34) (.seq (zr 22 5 c14r22) .ret)
def c14t37 : ACode := .seq (zr 14 7 c14r14) c14t36
def c14t38 : ACode := .seq (.block 0 (.seq (zr 8 4 c14r8) c14t19)) c14t37
def c14t39 : ACode := .seq (zr 7 1 c14r7) c14t38
def c14t40 : ACode := .seq (.region 6 true 8 c14r6) c14t39
def c14t41 : ACode := .seq (.seq (zr 4 4 c14r4) c14t8) c14t40
def c14t42 : ACode := .seq (.seq (zr 1 3 c14r1) c14t5) c14t41
def c14 : ACode := .seq (zr 0 3 c14r0) c14t42
theorem k14 : Compiled Tryz.prog 14 61 [.tmp 2, .tmp 3] c14 := .mk' [] Tryz.func14 rfl (by kernel_rfl) (by kernel_rfl)
def c22r0 : List Seg := [zo 2 (.box 8 (.tmp 0)), zo 3 (.box 6 (.tmp 1)), zo 4 (.mv (zb false)), zo 5 (.mv (zi 0))]
def c22r1 : List Seg := [zo 7 (.load 8 true (.tmp 2)), zo 8 (.load 6 true (.tmp 3)), zc 9 71 [.tmp 7, .tmp 8], zv 6 9]
def c22r2 : List Seg := [zv 10 6, zo 11 (.bin .neq false (.tmp 10) (zi 0))]
def c22r3 : List Seg := [zv 12 6, zo 4 (.mv (zb false)), zv 5 12]
def c22r4 : List Seg := [zf 13 7 2, zl 14 13, zo 15 (.len false (.tmp 14)), zo 16 (.bin .eql false (.tmp 15) (zi 0)), zv 17 16, .br 17 false [zg 18 (.fa 7 (.tmp 2)) 17 false, zg 19 (.load 1 false (.tmp 18)) 17 false, zg 20 (.fa 7 (.tmp 2)) 17 false, zg 21 (.load 1 false (.tmp 20)) 17 false, zg 22 (.len false (.tmp 21)) 17 false, zg 23 (.bin .sub false (.tmp 22) (zi 1)) 17 false, zg 24 (.load 6 true (.tmp 3)) 17 false, .mk (some 25) (.call 72 [.tmp 19, .tmp 23, .tmp 24]) (some (17, false))], zo 26 (.pick (.tmp 17) (zb true) (.tmp 25)), zv 4 26, zo 5 (.mv (zi 0))]
def c22 : ACode := .seq (zr 0 4 c22r0) (.seq (.seq (zr 1 4 c22r1) (.seq (zr 2 2 c22r2) (.cond (.tmp 11) (.seq (zr 3 3 c22r3) .ret) .skip))) (.seq (zr 4 16 c22r4) .ret))
theorem k22 : Compiled Tryz.prog 22 27 [.tmp 4, .tmp 5] c22 := .mk' [] Tryz.func22 rfl (by kernel_rfl) (by kernel_rfl)
def c24r0 : List Seg := [zo 2 (.box 8 (.tmp 0)), zo 3 (.box 6 (.tmp 1)), zo 4 (.mv (zb false)), zo 5 (.mv (zi 0))]
def c24r1 : List Seg := [zo 9 (.load 8 true (.tmp 2)), zo 10 (.load 6 true (.tmp 3)), zc 11 71 [.tmp 9, .tmp 10], zv 6 11]
def c24r2 : List Seg := [zv 12 6, zo 13 (.bin .neq false (.tmp 12) (zi 0))]
def c24r3 : List Seg := [zv 14 6, zo 4 (.mv (zb false)), zv 5 14]
def c24r4 : List Seg := [zf 16 7 2, zl 17 16, zc 18 74 [.tmp 17], zv 15 18, zo 19 (.ext 0 (.tmp 15)), zo 20 (.ext 1 (.tmp 15)), zv 7 19, zv 8 20]
def c24r5 : List Seg := [zv 21 7, zo 22 (.bin .lss false (.tmp 21) (zi 0)), zv 23 22, .br 23 false [zg 24 (.fa 7 (.tmp 2)) 23 false, zg 25 (.load 1 false (.tmp 24)) 23 false, zg 26 (.mv (.tmp 7)) 23 false, zg 27 (.load 6 true (.tmp 3)) 23 false, .mk (some 28) (.call 72 [.tmp 25, .tmp 26, .tmp 27]) (some (23, false))], zo 29 (.pick (.tmp 23) (zb true) (.tmp 28)), zv 4 29, zo 5 (.mv (zi 0))]
def c24 : ACode := .seq (zr 0 4 c24r0) (.seq (.seq (zr 1 4 c24r1) (.seq (zr 2 2 c24r2) (.cond (.tmp 13) (.seq (zr 3 3 c24r3) .ret) .skip))) (.seq (zr 4 8 c24r4) (.seq (zr 5 11 c24r5) .ret)))
theorem k24 : Compiled Tryz.prog 24 30 [.tmp 4, .tmp 5] c24 := .mk' [] Tryz.func24 rfl (by kernel_rfl) (by kernel_rfl)
def c40r0 : List Seg := [zo 2 (.alloc [za, za, za, .t (.str (bs [])), .tt 1 [], .tt 6 []])]
def c40r1 : List Seg := [zv 3 0, zo 4 (.build [za, za, za, .t (.str (bs [])), .tt 1 [], .tt 6 []] [(0, (1, zi 2)), (1, (1, .tmp 3))]), zn (.store 6 (.tmp 2) (.tmp 4))]
def c40 : ACode := .seq (zr 0 1 c40r0) (.seq (zr 1 3 c40r1) .ret)
theorem k40 : Compiled Tryz.prog 40 5 [.cell 2 6 true] c40 := .mk' [] Tryz.func40 rfl (by kernel_rfl) (by kernel_rfl)
def c43r0 : List Seg := [zo 1 (.box 8 (.tmp 0)), zo 2 (.alloc [za, za]), zo 3 (.mv (zb false)), zo 4 (.mv (zi 0))]
def c43r1 : List Seg := [zo 8 (.load 8 true (.tmp 1)), zc 9 80 [.tmp 8], zf 10 0 1, zl 11 10, zo 12 (.bin .eql false (.tmp 11) (zi 2)), zc 13 81 [.tmp 12, zi 4], zo 14 (.bslice 1 2 [za, za] [(0, (1, .tmp 9)), (1, (1, .tmp 13))]), zc 15 79 [.tmp 14], zv 5 15]
def c43r2 : List Seg := [zv 16 5, zo 17 (.bin .neq false (.tmp 16) (zi 0))]
def c43r3 : List Seg := [zo 18 (.build [za, za] []), zv 19 5, zn (.store 2 (.tmp 2) (.tmp 18)), zo 3 (.mv (zb false)), zv 4 19]
def c43r4 : List Seg := [zf 21 7 1, zl 22 21, zc 23 74 [.tmp 22], zv 20 23, zo 24 (.ext 0 (.tmp 20)), zo 25 (.ext 1 (.tmp 20)), zv 6 24, zv 7 25]
def c43r5 : List Seg := [zv 26 6, zo 27 (.bin .lss false (.tmp 26) (zi 0))]
def c43r6 : List Seg := [zo 28 (.load 8 true (.tmp 1)), zo 29 (.load 8 true (.tmp 1)), zc 30 82 [.tmp 29], zc 31 89 [.tmp 28, .tmp 30], zo 32 (.ext 0 (.tmp 31)), zo 33 (.ext 1 (.tmp 31)), zo 34 (.ext 2 (.tmp 31)), zn (.store 2 (.tmp 2) (.tmp 32)), zv 3 33, zv 4 34]
def c43r7 : List Seg := [zo 35 (.load 8 true (.tmp 1)), zf 36 7 1, zl 37 36, zv 38 6, zc 39 90 [.tmp 37, .tmp 38], zc 40 89 [.tmp 35, .tmp 39], zo 41 (.ext 0 (.tmp 40)), zo 42 (.ext 1 (.tmp 40)), zo 43 (.ext 2 (.tmp 40)), zn (.store 2 (.tmp 2) (.tmp 41)), zv 3 42, zv 4 43]
def c43 : ACode := .seq (zr 0 4 c43r0) (.seq (.seq (.region 1 true 9 c43r1) (.seq (zr 2 2 c43r2) (.cond (.tmp 17) (.seq (zr 3 5 c43r3) .ret) .skip))) (.seq (zr 4 8 c43r4) (.seq (.seq (zr 5 2 c43r5) (.cond (.tmp 27) (.seq (.region 6 true 10 c43r6) .ret) .skip)) (.seq (.region 7 true 12 c43r7) .ret))))
theorem k43 : Compiled Tryz.prog 43 44 [.cell 2 2 true, .tmp 3, .tmp 4] c43 := .mk' [] Tryz.func43 rfl (by kernel_rfl) (by kernel_rfl)
def c59r0 : List Seg := [zo 1 (.box 8 (.tmp 0)), zo 2 (.mv (zi 0))]
def c59r1 : List Seg := [zo 4 (.build [za, .t (.bool false)] [(0, (1, zi 60))]), zo 5 (.box 2 (.tmp 4)), zv 3 5]
def c59r2 : List Seg := [zv 6 3, zo 7 (.load 8 true (.tmp 1)), zc 8 106 [.tmp 6, .tmp 7, zi 9]]
def c59r3 : List Seg := [zv 9 3, zo 10 (.nilc (.tmp 9)), zf 11 1 10, zl 12 11]
def c59r4 : List Seg := [zo 2 (.mv (zi 2))]
def c59t5 : ACode := .cond (.tmp 12) (.seq (zr 4 1 c59r4) .ret) .skip
def c59t6 : ACode := .seq (zr 3 4 c59r3) c59t5
def c59r5 : List Seg := [zo 13 (.load 8 true (.tmp 1)), zc 14 107 [.tmp 13], zv 2 14]
def c59t8 : ACode := .seq (.seq (zr 2 3 c59r2) c59t6) (.seq (zr 5 3 c59r5) .ret)
def c59t9 : ACode := .seq (zr 1 3 c59r1) c59t8
def c59 : ACode := .seq (zr 0 2 c59r0) c59t9
theorem k59 : Compiled Tryz.prog 59 15 [.tmp 2] c59 := .mk' [] Tryz.func59 rfl (by kernel_rfl) (by kernel_rfl)
def c60r0 : List Seg := [zo 2 (.mv (zb false))]
def c60r1 : List Seg := [zv 3 0, zo 4 (.bin .eql false (.tmp 3) (zi 6)), zv 5 4, .grp 5 false [zg 6 (.mv (.tmp 0)) 5 false, zg 7 (.bin .eql false (.tmp 6) (zi 4)) 5 false], zo 8 (.pick (.tmp 5) (zb true) (.tmp 7)), zv 9 8, .grp 9 false [zg 10 (.mv (.tmp 0)) 9 false, zg 11 (.bin .eql false (.tmp 10) (zi 5)) 9 false], zo 12 (.pick (.tmp 9) (zb true) (.tmp 11)), zv 2 12]
def c60 : ACode := .seq (zr 0 1 c60r0) (.seq (zr 1 11 c60r1) .ret)
theorem k60 : Compiled Tryz.prog 60 13 [.tmp 2] c60 := .mk' [] Tryz.func60 rfl (by kernel_rfl) (by kernel_rfl)
def c61r0 : List Seg := [zo 2 (.mv (zb false))]
def c61r1 : List Seg := [zv 3 0, zo 4 (.bin .eql false (.tmp 3) (zi 11)), zv 5 4, .grp 5 false [zg 6 (.mv (.tmp 0)) 5 false, zg 7 (.bin .eql false (.tmp 6) (zi 12)) 5 false], zo 8 (.pick (.tmp 5) (zb true) (.tmp 7)), zv 2 8]
def c61 : ACode := .seq (zr 0 1 c61r0) (.seq (zr 1 7 c61r1) .ret)
theorem k61 : Compiled Tryz.prog 61 9 [.tmp 2] c61 := .mk' [] Tryz.func61 rfl (by kernel_rfl) (by kernel_rfl)
def c62r0 : List Seg := [zv 9 0, zo 10 (.nilc (.tmp 9)), zf 11 8 10, zl 12 11, zv 13 1, zv 14 2, zo 15 (.ia 1 (.tmp 12) (.tmp 13)), zn (.store 1 (.tmp 15) (.tmp 14))]
def c62r1 : List Seg := [zv 16 0, zo 17 (.nilc (.tmp 16)), zf 18 0 17, zf 19 7 18, zl 20 19, zv 21 1, zo 22 (.ia 5 (.tmp 20) (.tmp 21)), zf 23 4 22, zl 24 23, zo 25 (.len false (.tmp 24)), zo 26 (.mv (zi 0))]
def c62r2 : List Seg := [zo 27 (.bin .lss false (.tmp 26) (.tmp 25))]
def c62r3 : List Seg := [zo 28 (.ia 1 (.tmp 24) (.tmp 26)), zl 29 28, zv 7 29]
def c62r4 : List Seg := [zv 30 2, zv 8 30]
def c62r5 : List Seg := [zv 31 0, zo 32 (.nilc (.tmp 31)), zf 33 0 32, zf 34 7 33, zl 35 34, zv 36 1, zo 37 (.ia 5 (.tmp 35) (.tmp 36)), zf 38 0 37, zl 39 38]
def c62r6 : List Seg := [zo 41 (.bin .eql false (.tmp 39) (zi 2)), zv 40 41]
def c62r7 : List Seg := [zo 8 (.mv (zi 3))]
def c62r8 : List Seg := [zo 43 (.bin .eql false (.tmp 39) (zi 3)), zv 42 43]
def c62r9 : List Seg := [zo 8 (.mv (zi 4))]
def c62t10 : ACode := .cond (.tmp 42) (zr 9 1 c62r9) .skip
def c62t11 : ACode := .cond (.tmp 40) (zr 7 1 c62r7) (.seq (zr 8 2 c62r8) c62t10)
def c62t12 : ACode := .block 2 (.seq (zr 6 2 c62r6) c62t11)
def c62r10 : List Seg := [zv 44 0, zv 45 7, zv 46 8, zc 47 62 [.tmp 44, .tmp 45, .tmp 46]]
def c62t14 : ACode := .seq (.seq (zr 5 9 c62r5) c62t12) (zr 10 4 c62r10)
def c62t15 : ACode := .seq (zr 4 2 c62r4) c62t14
def c62r11 : List Seg := [zo 48 (.bin .add false (.tmp 26) (zi 1)), zv 26 48]
def c62t17 : ACode := .seq (.block 1 (.seq (zr 3 3 c62r3) c62t15)) (zr 11 2 c62r11)
def c62t18 : ACode := .seq (.cond (.tmp 27) .skip (.exit 0)) c62t17
def c62b19 : ACode := .seq (zr 2 1 c62r2) c62t18
def c62t20 : ACode := .block 0 (.loop c62b19)
def c62t21 : ACode := .seq (zr 1 11 c62r1) c62t20
def c62 : ACode := .seq (zr 0 8 c62r0) c62t21
theorem k62 : Compiled Tryz.prog 62 49 [] c62 := .mk' [] Tryz.func62 rfl (by kernel_rfl) (by kernel_rfl)
def c63r0 : List Seg := [zo 4 (.mv (zi 0))]
def c63r1 : List Seg := [zv 9 0, zo 10 (.nilc (.tmp 9)), zf 11 0 10, zf 12 7 11, zl 13 12, zv 14 1, zo 15 (.ia 5 (.tmp 13) (.tmp 14)), zo 16 (.load 5 true (.tmp 15)), zo 5 (.alloc [za, za, za, .t (.str (bs [])), .tt 1 []]), zn (.store 5 (.tmp 5) (.tmp 16))]
def c63r2 : List Seg := [zv 17 1, zv 18 0, zo 19 (.nilc (.tmp 18)), zf 20 0 19, zf 21 7 20, zl 22 21, zo 23 (.len false (.tmp 22)), zo 24 (.bin .sub false (.tmp 23) (zi 1)), zo 25 (.bin .eql false (.tmp 17) (.tmp 24)), zv 6 25]
def c63r3 : List Seg := [zf 26 0 5, zl 27 26, zo 28 (.bin .neq false (.tmp 27) (zi 7)), zv 29 28, .grp 29 false [zg 30 (.mv (.tmp 6)) 29 false], zo 31 (.pick (.tmp 29) (zb true) (.tmp 30)), zc 32 81 [.tmp 31, zi 28], zv 33 0, zv 34 1, zc 35 108 [.tmp 33, .tmp 34], zc 36 81 [.tmp 35, zi 17], zo 37 (.bslice 1 2 [za, za] [(0, (1, .tmp 32)), (1, (1, .tmp 36))]), zc 38 79 [.tmp 37], zv 7 38]
def c63r4 : List Seg := [zv 39 7, zo 40 (.bin .neq false (.tmp 39) (zi 0))]
def c63r5 : List Seg := [zv 41 7, zv 4 41]
def c63t6 : ACode := .cond (.tmp 40) (.seq (zr 5 2 c63r5) .ret) .skip
def c63t7 : ACode := .seq (zr 4 2 c63r4) c63t6
def c63r6 : List Seg := [zf 42 0 5, zl 43 42]
def c63r7 : List Seg := [zo 45 (.bin .eql false (.tmp 43) (zi 0)), zv 44 45]
def c63r8 : List Seg := [zv 46 0, zv 47 1, zc 48 109 [.tmp 46, .tmp 47], zo 8 (.alloc [za, za]), zn (.store 2 (.tmp 8) (.tmp 48))]
def c63r9 : List Seg := [zf 49 1 5, zl 50 49, zf 51 2 5, zl 52 51, zo 53 (.bin .leq false (.tmp 50) (.tmp 52)), zv 54 53, .grp 54 true [zg 55 (.fa 0 (.tmp 8)) 54 true, zg 56 (.load 1 false (.tmp 55)) 54 true, zg 57 (.fa 1 (.tmp 5)) 54 true, zg 58 (.load 1 false (.tmp 57)) 54 true, zg 59 (.bin .leq false (.tmp 56) (.tmp 58)) 54 true], zo 60 (.pick (.tmp 54) (.tmp 59) (zb false)), zv 61 60, .grp 61 true [zg 62 (.fa 2 (.tmp 5)) 61 true, zg 63 (.load 1 false (.tmp 62)) 61 true, zg 64 (.fa 1 (.tmp 8)) 61 true, zg 65 (.load 1 false (.tmp 64)) 61 true, zg 66 (.bin .leq false (.tmp 63) (.tmp 65)) 61 true], zo 67 (.pick (.tmp 61) (.tmp 66) (zb false)), zc 68 81 [.tmp 67, zi 3], zv 4 68]
def c63r10 : List Seg := [zo 70 (.bin .eql false (.tmp 43) (zi 1)), zv 69 70]
def c63r11 : List Seg := [zv 71 0, zv 72 1, zc 73 110 [.tmp 71, .tmp 72], zc 74 81 [.tmp 73, zi 17], zf 75 3 5, zl 76 75, zo 77 (.len true (.tmp 76)), zo 78 (.bin .leq false (.tmp 77) (zi 200)), zc 79 81 [.tmp 78, zi 2], zo 80 (.bslice 1 2 [za, za] [(0, (1, .tmp 74)), (1, (1, .tmp 79))]), zc 81 79 [.tmp 80], zv 4 81]
def c63t14 : ACode := .cond (.tmp 69) (.seq (.region 11 true 12 c63r11) .ret) .skip
def c63t15 : ACode := .cond (.tmp 44) (.seq (zr 8 5 c63r8) (.seq (zr 9 21 c63r9) .ret)) (.seq (zr 10 2 c63r10) c63t14)
def c63t16 : ACode := .block 0 (.seq (zr 7 2 c63r7) c63t15)
def c63r12 : List Seg := [zo 4 (.mv (zi 0))]
def c63t18 : ACode := .seq (.seq (zr 6 2 c63r6) c63t16) (.seq (zr 12 1 c63r12) .ret)
def c63t19 : ACode := .seq (.seq (zr 3 14 c63r3) c63t7) c63t18
def c63t20 : ACode := .seq (zr 2 10 c63r2) c63t19
def c63t21 : ACode := .seq (zr 1 10 c63r1) c63t20
def c63 : ACode := .seq (zr 0 1 c63r0) c63t21
theorem k63 : Compiled Tryz.prog 63 82 [.tmp 4] c63 := .mk' [] Tryz.func63 rfl (by kernel_rfl) (by kernel_rfl)
def c71r0 : List Seg := [zo 2 (.box 8 (.tmp 0)), zo 3 (.box 6 (.tmp 1)), zo 4 (.mv (zi 0))]
def c71r1 : List Seg := [zo 6 (.load 8 true (.tmp 2)), zc 7 80 [.tmp 6], zo 8 (.load 6 true (.tmp 3)), zc 9 118 [.tmp 8], zo 10 (.bslice 1 2 [za, za] [(0, (1, .tmp 7)), (1, (1, .tmp 9))]), zc 11 79 [.tmp 10], zv 5 11]
def c71r2 : List Seg := [zv 12 5, zo 13 (.bin .neq false (.tmp 12) (zi 0))]
def c71r3 : List Seg := [zv 14 5, zv 4 14]
def c71r4 : List Seg := [zo 15 (.load 8 true (.tmp 2)), zo 16 (.load 6 true (.tmp 3)), zc 17 119 [.tmp 15, .tmp 16], zc 18 81 [.tmp 17, zi 17], zv 4 18]
def c71 : ACode := .seq (zr 0 3 c71r0) (.seq (.seq (.region 1 true 7 c71r1) (.seq (zr 2 2 c71r2) (.cond (.tmp 13) (.seq (zr 3 2 c71r3) .ret) .skip))) (.seq (zr 4 5 c71r4) .ret))
theorem k71 : Compiled Tryz.prog 71 19 [.tmp 4] c71 := .mk' [] Tryz.func71 rfl (by kernel_rfl) (by kernel_rfl)
def c72r0 : List Seg := [zo 3 (.box 1 (.tmp 0)), zo 5 (.box 6 (.tmp 2)), zo 6 (.mv (zb false))]
def c72r1 : List Seg := [zl 9 3, zv 10 1, zo 11 (.ia 5 (.tmp 9) (.tmp 10)), zo 12 (.load 5 true (.tmp 11)), zo 7 (.alloc [za, za, za, .t (.str (bs [])), .tt 1 []]), zn (.store 5 (.tmp 7) (.tmp 12))]
def c72r2 : List Seg := [zf 13 0 7, zl 14 13]
def c72r3 : List Seg := [zo 16 (.bin .eql false (.tmp 14) (zi 0)), zv 15 16]
def c72r4 : List Seg := [zf 17 1 5, zl 18 17, zf 19 1 7, zl 20 19, zf 21 2 7, zl 22 21, zc 23 85 [.tmp 18, .tmp 20, .tmp 22], zv 6 23]
def c72r5 : List Seg := [zo 25 (.bin .eql false (.tmp 14) (zi 1)), zv 24 25]
def c72r6 : List Seg := [zf 26 3 5, zl 27 26, zf 28 3 7, zl 29 28, zo 30 (.bin .eql false (.tmp 27) (.tmp 29)), zv 6 30]
def c72r7 : List Seg := [zo 32 (.bin .eql false (.tmp 14) (zi 2)), zv 31 32]
def c72r8 : List Seg := [zl 33 3, zf 34 4 7, zl 35 34, zo 36 (.ia 1 (.tmp 35) (zi 0)), zl 37 36, zc 38 90 [.tmp 33, .tmp 37], zo 39 (.load 6 true (.tmp 5)), zc 40 121 [.tmp 39], zc 41 120 [.tmp 38, .tmp 40], zv 6 41]
def c72r9 : List Seg := [zo 43 (.bin .eql false (.tmp 14) (zi 3)), zv 42 43]
def c72r10 : List Seg := [zl 44 3, zf 45 4 7, zl 46 45, zo 47 (.ia 1 (.tmp 46) (zi 0)), zl 48 47, zc 49 90 [.tmp 44, .tmp 48], zo 8 (.alloc [.tt 2 []]), zn (.store 1 (.tmp 8) (.tmp 49))]
def c72r11 : List Seg := [zf 50 3 5, zl 51 50, zo 52 (.cvBytes (.tmp 51)), zo 53 (.mkfn 123 [.tmp 8]), zc 54 122 [.tmp 52, .tmp 53], zo 55 (.un .not (.tmp 54)), zv 6 55]
def c72r12 : List Seg := [zo 57 (.bin .eql false (.tmp 14) (zi 5)), zv 56 57]
def c72r13 : List Seg := [zl 58 3, zf 59 4 7, zl 60 59, zo 61 (.ia 1 (.tmp 60) (zi 0)), zl 62 61, zo 63 (.load 6 true (.tmp 5)), zc 64 72 [.tmp 58, .tmp 62, .tmp 63], zv 65 64, .br 65 true [zg 66 (.load 1 false (.tmp 3)) 65 true, zg 67 (.fa 4 (.tmp 7)) 65 true, zg 68 (.load 1 false (.tmp 67)) 65 true, zg 69 (.ia 1 (.tmp 68) (zi 1)) 65 true, zg 70 (.load 1 false (.tmp 69)) 65 true, zg 71 (.load 6 true (.tmp 5)) 65 true, .mk (some 72) (.call 72 [.tmp 66, .tmp 70, .tmp 71]) (some (65, true))], zo 73 (.pick (.tmp 65) (.tmp 72) (zb false)), zv 6 73]
def c72r14 : List Seg := [zo 75 (.bin .eql false (.tmp 14) (zi 6)), zv 74 75]
def c72r15 : List Seg := [zl 76 3, zf 77 4 7, zl 78 77, zo 79 (.ia 1 (.tmp 78) (zi 0)), zl 80 79, zo 81 (.load 6 true (.tmp 5)), zc 82 72 [.tmp 76, .tmp 80, .tmp 81], zv 83 82, .br 83 true [zg 84 (.load 1 false (.tmp 3)) 83 true, zg 85 (.fa 4 (.tmp 7)) 83 true, zg 86 (.load 1 false (.tmp 85)) 83 true, zg 87 (.ia 1 (.tmp 86) (zi 1)) 83 true, zg 88 (.load 1 false (.tmp 87)) 83 true, zg 89 (.load 6 true (.tmp 5)) 83 true, .mk (some 90) (.call 72 [.tmp 84, .tmp 88, .tmp 89]) (some (83, true)), zg 91 (.un .not (.tmp 90)) 83 true], zo 92 (.pick (.tmp 83) (.tmp 91) (zb false)), zv 6 92]
def c72r16 : List Seg := [zf 93 4 7, zl 94 93, zo 95 (.mkfn 125 [.tmp 3, .tmp 5]), zc 96 124 [.tmp 94, .tmp 95], zv 6 96]
def c72 : ACode := .seq (zr 0 3 c72r0) (.seq (zr 1 6 c72r1) (.seq (.seq (zr 2 2 c72r2) (.block 0 (.seq (zr 3 2 c72r3) (.cond (.tmp 15) (.seq (zr 4 8 c72r4) .ret) (.seq (zr 5 2 c72r5) (.cond (.tmp 24) (.seq (zr 6 6 c72r6) .ret) (.seq (zr 7 2 c72r7) (.cond (.tmp 31) (.seq (.region 8 true 10 c72r8) .ret) (.seq (zr 9 2 c72r9) (.cond (.tmp 42) (.seq (.region 10 true 8 c72r10) (.seq (zr 11 7 c72r11) .ret)) (.seq (zr 12 2 c72r12) (.cond (.tmp 56) (.seq (.region 13 true 17 c72r13) .ret) (.seq (zr 14 2 c72r14) (.cond (.tmp 74) (.seq (.region 15 true 18 c72r15) .ret) .skip)))))))))))))) (.seq (zr 16 5 c72r16) .ret)))
theorem k72 : Compiled Tryz.prog 72 97 [.tmp 6] c72 := .mk' [] Tryz.func72 rfl (by kernel_rfl) (by kernel_rfl)
def c74r0 : List Seg := [zo 2 (.mv (zi 0)), zo 3 (.mv (zb false))]
def c74r1 : List Seg := [zv 5 0, zo 6 (.len false (.tmp 5)), zo 7 (.bin .eql false (.tmp 6) (zi 0))]
def c74r2 : List Seg := [zo 2 (.mv (zi (-1))), zo 3 (.mv (zb false))]
def c74r3 : List Seg := [zv 8 0, zv 9 0, zo 10 (.len false (.tmp 9)), zo 11 (.bin .sub false (.tmp 10) (zi 1)), zo 12 (.ia 5 (.tmp 8) (.tmp 11)), zo 13 (.load 5 true (.tmp 12)), zo 4 (.alloc [za, za, za, .t (.str (bs [])), .tt 1 []]), zn (.store 5 (.tmp 4) (.tmp 13))]
def c74r4 : List Seg := [zf 14 0 4, zl 15 14, zo 16 (.bin .eql false (.tmp 15) (zi 7))]
def c74r5 : List Seg := [zf 17 4 4, zl 18 17, zo 19 (.ia 1 (.tmp 18) (zi 0)), zl 20 19, zv 2 20, zo 3 (.mv (zb true))]
def c74r6 : List Seg := [zv 21 0, zo 22 (.len false (.tmp 21)), zo 23 (.bin .sub false (.tmp 22) (zi 1)), zv 2 23, zo 3 (.mv (zb false))]
def c74 : ACode := .seq (zr 0 2 c74r0) (.seq (.seq (zr 1 3 c74r1) (.cond (.tmp 7) (.seq (zr 2 2 c74r2) .ret) .skip)) (.seq (.seq (zr 3 8 c74r3) (.seq (zr 4 3 c74r4) (.cond (.tmp 16) (.seq (zr 5 6 c74r5) .ret) .skip))) (.seq (zr 6 5 c74r6) .ret)))
theorem k74 : Compiled Tryz.prog 74 24 [.tmp 2, .tmp 3] c74 := .mk' [] Tryz.func74 rfl (by kernel_rfl) (by kernel_rfl)
def c80r0 : List Seg := [zo 1 (.box 8 (.tmp 0)), zo 2 (.mv (zi 0))]
def c80r1 : List Seg := [zo 6 (.load 8 true (.tmp 1)), zc 7 14 [.tmp 6], zv 5 7, zo 8 (.ext 0 (.tmp 5)), zo 9 (.ext 1 (.tmp 5)), zv 3 8, zv 4 9]
def c80r2 : List Seg := [zv 10 4, zv 2 10]
def c80 : ACode := .seq (zr 0 2 c80r0) (.seq (zr 1 7 c80r1) (.seq (zr 2 2 c80r2) .ret))
theorem k80 : Compiled Tryz.prog 80 11 [.tmp 2] c80 := .mk' [] Tryz.func80 rfl (by kernel_rfl) (by kernel_rfl)
def c89r0 : List Seg := [zo 2 (.box 8 (.tmp 0)), zo 4 (.alloc [za, za]), zo 5 (.mv (zb false)), zo 6 (.mv (zi 0))]
def c89r1 : List Seg := [zv 9 1, zo 10 (.len false (.tmp 9)), zo 11 (.bin .eql false (.tmp 10) (zi 0))]
def c89r2 : List Seg := [zo 12 (.build [za, za] []), zn (.store 2 (.tmp 4) (.tmp 12)), zo 5 (.mv (zb false)), zo 6 (.mv (zi 23))]
def c89r3 : List Seg := [zf 14 7 2, zl 15 14, zc 16 74 [.tmp 15], zv 13 16, zo 17 (.ext 0 (.tmp 13)), zo 18 (.ext 1 (.tmp 13)), zv 7 17, zv 8 18]
def c89r4 : List Seg := [zv 19 1, zo 20 (.ia 2 (.tmp 19) (zi 0)), zf 21 0 20, zl 22 21, zv 23 1, zv 24 1, zo 25 (.len false (.tmp 24)), zo 26 (.bin .sub false (.tmp 25) (zi 1)), zo 27 (.ia 2 (.tmp 23) (.tmp 26)), zf 28 1 27, zl 29 28, zo 30 (.build [za, za] [(0, (1, .tmp 22)), (1, (1, .tmp 29))]), zv 31 8, zn (.store 2 (.tmp 4) (.tmp 30)), zv 5 31, zo 6 (.mv (zi 0))]
def c89 : ACode := .seq (zr 0 4 c89r0) (.seq (.seq (zr 1 3 c89r1) (.cond (.tmp 11) (.seq (zr 2 4 c89r2) .ret) .skip)) (.seq (zr 3 8 c89r3) (.seq (.region 4 true 16 c89r4) .ret)))
theorem k89 : Compiled Tryz.prog 89 32 [.cell 4 2 true, .tmp 5, .tmp 6] c89 := .mk' [] Tryz.func89 rfl (by kernel_rfl) (by kernel_rfl)
def c90r0 : List Seg := [zo 4 (.mv (.con (.one (.tt 2 []))))]
def c90r1 : List Seg := [zv 11 0, zv 12 1, zo 13 (.ia 5 (.tmp 11) (.tmp 12)), zo 14 (.load 5 true (.tmp 13)), zo 5 (.alloc [za, za, za, .t (.str (bs [])), .tt 1 []]), zn (.store 5 (.tmp 5) (.tmp 14))]
def c90r2 : List Seg := [zf 15 0 5, zl 16 15]
def c90r3 : List Seg := [zo 18 (.bin .eql false (.tmp 16) (zi 0)), zv 17 18]
def c90r4 : List Seg := [zf 19 1 5, zl 20 19, zf 21 2 5, zl 22 21, zo 23 (.build [za, za] [(0, (1, .tmp 20)), (1, (1, .tmp 22))]), zo 24 (.bslice 2 1 [za, za] [(0, (2, .tmp 23))]), zv 4 24]
def c90r5 : List Seg := [zo 26 (.bin .eql false (.tmp 16) (zi 1)), zv 25 26]
def c90r6 : List Seg := [zo 6 (.mv (.con (.one (.tt 2 []))))]
def c90r7 : List Seg := [zf 27 3 5, zl 28 27, zo 29 (.cvBytes (.tmp 28)), zo 30 (.len false (.tmp 29)), zo 31 (.mv (zi 0))]
def c90r8 : List Seg := [zo 32 (.bin .lss false (.tmp 31) (.tmp 30))]
def c90r9 : List Seg := [zo 33 (.ia 1 (.tmp 29) (.tmp 31)), zl 34 33, zv 8 34]
def c90r10 : List Seg := [zv 35 6, zv 36 8, zo 37 (.cvInt .i64 (.tmp 36)), zv 38 8, zo 39 (.cvInt .i64 (.tmp 38)), zo 40 (.build [za, za] [(0, (1, .tmp 37)), (1, (1, .tmp 39))]), zo 41 (.bslice 2 1 [za, za] [(0, (2, .tmp 40))]), zo 42 (.app true 2 16 (.tmp 35) (.tmp 41)), zv 6 42]
def c90r11 : List Seg := [zo 43 (.bin .add false (.tmp 31) (zi 1)), zv 31 43]
def c90b12 : ACode := .seq (zr 8 1 c90r8) (.seq (.cond (.tmp 32) .skip (.exit 1)) (.seq (.block 2 (.seq (zr 9 3 c90r9) (zr 10 9 c90r10))) (zr 11 2 c90r11)))
def c90r12 : List Seg := [zv 44 6, zc 45 130 [.tmp 44], zv 4 45]
def c90r13 : List Seg := [zo 47 (.bin .eql false (.tmp 16) (zi 2)), zv 46 47]
def c90r14 : List Seg := [zv 48 0, zf 49 4 5, zl 50 49, zo 51 (.ia 1 (.tmp 50) (zi 0)), zl 52 51, zc 53 90 [.tmp 48, .tmp 52], zv 4 53]
def c90r15 : List Seg := [zv 54 0, zf 55 4 5, zl 56 55, zo 57 (.ia 1 (.tmp 56) (zi 0)), zl 58 57, zc 59 90 [.tmp 54, .tmp 58], zv 9 59]
def c90r16 : List Seg := [zf 60 4 5, zl 61 60, zo 62 (.len false (.tmp 61)), zo 63 (.bin .lss false (.tmp 62) (zi 2))]
def c90r17 : List Seg := [zv 64 9, zv 4 64]
def c90r18 : List Seg := [zv 65 0, zf 66 4 5, zl 67 66, zo 68 (.ia 1 (.tmp 67) (zi 1)), zl 69 68, zc 70 90 [.tmp 65, .tmp 69], zv 10 70]
def c90r19 : List Seg := [zf 71 0 5, zl 72 71]
def c90r20 : List Seg := [zo 74 (.bin .eql false (.tmp 72) (zi 5)), zv 73 74]
def c90r21 : List Seg := [zv 75 9, zv 76 10, zc 77 132 [.tmp 75, .tmp 76], zv 4 77]
def c90r22 : List Seg := [zo 79 (.bin .eql false (.tmp 72) (zi 6)), zv 78 79]
def c90r23 : List Seg := [zv 80 9, zv 81 10, zc 82 102 [.tmp 80, .tmp 81], zv 4 82]
def c90r24 : List Seg := [zv 83 9, zv 84 10, zc 85 86 [zi 0, .tmp 83, .tmp 84], zv 4 85]
def c90 : ACode := .seq (zr 0 1 c90r0) (.seq (zr 1 6 c90r1) (.seq (.seq (zr 2 2 c90r2) (.block 0 (.seq (zr 3 2 c90r3) (.cond (.tmp 17) (.seq (zr 4 7 c90r4) .ret) (.seq (zr 5 2 c90r5) (.cond (.tmp 25) (.seq (zr 6 1 c90r6) (.seq (.seq (zr 7 5 c90r7) (.block 1 (.loop c90b12))) (.seq (zr 12 3 c90r12) .ret))) (.seq (zr 13 2 c90r13) (.cond (.tmp 46) (.seq (zr 14 7 c90r14) .ret) .skip)))))))) (.seq (zr 15 7 c90r15) (.seq (.seq (zr 16 4 c90r16) (.cond (.tmp 63) (.seq (zr 17 2 c90r17) .ret) .skip)) (.seq (zr 18 7 c90r18) (.seq (.seq (zr 19 2 c90r19) (.block 3 (.seq (zr 20 2 c90r20) (.cond (.tmp 73) (.seq (zr 21 4 c90r21) .ret) (.seq (zr 22 2 c90r22) (.cond (.tmp 78) (.seq (zr 23 4 c90r23) .ret) .skip)))))) (.seq (zr 24 4 c90r24) .ret)))))))
theorem k90 : Compiled Tryz.prog 90 86 [.tmp 4] c90 := .mk' [] Tryz.func90 rfl (by kernel_rfl) (by kernel_rfl)
def c106r0 : List Seg := [zo 4 (.box 8 (.tmp 1))]
def c106r1 : List Seg := [zv 12 0, zv 13 2, zc 14 144 [.tmp 12, .tmp 13], zo 15 (.un .not (.tmp 14))]
def c106r2 : List Seg := [zf 16 3 4, zl 17 16, zo 18 (.len false (.tmp 17)), zo 19 (.mv (zi 0))]
def c106r3 : List Seg := [zo 20 (.bin .lss false (.tmp 19) (.tmp 18))]
def c106r4 : List Seg := [zo 21 (.ia 13 (.tmp 17) (.tmp 19)), zo 22 (.load 13 true (.tmp 21)), zo 7 (.alloc [.t (.str (bs [])), za, za, .t (.str (bs [])), .tt 3 [], .tt 13 [], .t (.bool false), za, .tt 8 [], .tt 5 [], za, .tt 6 [], za]), zn (.store 13 (.tmp 7) (.tmp 22))]
def c106r5 : List Seg := [zv 23 0, zo 24 (.nilc (.tmp 23)), zf 25 1 24, zl 26 25]
def c106r6 : List Seg := [zv 27 0, zf 28 2 7, zo 29 (.load 8 true (.tmp 28)), zv 30 2, zo 31 (.bin .sub false (.tmp 30) (zi 1)), zc 32 106 [.tmp 27, .tmp 29, .tmp 31]]
def c106r7 : List Seg := [zf 33 11 7, zl 34 33, zo 35 (.len false (.tmp 34)), zo 36 (.mv (zi 0))]
def c106r8 : List Seg := [zo 37 (.bin .lss false (.tmp 36) (.tmp 35))]
def c106r9 : List Seg := [zo 38 (.ia 6 (.tmp 34) (.tmp 36)), zo 39 (.load 6 true (.tmp 38)), zo 9 (.alloc [za, za, za, .t (.str (bs [])), .tt 1 [], .tt 6 []]), zn (.store 6 (.tmp 9) (.tmp 39))]
def c106r10 : List Seg := [zv 40 0, zo 41 (.nilc (.tmp 40)), zf 42 1 41, zl 43 42]
def c106r11 : List Seg := [zv 44 0, zo 45 (.load 6 true (.tmp 9)), zv 46 2, zo 47 (.bin .sub false (.tmp 46) (zi 1)), zc 48 145 [.tmp 44, .tmp 45, .tmp 47]]
def c106r12 : List Seg := [zo 49 (.bin .add false (.tmp 36) (zi 1)), zv 36 49]
def c106b13 : ACode := .seq (zr 8 1 c106r8) (.seq (.cond (.tmp 37) .skip (.exit 2)) (.seq (.block 3 (.seq (zr 9 4 c106r9) (.seq (.seq (zr 10 4 c106r10) (.cond (.tmp 43) .ret .skip)) (zr 11 5 c106r11)))) (zr 12 2 c106r12)))
def c106r13 : List Seg := [zo 50 (.bin .add false (.tmp 19) (zi 1)), zv 19 50]
def c106b15 : ACode := .seq (zr 3 1 c106r3) (.seq (.cond (.tmp 20) .skip (.exit 0)) (.seq (.block 1 (.seq (zr 4 4 c106r4) (.seq (.seq (zr 5 4 c106r5) (.cond (.tmp 26) .ret .skip)) (.seq (zr 6 6 c106r6) (.seq (zr 7 4 c106r7) (.block 2 (.loop c106b13))))))) (zr 13 2 c106r13)))
def c106r14 : List Seg := [zf 51 6 4, zl 52 51, zo 53 (.len false (.tmp 52)), zo 54 (.mv (zi 0))]
def c106r15 : List Seg := [zo 55 (.bin .lss false (.tmp 54) (.tmp 53))]
def c106r16 : List Seg := [zo 56 (.ia 8 (.tmp 52) (.tmp 54)), zo 57 (.load 8 true (.tmp 56)), zo 11 (.alloc [za, .t (.str (bs [])), .tt 3 [], .tt 13 [], .t (.bool false), za, .tt 8 [], .tt 5 []]), zn (.store 8 (.tmp 11) (.tmp 57))]
def c106r17 : List Seg := [zv 58 0, zo 59 (.nilc (.tmp 58)), zf 60 1 59, zl 61 60]
def c106r18 : List Seg := [zv 62 0, zo 63 (.load 8 true (.tmp 11)), zv 64 2, zo 65 (.bin .sub false (.tmp 64) (zi 1)), zc 66 106 [.tmp 62, .tmp 63, .tmp 65]]
def c106r19 : List Seg := [zo 67 (.bin .add false (.tmp 54) (zi 1)), zv 54 67]
def c106b22 : ACode := .seq (zr 15 1 c106r15) (.seq (.cond (.tmp 55) .skip (.exit 4)) (.seq (.block 5 (.seq (zr 16 4 c106r16) (.seq (.seq (zr 17 4 c106r17) (.cond (.tmp 61) .ret .skip)) (zr 18 5 c106r18)))) (zr 19 2 c106r19)))
def c106 : ACode := .seq (zr 0 1 c106r0) (.seq (.seq (zr 1 4 c106r1) (.cond (.tmp 15) .ret .skip)) (.seq (.seq (zr 2 4 c106r2) (.block 0 (.loop c106b15))) (.seq (zr 14 4 c106r14) (.block 4 (.loop c106b22)))))
theorem k106 : Compiled Tryz.prog 106 68 [] c106 := .mk' [] Tryz.func106 rfl (by kernel_rfl) (by kernel_rfl)
def c107r0 : List Seg := [zo 1 (.box 8 (.tmp 0)), zo 2 (.mv (zi 0))]
def c107r1 : List Seg := [zo 14 (.load 8 true (.tmp 1)), zc 15 146 [.tmp 14], zv 3 15]
def c107r2 : List Seg := [zv 16 3, zo 17 (.bin .neq false (.tmp 16) (zi 0))]
def c107r3 : List Seg := [zv 18 3, zv 2 18]
def c107t4 : ACode := .cond (.tmp 17) (.seq (zr 3 2 c107r3) .ret) .skip
def c107t5 : ACode := .seq (zr 2 2 c107r2) c107t4
def c107r4 : List Seg := [zo 19 (.load 8 true (.tmp 1)), zc 20 147 [.tmp 19], zv 4 20]
def c107r5 : List Seg := [zv 21 4, zo 22 (.bin .neq false (.tmp 21) (zi 0))]
def c107r6 : List Seg := [zv 23 4, zv 2 23]
def c107t9 : ACode := .cond (.tmp 22) (.seq (zr 6 2 c107r6) .ret) .skip
def c107t10 : ACode := .seq (zr 5 2 c107r5) c107t9
def c107r7 : List Seg := [zf 24 3 1, zl 25 24, zo 26 (.len false (.tmp 25)), zo 27 (.mv (zi 0))]
def c107r8 : List Seg := [zo 28 (.bin .lss false (.tmp 27) (.tmp 26))]
def c107r9 : List Seg := [zo 29 (.ia 13 (.tmp 25) (.tmp 27)), zo 30 (.load 13 true (.tmp 29)), zo 6 (.alloc [.t (.str (bs [])), za, za, .t (.str (bs [])), .tt 3 [], .tt 13 [], .t (.bool false), za, .tt 8 [], .tt 5 [], za, .tt 6 [], za]), zn (.store 13 (.tmp 6) (.tmp 30))]
def c107r10 : List Seg := [zf 31 0 1, zl 32 31, zc 33 148 [.tmp 32]]
def c107r11 : List Seg := [zf 34 2 6, zo 35 (.load 8 true (.tmp 34)), zc 36 107 [.tmp 35], zv 7 36]
def c107r12 : List Seg := [zv 37 7, zo 38 (.bin .neq false (.tmp 37) (zi 0))]
def c107r13 : List Seg := [zv 39 7, zv 2 39]
def c107t18 : ACode := .cond (.tmp 38) (.seq (zr 13 2 c107r13) .ret) .skip
def c107t19 : ACode := .seq (zr 12 2 c107r12) c107t18
def c107t20 : ACode := .cond (.tmp 33) (.seq (zr 11 4 c107r11) c107t19) .skip
def c107r14 : List Seg := [zf 40 11 6, zl 41 40, zo 42 (.len false (.tmp 41)), zo 43 (.mv (zi 0))]
def c107r15 : List Seg := [zo 44 (.bin .lss false (.tmp 43) (.tmp 42))]
def c107r16 : List Seg := [zo 45 (.ia 6 (.tmp 41) (.tmp 43)), zo 46 (.load 6 true (.tmp 45)), zo 9 (.alloc [za, za, za, .t (.str (bs [])), .tt 1 [], .tt 6 []]), zn (.store 6 (.tmp 9) (.tmp 46))]
def c107r17 : List Seg := [zo 47 (.load 6 true (.tmp 9)), zc 48 149 [.tmp 47], zv 10 48]
def c107r18 : List Seg := [zv 49 10, zo 50 (.bin .neq false (.tmp 49) (zi 0))]
def c107r19 : List Seg := [zv 51 10, zv 2 51]
def c107t27 : ACode := .cond (.tmp 50) (.seq (zr 19 2 c107r19) .ret) .skip
def c107t28 : ACode := .seq (zr 18 2 c107r18) c107t27
def c107t29 : ACode := .seq (zr 17 3 c107r17) c107t28
def c107r20 : List Seg := [zo 52 (.bin .add false (.tmp 43) (zi 1)), zv 43 52]
def c107t31 : ACode := .seq (.block 3 (.seq (zr 16 4 c107r16) c107t29)) (zr 20 2 c107r20)
def c107t32 : ACode := .seq (.cond (.tmp 44) .skip (.exit 2)) c107t31
def c107b33 : ACode := .seq (zr 15 1 c107r15) c107t32
def c107t34 : ACode := .block 2 (.loop c107b33)
def c107t35 : ACode := .seq (zr 14 4 c107r14) c107t34
def c107t36 : ACode := .seq (.seq (zr 10 3 c107r10) c107t20) c107t35
def c107r21 : List Seg := [zo 53 (.bin .add false (.tmp 27) (zi 1)), zv 27 53]
def c107t38 : ACode := .seq (.block 1 (.seq (zr 9 4 c107r9) c107t36)) (zr 21 2 c107r21)
def c107t39 : ACode := .seq (.cond (.tmp 28) .skip (.exit 0)) c107t38
def c107b40 : ACode := .seq (zr 8 1 c107r8) c107t39
def c107t41 : ACode := .block 0 (.loop c107b40)
def c107r22 : List Seg := [zf 54 6 1, zl 55 54, zo 56 (.len false (.tmp 55)), zo 57 (.mv (zi 0))]
def c107r23 : List Seg := [zo 58 (.bin .lss false (.tmp 57) (.tmp 56))]
def c107r24 : List Seg := [zo 59 (.ia 8 (.tmp 55) (.tmp 57)), zo 60 (.load 8 true (.tmp 59)), zo 12 (.alloc [za, .t (.str (bs [])), .tt 3 [], .tt 13 [], .t (.bool false), za, .tt 8 [], .tt 5 []]), zn (.store 8 (.tmp 12) (.tmp 60))]
def c107r25 : List Seg := [zo 61 (.load 8 true (.tmp 12)), zc 62 107 [.tmp 61], zv 13 62]
def c107r26 : List Seg := [zv 63 13, zo 64 (.bin .neq false (.tmp 63) (zi 0))]
def c107r27 : List Seg := [zv 65 13, zv 2 65]
def c107t48 : ACode := .cond (.tmp 64) (.seq (zr 27 2 c107r27) .ret) .skip
def c107t49 : ACode := .seq (zr 26 2 c107r26) c107t48
def c107t50 : ACode := .seq (zr 25 3 c107r25) c107t49
def c107r28 : List Seg := [zo 66 (.bin .add false (.tmp 57) (zi 1)), zv 57 66]
def c107t52 : ACode := .seq (.block 5 (.seq (zr 24 4 c107r24) c107t50)) (zr 28 2 c107r28)
def c107t53 : ACode := .seq (.cond (.tmp 58) .skip (.exit 4)) c107t52
def c107b54 : ACode := .seq (zr 23 1 c107r23) c107t53
def c107t55 : ACode := .block 4 (.loop c107b54)
def c107r29 : List Seg := [zo 2 (.mv (zi 0))]
def c107t57 : ACode := .seq (.seq (zr 22 4 c107r22) c107t55) (.seq (zr 29 1 c107r29) .ret)
def c107t58 : ACode := .seq (.seq (zr 7 4 c107r7) c107t41) c107t57
def c107t59 : ACode := .seq (.seq (zr 4 3 c107r4) c107t10) c107t58
def c107t60 : ACode := .seq (.seq (zr 1 3 c107r1) c107t5) c107t59
def c107 : ACode := .seq (zr 0 2 c107r0) c107t60
theorem k107 : Compiled Tryz.prog 107 67 [.tmp 2] c107 := .mk' [] Tryz.func107 rfl (by kernel_rfl) (by kernel_rfl)
def c108r0 : List Seg := [zo 4 (.mv (zb false))]
def c108r1 : List Seg := [zv 6 0, zo 7 (.nilc (.tmp 6)), zf 8 8 7, zl 9 8, zv 10 1, zo 11 (.ia 1 (.tmp 9) (.tmp 10)), zl 12 11, zv 5 12]
def c108r2 : List Seg := [zv 13 0, zo 14 (.nilc (.tmp 13)), zf 15 0 14, zf 16 7 15, zl 17 16, zv 18 1, zo 19 (.ia 5 (.tmp 17) (.tmp 18)), zf 20 0 19, zl 21 20]
def c108r3 : List Seg := [zo 23 (.bin .eql false (.tmp 21) (zi 0)), zv 22 23]
def c108r4 : List Seg := [zv 24 5, zo 25 (.bin .eql false (.tmp 24) (zi 0)), zv 26 25, .grp 26 false [zg 27 (.mv (.tmp 5)) 26 false, zg 28 (.bin .eql false (.tmp 27) (zi 3)) 26 false], zo 29 (.pick (.tmp 26) (zb true) (.tmp 28)), zv 30 29, .grp 30 false [zg 31 (.mv (.tmp 5)) 30 false, zg 32 (.bin .eql false (.tmp 31) (zi 4)) 30 false], zo 33 (.pick (.tmp 30) (zb true) (.tmp 32)), zv 4 33]
def c108r5 : List Seg := [zo 35 (.bin .eql false (.tmp 21) (zi 1)), zv 34 35]
def c108r6 : List Seg := [zv 36 5, zo 37 (.bin .eql false (.tmp 36) (zi 1)), zv 38 37, .grp 38 false [zg 39 (.mv (.tmp 5)) 38 false, zg 40 (.bin .eql false (.tmp 39) (zi 4)) 38 false], zo 41 (.pick (.tmp 38) (zb true) (.tmp 40)), zv 4 41]
def c108r7 : List Seg := [zo 43 (.bin .eql false (.tmp 21) (zi 2)), zv 42 43]
def c108r8 : List Seg := [zv 44 5, zo 45 (.bin .eql false (.tmp 44) (zi 1)), zv 46 45, .grp 46 false [zg 47 (.mv (.tmp 5)) 46 false, zg 48 (.bin .eql false (.tmp 47) (zi 2)) 46 false], zo 49 (.pick (.tmp 46) (zb true) (.tmp 48)), zv 4 49]
def c108r9 : List Seg := [zo 51 (.bin .eql false (.tmp 21) (zi 3)), zv 50 51]
def c108r10 : List Seg := [zv 52 5, zo 53 (.bin .eql false (.tmp 52) (zi 1)), zv 54 53, .br 54 true [zg 55 (.mv (.tmp 0)) 54 true, zg 56 (.nilc (.tmp 55)) 54 true, zg 57 (.fa 0 (.tmp 56)) 54 true, zg 58 (.fa 0 (.tmp 57)) 54 true, zg 59 (.load 1 false (.tmp 58)) 54 true, zg 60 (.bin .eql false (.tmp 59) (zi 6)) 54 true], zo 61 (.pick (.tmp 54) (.tmp 60) (zb false)), zv 4 61]
def c108r11 : List Seg := [zo 4 (.mv (zb true))]
def c108 : ACode := .seq (zr 0 1 c108r0) (.seq (zr 1 8 c108r1) (.seq (.seq (zr 2 9 c108r2) (.block 0 (.seq (zr 3 2 c108r3) (.cond (.tmp 22) (.seq (zr 4 11 c108r4) .ret) (.seq (zr 5 2 c108r5) (.cond (.tmp 34) (.seq (zr 6 7 c108r6) .ret) (.seq (zr 7 2 c108r7) (.cond (.tmp 42) (.seq (zr 8 7 c108r8) .ret) (.seq (zr 9 2 c108r9) (.cond (.tmp 50) (.seq (zr 10 11 c108r10) .ret) .skip)))))))))) (.seq (zr 11 1 c108r11) .ret)))
theorem k108 : Compiled Tryz.prog 108 62 [.tmp 4] c108 := .mk' [] Tryz.func108 rfl (by kernel_rfl) (by kernel_rfl)
def c109r0 : List Seg := [zo 4 (.alloc [za, za])]
def c109r1 : List Seg := [zv 5 0, zo 6 (.nilc (.tmp 5)), zf 7 8 6, zl 8 7, zv 9 1, zo 10 (.ia 1 (.tmp 8) (.tmp 9)), zl 11 10]
def c109r2 : List Seg := [zo 13 (.bin .eql false (.tmp 11) (zi 3)), zv 12 13]
def c109r3 : List Seg := [zv 14 0, zo 15 (.nilc (.tmp 14)), zf 16 0 15, zo 17 (.load 8 true (.tmp 16)), zc 18 91 [.tmp 17], zo 19 (.build [za, za] [(1, (1, .tmp 18))]), zn (.store 2 (.tmp 4) (.tmp 19))]
def c109r4 : List Seg := [zo 21 (.bin .eql false (.tmp 11) (zi 4)), zv 20 21]
def c109r5 : List Seg := [zo 22 (.build [za, za] [(1, (1, zi 127))]), zn (.store 2 (.tmp 4) (.tmp 22))]
def c109r6 : List Seg := [zo 23 (.build [za, za] [(0, (1, zi (-1152921504606846976))), (1, (1, zi 1152921504606846976))]), zn (.store 2 (.tmp 4) (.tmp 23))]
def c109 : ACode := .seq (zr 0 1 c109r0) (.seq (.seq (zr 1 7 c109r1) (.block 0 (.seq (zr 2 2 c109r2) (.cond (.tmp 12) (.seq (zr 3 7 c109r3) .ret) (.seq (zr 4 2 c109r4) (.cond (.tmp 20) (.seq (zr 5 2 c109r5) .ret) .skip)))))) (.seq (zr 6 2 c109r6) .ret))
theorem k109 : Compiled Tryz.prog 109 24 [.cell 4 2 true] c109 := .mk' [] Tryz.func109 rfl (by kernel_rfl) (by kernel_rfl)
def c110r0 : List Seg := [zo 4 (.mv (zb false))]
def c110r1 : List Seg := [zv 6 0, zo 7 (.nilc (.tmp 6)), zf 8 0 7, zf 9 7 8, zl 10 9, zv 11 1, zo 12 (.ia 5 (.tmp 10) (.tmp 11)), zf 13 3 12, zl 14 13, zv 5 14]
def c110r2 : List Seg := [zv 16 0, zo 17 (.nilc (.tmp 16)), zf 18 8 17, zl 19 18, zv 20 1, zo 21 (.ia 1 (.tmp 19) (.tmp 20)), zl 22 21, zo 23 (.bin .eql false (.tmp 22) (zi 4)), zv 15 23]
def c110r3 : List Seg := [zv 24 5, zo 25 (.bin .neq false (.tmp 24) (.con (.one (.t (.str (bs [])))))), zv 26 25, .br 26 true [zg 27 (.mv (.tmp 5)) 26 true, zg 28 (.cvBytes (.tmp 27)) 26 true, .mk (some 29) (.call 122 [.tmp 28, .con (.one (.fn 150 []))]) (some (26, true)), zg 30 (.un .not (.tmp 29)) 26 true], zo 31 (.pick (.tmp 26) (.tmp 30) (zb false)), zv 4 31]
def c110r4 : List Seg := [zv 33 0, zo 34 (.nilc (.tmp 33)), zf 35 0 34, zf 36 0 35, zl 37 36, zo 38 (.bin .eql false (.tmp 37) (zi 4)), zv 32 38]
def c110r5 : List Seg := [zv 39 5, zc 40 151 [.tmp 39, .con (.one (.t (.str (bs [48, 49]))))], zo 41 (.bin .eql false (.tmp 40) (.con (.one (.t (.str (bs [])))))), zv 4 41]
def c110r6 : List Seg := [zv 43 0, zo 44 (.nilc (.tmp 43)), zf 45 0 44, zf 46 0 45, zl 47 46, zo 48 (.bin .eql false (.tmp 47) (zi 6)), zv 42 48]
def c110r7 : List Seg := [zv 49 0, zo 50 (.nilc (.tmp 49)), zf 51 0 50, zf 52 1 51, zl 53 52, zv 54 5, zc 55 152 [.tmp 53, .tmp 54], zv 4 55]
def c110t8 : ACode := .cond (.tmp 42) (.seq (zr 7 8 c110r7) .ret) .skip
def c110t9 : ACode := .cond (.tmp 32) (.seq (zr 5 4 c110r5) .ret) (.seq (zr 6 7 c110r6) c110t8)
def c110t10 : ACode := .cond (.tmp 15) (.seq (zr 3 9 c110r3) .ret) (.seq (zr 4 7 c110r4) c110t9)
def c110r8 : List Seg := [zo 4 (.mv (zb true))]
def c110t12 : ACode := .seq (.block 0 (.seq (zr 2 9 c110r2) c110t10)) (.seq (zr 8 1 c110r8) .ret)
def c110t13 : ACode := .seq (zr 1 10 c110r1) c110t12
def c110 : ACode := .seq (zr 0 1 c110r0) c110t13
theorem k110 : Compiled Tryz.prog 110 56 [.tmp 4] c110 := .mk' [] Tryz.func110 rfl (by kernel_rfl) (by kernel_rfl)
def c118r0 : List Seg := [zo 1 (.box 6 (.tmp 0)), zo 2 (.mv (zi 0))]
def c118r1 : List Seg := [zo 4 (.build [za, .t (.bool false)] [(0, (1, zi 120))]), zo 5 (.box 2 (.tmp 4)), zv 3 5]
def c118r2 : List Seg := [zv 6 3, zo 7 (.load 6 true (.tmp 1)), zc 8 145 [.tmp 6, .tmp 7, zi 8]]
def c118r3 : List Seg := [zv 9 3, zo 10 (.nilc (.tmp 9)), zf 11 1 10, zl 12 11]
def c118r4 : List Seg := [zo 2 (.mv (zi 2))]
def c118r5 : List Seg := [zo 13 (.load 6 true (.tmp 1)), zc 14 149 [.tmp 13], zv 2 14]
def c118 : ACode := .seq (zr 0 2 c118r0) (.seq (zr 1 3 c118r1) (.seq (.seq (zr 2 3 c118r2) (.seq (zr 3 4 c118r3) (.cond (.tmp 12) (.seq (zr 4 1 c118r4) .ret) .skip))) (.seq (zr 5 3 c118r5) .ret)))
theorem k118 : Compiled Tryz.prog 118 15 [.tmp 2] c118 := .mk' [] Tryz.func118 rfl (by kernel_rfl) (by kernel_rfl)
def c119r0 : List Seg := [zo 2 (.box 8 (.tmp 0)), zo 3 (.box 6 (.tmp 1)), zo 4 (.mv (zb false))]
def c119r1 : List Seg := [zo 6 (.bslice 1 15 [za, za, za, za, za, za, za, za, za, za, za, za, za, za, za] [(0, (1, zi 0)), (1, (1, zi 1)), (2, (1, zi 2)), (3, (1, zi 3)), (4, (1, zi 4)), (5, (1, zi 5)), (6, (1, zi 6)), (7, (1, zi 7)), (8, (1, zi 8)), (9, (1, zi 9)), (10, (1, zi 11)), (11, (1, zi 12)), (12, (1, zi 13)), (13, (1, zi 14)), (14, (1, zi 16))]), zv 5 6]
def c119r2 : List Seg := [zf 7 0 3, zl 8 7, zo 9 (.bin .eql false (.tmp 8) (zi 9)), zv 10 9, .grp 10 true [zg 11 (.fa 0 (.tmp 2)) 10 true, zg 12 (.load 1 false (.tmp 11)) 10 true, zg 13 (.bin .eql false (.tmp 12) (zi 10)) 10 true], zo 14 (.pick (.tmp 10) (.tmp 13) (zb false))]
def c119r3 : List Seg := [zo 4 (.mv (zb true))]
def c119r4 : List Seg := [zv 15 5, zf 16 0 3, zl 17 16, zo 18 (.ia 1 (.tmp 15) (.tmp 17)), zl 19 18, zf 20 0 2, zl 21 20, zo 22 (.bin .eql false (.tmp 19) (.tmp 21)), zv 23 22, .grp 23 true [zg 24 (.fa 0 (.tmp 2)) 23 true, zg 25 (.load 1 false (.tmp 24)) 23 true, zg 26 (.bin .neq false (.tmp 25) (zi 6)) 23 true, zg 27 (.mv (.tmp 26)) 23 true], .br 27 false [zg 28 (.fa 1 (.tmp 2)) 27 false, zg 29 (.load 1 false (.tmp 28)) 27 false, zg 30 (.fa 3 (.tmp 3)) 27 false, zg 31 (.load 1 false (.tmp 30)) 27 false, .mk (some 32) (.call 152 [.tmp 29, .tmp 31]) (some (27, false))], .grp 23 true [zg 33 (.pick (.tmp 27) (zb true) (.tmp 32)) 23 true], zo 34 (.pick (.tmp 23) (.tmp 33) (zb false)), zv 4 34]
def c119 : ACode := .seq (zr 0 3 c119r0) (.seq (zr 1 2 c119r1) (.seq (.seq (zr 2 8 c119r2) (.cond (.tmp 14) (.seq (zr 3 1 c119r3) .ret) .skip)) (.seq (.region 4 true 21 c119r4) .ret)))
theorem k119 : Compiled Tryz.prog 119 35 [.tmp 4] c119 := .mk' [] Tryz.func119 rfl (by kernel_rfl) (by kernel_rfl)
def c124r0 : List Seg := [zo 4 (.mv (zb false))]
def c124r1 : List Seg := [zv 5 0, zv 6 1, zc 7 157 [.tmp 5, .tmp 6], zo 8 (.bin .geq false (.tmp 7) (zi 0)), zv 4 8]
def c124 : ACode := .seq (zr 0 1 c124r0) (.seq (zr 1 5 c124r1) .ret)
theorem k124 : Compiled Tryz.prog 124 9 [.tmp 4] c124 := .mk' [] Tryz.func124 rfl (by kernel_rfl) (by kernel_rfl)
def c125r0 : List Seg := [zo 4 (.mv (zb false))]
def c125r1 : List Seg := [zl 5 1, zv 6 0, zo 7 (.load 6 true (.tmp 2)), zc 8 72 [.tmp 5, .tmp 6, .tmp 7], zv 4 8]
def c125 : ACode := .seq (zr 0 1 c125r0) (.seq (zr 1 5 c125r1) .ret)
theorem k125 : Compiled Tryz.prog 125 9 [.tmp 4] c125 := .mk' [] Tryz.func125 rfl (by kernel_rfl) (by kernel_rfl)
def c144r0 : List Seg := [zo 4 (.mv (zb false))]
def c144r1 : List Seg := [zv 5 0, zo 6 (.nilc (.tmp 5)), zf 7 0 6, zl 8 7, zo 9 (.bin .sub false (.tmp 8) (zi 1)), zo 10 (.nilc (.tmp 5)), zf 11 0 10, zn (.store 1 (.tmp 11) (.tmp 9))]
def c144r2 : List Seg := [zv 12 0, zv 13 0, zo 14 (.nilc (.tmp 13)), zf 15 1 14, zl 16 15, zv 17 16, .br 17 false [zg 18 (.mv (.tmp 0)) 17 false, zg 19 (.nilc (.tmp 18)) 17 false, zg 20 (.fa 0 (.tmp 19)) 17 false, zg 21 (.load 1 false (.tmp 20)) 17 false, zg 22 (.bin .lss false (.tmp 21) (zi 0)) 17 false], zo 23 (.pick (.tmp 17) (zb true) (.tmp 22)), zv 24 23, .grp 24 false [zg 25 (.mv (.tmp 1)) 24 false, zg 26 (.bin .lss false (.tmp 25) (zi 1)) 24 false], zo 27 (.pick (.tmp 24) (zb true) (.tmp 26)), zo 28 (.nilc (.tmp 12)), zf 29 1 28, zn (.store 1 (.tmp 29) (.tmp 27))]
def c144r3 : List Seg := [zv 30 0, zo 31 (.nilc (.tmp 30)), zf 32 1 31, zl 33 32, zo 34 (.un .not (.tmp 33)), zv 4 34]
def c144 : ACode := .seq (zr 0 1 c144r0) (.seq (zr 1 8 c144r1) (.seq (zr 2 19 c144r2) (.seq (zr 3 6 c144r3) .ret)))
theorem k144 : Compiled Tryz.prog 144 35 [.tmp 4] c144 := .mk' [] Tryz.func144 rfl (by kernel_rfl) (by kernel_rfl)
def c145r0 : List Seg := [zo 4 (.box 6 (.tmp 1))]
def c145r1 : List Seg := [zv 8 0, zv 9 2, zc 10 144 [.tmp 8, .tmp 9], zo 11 (.un .not (.tmp 10))]
def c145r2 : List Seg := [zf 12 5 4, zl 13 12, zo 14 (.len false (.tmp 13)), zo 15 (.mv (zi 0))]
def c145r3 : List Seg := [zo 16 (.bin .lss false (.tmp 15) (.tmp 14))]
def c145r4 : List Seg := [zo 17 (.ia 6 (.tmp 13) (.tmp 15)), zo 18 (.load 6 true (.tmp 17)), zo 7 (.alloc [za, za, za, .t (.str (bs [])), .tt 1 [], .tt 6 []]), zn (.store 6 (.tmp 7) (.tmp 18))]
def c145r5 : List Seg := [zv 19 0, zo 20 (.nilc (.tmp 19)), zf 21 1 20, zl 22 21]
def c145r6 : List Seg := [zv 23 0, zo 24 (.load 6 true (.tmp 7)), zv 25 2, zo 26 (.bin .sub false (.tmp 25) (zi 1)), zc 27 145 [.tmp 23, .tmp 24, .tmp 26]]
def c145r7 : List Seg := [zo 28 (.bin .add false (.tmp 15) (zi 1)), zv 15 28]
def c145b8 : ACode := .seq (zr 3 1 c145r3) (.seq (.cond (.tmp 16) .skip (.exit 0)) (.seq (.block 1 (.seq (zr 4 4 c145r4) (.seq (.seq (zr 5 4 c145r5) (.cond (.tmp 22) .ret .skip)) (zr 6 5 c145r6)))) (zr 7 2 c145r7)))
def c145 : ACode := .seq (zr 0 1 c145r0) (.seq (.seq (zr 1 4 c145r1) (.cond (.tmp 11) .ret .skip)) (.seq (zr 2 4 c145r2) (.block 0 (.loop c145b8))))
theorem k145 : Compiled Tryz.prog 145 29 [] c145 := .mk' [] Tryz.func145 rfl (by kernel_rfl) (by kernel_rfl)
def c146r0 : List Seg := [zo 1 (.box 8 (.tmp 0)), zo 2 (.mv (zi 0))]
def c146r1 : List Seg := [zf 7 0 1, zl 8 7, zc 9 170 [.tmp 8, zi 0, zi 15], zo 10 (.un .not (.tmp 9))]
def c146r2 : List Seg := [zo 2 (.mv (zi 4))]
def c146r3 : List Seg := [zf 11 2 1, zl 12 11, zo 13 (.len false (.tmp 12)), zo 14 (.bin .gtr false (.tmp 13) (zi 3)), zv 15 14, .grp 15 false [zg 16 (.fa 3 (.tmp 1)) 15 false, zg 17 (.load 1 false (.tmp 16)) 15 false, zg 18 (.len false (.tmp 17)) 15 false, zg 19 (.bin .gtr false (.tmp 18) (zi 16)) 15 false], zo 20 (.pick (.tmp 15) (zb true) (.tmp 19)), zv 21 20, .grp 21 false [zg 22 (.fa 0 (.tmp 1)) 21 false, zg 23 (.load 1 false (.tmp 22)) 21 false, zg 24 (.bin .eql false (.tmp 23) (zi 15)) 21 false, zg 25 (.mv (.tmp 24)) 21 false], .grp 25 true [zg 26 (.fa 3 (.tmp 1)) 25 true, zg 27 (.load 1 false (.tmp 26)) 25 true, zg 28 (.len false (.tmp 27)) 25 true, zg 29 (.bin .gtr false (.tmp 28) (zi 4)) 25 true], .grp 21 false [zg 30 (.pick (.tmp 25) (.tmp 29) (zb false)) 21 false], zo 31 (.pick (.tmp 21) (zb true) (.tmp 30))]
def c146r4 : List Seg := [zo 2 (.mv (zi 2))]
def c146r5 : List Seg := [zf 32 2 1, zl 33 32, zo 34 (.len false (.tmp 33)), zo 35 (.mv (zi 0))]
def c146r6 : List Seg := [zo 36 (.bin .lss false (.tmp 35) (.tmp 34))]
def c146r7 : List Seg := [zo 37 (.ia 3 (.tmp 33) (.tmp 35)), zo 38 (.load 3 true (.tmp 37)), zo 4 (.alloc [za, za, za]), zn (.store 3 (.tmp 4) (.tmp 38))]
def c146r8 : List Seg := [zf 39 0 4, zl 40 39, zc 41 170 [.tmp 40, zi 1, zi 3], zo 42 (.un .not (.tmp 41)), zv 43 42, .br 43 false [zg 44 (.fa 1 (.tmp 4)) 43 false, zg 45 (.load 1 false (.tmp 44)) 43 false, .mk (some 46) (.call 170 [.tmp 45, zi 0, zi 100000]) (some (43, false)), zg 47 (.un .not (.tmp 46)) 43 false], zo 48 (.pick (.tmp 43) (zb true) (.tmp 47)), zv 49 48, .br 49 false [zg 50 (.fa 2 (.tmp 4)) 49 false, zg 51 (.load 1 false (.tmp 50)) 49 false, .mk (some 52) (.call 170 [.tmp 51, zi 0, zi 2]) (some (49, false)), zg 53 (.un .not (.tmp 52)) 49 false], zo 54 (.pick (.tmp 49) (zb true) (.tmp 53))]
def c146r9 : List Seg := [zo 2 (.mv (zi 3))]
def c146r10 : List Seg := [zo 55 (.bin .add false (.tmp 35) (zi 1)), zv 35 55]
def c146b11 : ACode := .seq (zr 6 1 c146r6) (.seq (.cond (.tmp 36) .skip (.exit 0)) (.seq (.block 1 (.seq (zr 7 4 c146r7) (.seq (zr 8 16 c146r8) (.cond (.tmp 54) (.seq (zr 9 1 c146r9) .ret) .skip)))) (zr 10 2 c146r10)))
def c146r11 : List Seg := [zf 56 3 1, zl 57 56, zo 58 (.len false (.tmp 57)), zo 59 (.mv (zi 0))]
def c146r12 : List Seg := [zo 60 (.bin .lss false (.tmp 59) (.tmp 58))]
def c146r13 : List Seg := [zo 61 (.ia 13 (.tmp 57) (.tmp 59)), zo 62 (.load 13 true (.tmp 61)), zo 6 (.alloc [.t (.str (bs [])), za, za, .t (.str (bs [])), .tt 3 [], .tt 13 [], .t (.bool false), za, .tt 8 [], .tt 5 [], za, .tt 6 [], za]), zn (.store 13 (.tmp 6) (.tmp 62))]
def c146r14 : List Seg := [zf 63 10 6, zl 64 63, zc 65 170 [.tmp 64, zi 0, zi 2], zo 66 (.un .not (.tmp 65)), zv 67 66, .grp 67 false [zg 68 (.fa 12 (.tmp 6)) 67 false, zg 69 (.load 1 false (.tmp 68)) 67 false, zg 70 (.bin .lss false (.tmp 69) (zi 0)) 67 false], zo 71 (.pick (.tmp 67) (zb true) (.tmp 70))]
def c146r15 : List Seg := [zo 2 (.mv (zi 3))]
def c146r16 : List Seg := [zo 72 (.bin .add false (.tmp 59) (zi 1)), zv 59 72]
def c146b18 : ACode := .seq (zr 12 1 c146r12) (.seq (.cond (.tmp 60) .skip (.exit 2)) (.seq (.block 3 (.seq (zr 13 4 c146r13) (.seq (zr 14 9 c146r14) (.cond (.tmp 71) (.seq (zr 15 1 c146r15) .ret) .skip)))) (zr 16 2 c146r16)))
def c146r17 : List Seg := [zf 73 5 1, zl 74 73, zf 75 3 1, zl 76 75, zo 77 (.len false (.tmp 76)), zc 78 170 [.tmp 74, zi 0, .tmp 77], zc 79 171 [.tmp 78, zi 3], zv 2 79]
def c146 : ACode := .seq (zr 0 2 c146r0) (.seq (.seq (zr 1 4 c146r1) (.cond (.tmp 10) (.seq (zr 2 1 c146r2) .ret) .skip)) (.seq (.seq (zr 3 21 c146r3) (.cond (.tmp 31) (.seq (zr 4 1 c146r4) .ret) .skip)) (.seq (.seq (zr 5 4 c146r5) (.block 0 (.loop c146b11))) (.seq (.seq (zr 11 4 c146r11) (.block 2 (.loop c146b18))) (.seq (zr 17 8 c146r17) .ret)))))
theorem k146 : Compiled Tryz.prog 146 80 [.tmp 2] c146 := .mk' [] Tryz.func146 rfl (by kernel_rfl) (by kernel_rfl)
def c147r0 : List Seg := [zo 1 (.box 8 (.tmp 0)), zo 2 (.mv (zi 0))]
def c147r1 : List Seg := [zf 9 0 1, zl 10 9, zo 11 (.bin .eql false (.tmp 10) (zi 6)), zv 12 11, .grp 12 false [zg 13 (.fa 0 (.tmp 1)) 12 false, zg 14 (.load 1 false (.tmp 13)) 12 false, zg 15 (.bin .eql false (.tmp 14) (zi 14)) 12 false], zo 16 (.pick (.tmp 12) (zb true) (.tmp 15)), zv 17 16, .grp 17 false [zg 18 (.fa 0 (.tmp 1)) 17 false, zg 19 (.load 1 false (.tmp 18)) 17 false, zg 20 (.bin .eql false (.tmp 19) (zi 15)) 17 false], zo 21 (.pick (.tmp 17) (zb true) (.tmp 20)), zv 3 21]
def c147r2 : List Seg := [zf 22 0 1, zl 23 22, zc 24 172 [.tmp 23], zv 25 24, .grp 25 false [zg 26 (.fa 0 (.tmp 1)) 25 false, zg 27 (.load 1 false (.tmp 26)) 25 false, zg 28 (.bin .eql false (.tmp 27) (zi 3)) 25 false], zo 29 (.pick (.tmp 25) (zb true) (.tmp 28)), zv 4 29]
def c147r3 : List Seg := [zv 30 4, zv 31 30, .grp 31 false [zg 32 (.fa 0 (.tmp 1)) 31 false, zg 33 (.load 1 false (.tmp 32)) 31 false, zg 34 (.bin .eql false (.tmp 33) (zi 14)) 31 false], zo 35 (.pick (.tmp 31) (zb true) (.tmp 34)), zv 36 35, .grp 36 false [zg 37 (.fa 0 (.tmp 1)) 36 false, zg 38 (.load 1 false (.tmp 37)) 36 false, zg 39 (.bin .eql false (.tmp 38) (zi 15)) 36 false], zo 40 (.pick (.tmp 36) (zb true) (.tmp 39)), zv 5 40]
def c147r4 : List Seg := [zf 41 3 1, zl 42 41, zo 43 (.mkfn 174 [.tmp 1]), zc 44 173 [.tmp 42, .tmp 43], zv 6 44]
def c147r5 : List Seg := [zv 45 6, zv 46 45, .br 46 false [zg 47 (.fa 3 (.tmp 1)) 46 false, zg 48 (.load 1 false (.tmp 47)) 46 false, zg 49 (.fa 5 (.tmp 1)) 46 false, zg 50 (.load 1 false (.tmp 49)) 46 false, zg 51 (.fa 3 (.tmp 1)) 46 false, zg 52 (.load 1 false (.tmp 51)) 46 false, zg 53 (.len false (.tmp 52)) 46 false, zg 54 (.mm false [.tmp 50, .tmp 53]) 46 false, zg 55 (.sl false 13 (.tmp 48) none (some (.tmp 54)) none) 46 false, .mk (some 56) (.call 173 [.tmp 55, .con (.one (.fn 176 []))]) (some (46, false))], zo 57 (.pick (.tmp 46) (zb true) (.tmp 56)), zv 6 57]
def c147r6 : List Seg := [zv 58 3, zo 59 (.un .not (.tmp 58)), zv 60 59, .grp 60 true [zg 61 (.fa 1 (.tmp 1)) 60 true, zg 62 (.load 1 false (.tmp 61)) 60 true, zg 63 (.bin .neq false (.tmp 62) (.con (.one (.t (.str (bs [])))))) 60 true], zo 64 (.pick (.tmp 60) (.tmp 63) (zb false)), zv 65 64, .grp 65 false [zg 66 (.mv (.tmp 5)) 65 false, zg 67 (.un .not (.tmp 66)) 65 false, zg 68 (.mv (.tmp 67)) 65 false], .grp 68 true [zg 69 (.fa 3 (.tmp 1)) 68 true, zg 70 (.load 1 false (.tmp 69)) 68 true, zg 71 (.len false (.tmp 70)) 68 true, zg 72 (.bin .gtr false (.tmp 71) (zi 0)) 68 true], .grp 65 false [zg 73 (.pick (.tmp 68) (.tmp 72) (zb false)) 65 false], zo 74 (.pick (.tmp 65) (zb true) (.tmp 73)), zv 75 74, .grp 75 false [zg 76 (.mv (.tmp 4)) 75 false, zg 77 (.un .not (.tmp 76)) 75 false, zg 78 (.mv (.tmp 77)) 75 false], .grp 78 true [zg 79 (.fa 4 (.tmp 1)) 78 true, zg 80 (.load 1 false (.tmp 79)) 78 true, zg 81 (.mv (.tmp 80)) 78 true], .grp 81 false [zg 82 (.fa 5 (.tmp 1)) 81 false, zg 83 (.load 1 false (.tmp 82)) 81 false, zg 84 (.bin .neq false (.tmp 83) (zi 0)) 81 false], .grp 78 true [zg 85 (.pick (.tmp 81) (zb true) (.tmp 84)) 78 true], .grp 75 false [zg 86 (.pick (.tmp 78) (.tmp 85) (zb false)) 75 false], zo 87 (.pick (.tmp 75) (zb true) (.tmp 86)), zv 88 87, .grp 88 false [zg 89 (.mv (.tmp 4)) 88 false, zg 90 (.mv (.tmp 89)) 88 false], .grp 90 true [zg 91 (.fa 4 (.tmp 1)) 90 true, zg 92 (.load 1 false (.tmp 91)) 90 true, zg 93 (.un .not (.tmp 92)) 90 true], .grp 88 false [zg 94 (.pick (.tmp 90) (.tmp 93) (zb false)) 88 false, zg 95 (.mv (.tmp 94)) 88 false], .grp 95 true [zg 96 (.fa 5 (.tmp 1)) 95 true, zg 97 (.load 1 false (.tmp 96)) 95 true, zg 98 (.fa 3 (.tmp 1)) 95 true, zg 99 (.load 1 false (.tmp 98)) 95 true, zg 100 (.len false (.tmp 99)) 95 true, zg 101 (.bin .neq false (.tmp 97) (.tmp 100)) 95 true], .grp 88 false [zg 102 (.pick (.tmp 95) (.tmp 101) (zb false)) 88 false], zo 103 (.pick (.tmp 88) (zb true) (.tmp 102)), zv 104 103, .br 104 false [zg 105 (.fa 0 (.tmp 1)) 104 false, zg 106 (.load 1 false (.tmp 105)) 104 false, .mk (some 107) (.call 177 [.tmp 106]) (some (104, false)), zg 108 (.un .not (.tmp 107)) 104 false, zg 109 (.mv (.tmp 108)) 104 false], .grp 109 true [zg 110 (.fa 6 (.tmp 1)) 109 true, zg 111 (.load 1 false (.tmp 110)) 109 true, zg 112 (.len false (.tmp 111)) 109 true, zg 113 (.bin .gtr false (.tmp 112) (zi 0)) 109 true], .grp 104 false [zg 114 (.pick (.tmp 109) (.tmp 113) (zb false)) 104 false], zo 115 (.pick (.tmp 104) (zb true) (.tmp 114)), zv 116 115, .br 116 false [zg 117 (.fa 0 (.tmp 1)) 116 false, zg 118 (.load 1 false (.tmp 117)) 116 false, .mk (some 119) (.call 178 [.tmp 118]) (some (116, false)), zg 120 (.un .not (.tmp 119)) 116 false, zg 121 (.mv (.tmp 120)) 116 false], .grp 121 true [zg 122 (.fa 7 (.tmp 1)) 121 true, zg 123 (.load 1 false (.tmp 122)) 121 true, zg 124 (.len false (.tmp 123)) 121 true, zg 125 (.bin .gtr false (.tmp 124) (zi 0)) 121 true], .grp 116 false [zg 126 (.pick (.tmp 121) (.tmp 125) (zb false)) 116 false], zo 127 (.pick (.tmp 116) (zb true) (.tmp 126)), zv 128 127, .grp 128 false [zg 129 (.mv (.tmp 6)) 128 false], zo 130 (.pick (.tmp 128) (zb true) (.tmp 129))]
def c147r7 : List Seg := [zo 2 (.mv (zi 5))]
def c147t8 : ACode := .cond (.tmp 130) (.seq (zr 7 1 c147r7) .ret) .skip
def c147r8 : List Seg := [zo 131 (.load 8 true (.tmp 1)), zc 132 180 [.tmp 131], zc 133 171 [.tmp 132, zi 6], zo 134 (.load 8 true (.tmp 1)), zc 135 181 [.tmp 134], zo 136 (.load 8 true (.tmp 1)), zc 137 182 [.tmp 136], zo 138 (.bslice 1 3 [za, za, za] [(0, (1, .tmp 133)), (1, (1, .tmp 135)), (2, (1, .tmp 137))]), zc 139 179 [.tmp 138], zv 7 139]
def c147r9 : List Seg := [zv 140 7, zo 141 (.bin .neq false (.tmp 140) (zi 0))]
def c147r10 : List Seg := [zv 142 7, zv 2 142]
def c147t12 : ACode := .cond (.tmp 141) (.seq (zr 10 2 c147r10) .ret) .skip
def c147t13 : ACode := .seq (zr 9 2 c147r9) c147t12
def c147r11 : List Seg := [zf 143 0 1, zl 144 143, zo 145 (.bin .neq false (.tmp 144) (zi 3)), zv 146 145, .br 146 false [zg 147 (.fa 3 (.tmp 1)) 146 false, zg 148 (.load 1 false (.tmp 147)) 146 false, .mk (some 149) (.call 173 [.tmp 148, .con (.one (.fn 183 []))]) (some (146, false)), zg 150 (.un .not (.tmp 149)) 146 false], zo 151 (.pick (.tmp 146) (zb true) (.tmp 150)), zv 8 151]
def c147r12 : List Seg := [zf 152 0 1, zl 153 152, zc 154 172 [.tmp 153], zo 155 (.un .not (.tmp 154)), zv 156 155, .br 156 false [zg 157 (.load 8 true (.tmp 1)) 156 false, .mk (some 158) (.call 185 [.tmp 157]) (some (156, false))], zo 159 (.pick (.tmp 156) (zb true) (.tmp 158)), zc 160 171 [.tmp 159, zi 14], zv 161 8, zc 162 171 [.tmp 161, zi 3], zo 163 (.bslice 1 2 [za, za] [(0, (1, .tmp 160)), (1, (1, .tmp 162))]), zc 164 179 [.tmp 163], zv 2 164]
def c147t16 : ACode := .seq (.seq (.region 8 true 10 c147r8) c147t13) (.seq (zr 11 10 c147r11) (.seq (zr 12 14 c147r12) .ret))
def c147t17 : ACode := .seq (.seq (zr 6 73 c147r6) c147t8) c147t16
def c147t18 : ACode := .seq (zr 5 14 c147r5) c147t17
def c147t19 : ACode := .seq (zr 4 5 c147r4) c147t18
def c147t20 : ACode := .seq (zr 3 12 c147r3) c147t19
def c147t21 : ACode := .seq (zr 2 9 c147r2) c147t20
def c147t22 : ACode := .seq (zr 1 14 c147r1) c147t21
def c147 : ACode := .seq (zr 0 2 c147r0) c147t22
theorem k147 : Compiled Tryz.prog 147 165 [.tmp 2] c147 := .mk' [] Tryz.func147 rfl (by kernel_rfl) (by kernel_rfl)
def c149r0 : List Seg := [zo 1 (.box 6 (.tmp 0)), zo 2 (.mv (zi 0))]
def c149r1 : List Seg := [zo 7 (.load 6 true (.tmp 1)), zc 8 186 [.tmp 7], zv 3 8]
def c149r2 : List Seg := [zv 9 3, zo 10 (.bin .neq false (.tmp 9) (zi 0))]
def c149r3 : List Seg := [zv 11 3, zv 2 11]
def c149t4 : ACode := .cond (.tmp 10) (.seq (zr 3 2 c149r3) .ret) .skip
def c149t5 : ACode := .seq (zr 2 2 c149r2) c149t4
def c149r4 : List Seg := [zf 12 5 1, zl 13 12, zo 14 (.len false (.tmp 13)), zo 15 (.mv (zi 0))]
def c149r5 : List Seg := [zo 16 (.bin .lss false (.tmp 15) (.tmp 14))]
def c149r6 : List Seg := [zo 17 (.ia 6 (.tmp 13) (.tmp 15)), zo 18 (.load 6 true (.tmp 17)), zo 5 (.alloc [za, za, za, .t (.str (bs [])), .tt 1 [], .tt 6 []]), zn (.store 6 (.tmp 5) (.tmp 18))]
def c149r7 : List Seg := [zo 19 (.load 6 true (.tmp 5)), zc 20 149 [.tmp 19], zv 6 20]
def c149r8 : List Seg := [zv 21 6, zo 22 (.bin .neq false (.tmp 21) (zi 0))]
def c149r9 : List Seg := [zv 23 6, zv 2 23]
def c149t12 : ACode := .cond (.tmp 22) (.seq (zr 9 2 c149r9) .ret) .skip
def c149t13 : ACode := .seq (zr 8 2 c149r8) c149t12
def c149t14 : ACode := .seq (zr 7 3 c149r7) c149t13
def c149r10 : List Seg := [zo 24 (.bin .add false (.tmp 15) (zi 1)), zv 15 24]
def c149t16 : ACode := .seq (.block 1 (.seq (zr 6 4 c149r6) c149t14)) (zr 10 2 c149r10)
def c149t17 : ACode := .seq (.cond (.tmp 16) .skip (.exit 0)) c149t16
def c149b18 : ACode := .seq (zr 5 1 c149r5) c149t17
def c149t19 : ACode := .block 0 (.loop c149b18)
def c149r11 : List Seg := [zo 2 (.mv (zi 0))]
def c149t21 : ACode := .seq (.seq (zr 4 4 c149r4) c149t19) (.seq (zr 11 1 c149r11) .ret)
def c149t22 : ACode := .seq (.seq (zr 1 3 c149r1) c149t5) c149t21
def c149 : ACode := .seq (zr 0 2 c149r0) c149t22
theorem k149 : Compiled Tryz.prog 149 25 [.tmp 2] c149 := .mk' [] Tryz.func149 rfl (by kernel_rfl) (by kernel_rfl)
def c157r0 : List Seg := [zo 4 (.mv (zi 0))]
def c157r1 : List Seg := [zv 6 0, zo 7 (.len false (.tmp 6)), zo 8 (.mv (zi 0))]
def c157r2 : List Seg := [zo 9 (.bin .lss false (.tmp 8) (.tmp 7))]
def c157r3 : List Seg := [zv 10 8, zv 5 10]
def c157r4 : List Seg := [zv 11 1, zv 12 0, zv 13 5, zo 14 (.ia 1 (.tmp 12) (.tmp 13)), zl 15 14, .one (.mk (some 16) (.callv (.tmp 11) [.tmp 15]) none)]
def c157r5 : List Seg := [zv 17 5, zv 4 17]
def c157r6 : List Seg := [zo 18 (.bin .add false (.tmp 8) (zi 1)), zv 8 18]
def c157b7 : ACode := .seq (zr 2 1 c157r2) (.seq (.cond (.tmp 9) .skip (.exit 0)) (.seq (.block 1 (.seq (zr 3 2 c157r3) (.seq (zr 4 6 c157r4) (.cond (.tmp 16) (.seq (zr 5 2 c157r5) .ret) .skip)))) (zr 6 2 c157r6)))
def c157r7 : List Seg := [zo 4 (.mv (zi (-1)))]
def c157 : ACode := .seq (zr 0 1 c157r0) (.seq (.seq (zr 1 3 c157r1) (.block 0 (.loop c157b7))) (.seq (zr 7 1 c157r7) .ret))
theorem k157 : Compiled Tryz.prog 157 19 [.tmp 4] c157 := .mk' [] Tryz.func157 rfl (by kernel_rfl) (by kernel_rfl)
def c170r0 : List Seg := [zo 6 (.mv (zb false))]
def c170r1 : List Seg := [zv 7 1, zv 8 0, zo 9 (.bin .leq false (.tmp 7) (.tmp 8)), zv 10 9, .grp 10 true [zg 11 (.mv (.tmp 0)) 10 true, zg 12 (.mv (.tmp 2)) 10 true, zg 13 (.bin .leq false (.tmp 11) (.tmp 12)) 10 true], zo 14 (.pick (.tmp 10) (.tmp 13) (zb false)), zv 6 14]
def c170 : ACode := .seq (zr 0 1 c170r0) (.seq (zr 1 9 c170r1) .ret)
theorem k170 : Compiled Tryz.prog 170 15 [.tmp 6] c170 := .mk' [] Tryz.func170 rfl (by kernel_rfl) (by kernel_rfl)
def c171r0 : List Seg := [zo 4 (.mv (zi 0))]
def c171r1 : List Seg := [zv 5 0]
def c171r2 : List Seg := [zo 4 (.mv (zi 0))]
def c171r3 : List Seg := [zv 6 1, zv 4 6]
def c171 : ACode := .seq (zr 0 1 c171r0) (.seq (.seq (zr 1 1 c171r1) (.cond (.tmp 5) (.seq (zr 2 1 c171r2) .ret) .skip)) (.seq (zr 3 2 c171r3) .ret))
theorem k171 : Compiled Tryz.prog 171 7 [.tmp 4] c171 := .mk' [] Tryz.func171 rfl (by kernel_rfl) (by kernel_rfl)
def c172r0 : List Seg := [zo 2 (.mv (zb false))]
def c172r1 : List Seg := [zv 3 0, zc 4 212 [.tmp 3], zv 5 4, .grp 5 false [zg 6 (.mv (.tmp 0)) 5 false, zg 7 (.bin .eql false (.tmp 6) (zi 13)) 5 false], zo 8 (.pick (.tmp 5) (zb true) (.tmp 7)), zv 2 8]
def c172 : ACode := .seq (zr 0 1 c172r0) (.seq (zr 1 7 c172r1) .ret)
theorem k172 : Compiled Tryz.prog 172 9 [.tmp 2] c172 := .mk' [] Tryz.func172 rfl (by kernel_rfl) (by kernel_rfl)
def c173r0 : List Seg := [zo 4 (.mv (zb false))]
def c173r1 : List Seg := [zv 5 0, zv 6 1, zc 7 213 [.tmp 5, .tmp 6], zo 8 (.bin .geq false (.tmp 7) (zi 0)), zv 4 8]
def c173 : ACode := .seq (zr 0 1 c173r0) (.seq (zr 1 5 c173r1) .ret)
theorem k173 : Compiled Tryz.prog 173 9 [.tmp 4] c173 := .mk' [] Tryz.func173 rfl (by kernel_rfl) (by kernel_rfl)
def c177r0 : List Seg := [zo 2 (.mv (zb false))]
def c177r1 : List Seg := [zv 3 0, zo 4 (.bin .eql false (.tmp 3) (zi 11)), zv 5 4, .grp 5 false [zg 6 (.mv (.tmp 0)) 5 false, zg 7 (.bin .eql false (.tmp 6) (zi 12)) 5 false], zo 8 (.pick (.tmp 5) (zb true) (.tmp 7)), zv 2 8]
def c177 : ACode := .seq (zr 0 1 c177r0) (.seq (zr 1 7 c177r1) .ret)
theorem k177 : Compiled Tryz.prog 177 9 [.tmp 2] c177 := .mk' [] Tryz.func177 rfl (by kernel_rfl) (by kernel_rfl)
def c178r0 : List Seg := [zo 2 (.mv (zb false))]
def c178r1 : List Seg := [zv 3 0, zc 4 177 [.tmp 3], zv 5 4, .br 5 false [zg 6 (.bslice 1 5 [za, za, za, za, za] [(0, (1, zi 2)), (1, (1, zi 4)), (2, (1, zi 5)), (3, (1, zi 6)), (4, (1, zi 15))]) 5 false, zg 7 (.mv (.tmp 0)) 5 false, .mk (some 8) (.call 215 [.tmp 6, .tmp 7]) (some (5, false))], zo 9 (.pick (.tmp 5) (zb true) (.tmp 8)), zv 2 9]
def c178 : ACode := .seq (zr 0 1 c178r0) (.seq (zr 1 8 c178r1) .ret)
theorem k178 : Compiled Tryz.prog 178 10 [.tmp 2] c178 := .mk' [] Tryz.func178 rfl (by kernel_rfl) (by kernel_rfl)
def c179r0 : List Seg := [zo 2 (.mv (zi 0))]
def c179r1 : List Seg := [zv 5 0, zo 6 (.len false (.tmp 5)), zo 7 (.mv (zi 0))]
def c179r2 : List Seg := [zo 8 (.bin .lss false (.tmp 7) (.tmp 6))]
def c179r3 : List Seg := [zo 9 (.ia 1 (.tmp 5) (.tmp 7)), zl 10 9, zv 4 10]
def c179r4 : List Seg := [zv 11 4, zo 12 (.bin .neq false (.tmp 11) (zi 0))]
def c179r5 : List Seg := [zv 13 4, zv 2 13]
def c179r6 : List Seg := [zo 14 (.bin .add false (.tmp 7) (zi 1)), zv 7 14]
def c179b7 : ACode := .seq (zr 2 1 c179r2) (.seq (.cond (.tmp 8) .skip (.exit 0)) (.seq (.block 1 (.seq (zr 3 3 c179r3) (.seq (zr 4 2 c179r4) (.cond (.tmp 12) (.seq (zr 5 2 c179r5) .ret) .skip)))) (zr 6 2 c179r6)))
def c179r7 : List Seg := [zo 2 (.mv (zi 0))]
def c179 : ACode := .seq (zr 0 1 c179r0) (.seq (.seq (zr 1 3 c179r1) (.block 0 (.loop c179b7))) (.seq (zr 7 1 c179r7) .ret))
theorem k179 : Compiled Tryz.prog 179 15 [.tmp 2] c179 := .mk' [] Tryz.func179 rfl (by kernel_rfl) (by kernel_rfl)
def c180r0 : List Seg := [zo 1 (.box 8 (.tmp 0)), zo 2 (.mv (zb false))]
def c180r1 : List Seg := [zf 5 0 1, zl 6 5, zc 7 177 [.tmp 6], zv 8 7, .grp 8 true [zg 9 (.fa 6 (.tmp 1)) 8 true, zg 10 (.load 1 false (.tmp 9)) 8 true, zg 11 (.len false (.tmp 10)) 8 true, zg 12 (.bin .neq false (.tmp 11) (zi 1)) 8 true], zo 13 (.pick (.tmp 8) (.tmp 12) (zb false)), zv 14 13, .grp 14 false [zg 15 (.fa 0 (.tmp 1)) 14 false, zg 16 (.load 1 false (.tmp 15)) 14 false, zg 17 (.bin .eql false (.tmp 16) (zi 3)) 14 false, zg 18 (.mv (.tmp 17)) 14 false], .grp 18 false [zg 19 (.fa 0 (.tmp 1)) 18 false, zg 20 (.load 1 false (.tmp 19)) 18 false, zg 21 (.bin .eql false (.tmp 20) (zi 13)) 18 false], .grp 14 false [zg 22 (.pick (.tmp 18) (zb true) (.tmp 21)) 14 false, zg 23 (.mv (.tmp 22)) 14 false], .grp 23 true [zg 24 (.fa 5 (.tmp 1)) 23 true, zg 25 (.load 1 false (.tmp 24)) 23 true, zg 26 (.bin .lss false (.tmp 25) (zi 1)) 23 true], .grp 14 false [zg 27 (.pick (.tmp 23) (.tmp 26) (zb false)) 14 false], zo 28 (.pick (.tmp 14) (zb true) (.tmp 27))]
def c180r2 : List Seg := [zo 2 (.mv (zb false))]
def c180t3 : ACode := .cond (.tmp 28) (.seq (zr 2 1 c180r2) .ret) .skip
def c180r3 : List Seg := [zf 29 3 1, zl 30 29, zo 31 (.len false (.tmp 30)), zv 3 31]
def c180r4 : List Seg := [zf 32 0 1, zl 33 32, zo 34 (.bin .eql false (.tmp 33) (zi 14)), zv 35 34, .grp 35 true [zg 36 (.fa 1 (.tmp 1)) 35 true, zg 37 (.load 1 false (.tmp 36)) 35 true, zg 38 (.bin .eql false (.tmp 37) (.con (.one (.t (.str (bs [])))))) 35 true, zg 39 (.mv (.tmp 38)) 35 true], .grp 39 true [zg 40 (.mv (.tmp 3)) 39 true, zg 41 (.bin .gtr false (.tmp 40) (zi 0)) 39 true], .grp 35 true [zg 42 (.pick (.tmp 39) (.tmp 41) (zb false)) 35 true, zg 43 (.mv (.tmp 42)) 35 true], .grp 43 false [zg 44 (.fa 1 (.tmp 1)) 43 false, zg 45 (.load 1 false (.tmp 44)) 43 false, zg 46 (.bin .neq false (.tmp 45) (.con (.one (.t (.str (bs [])))))) 43 false, zg 47 (.mv (.tmp 46)) 43 false], .grp 47 true [zg 48 (.mv (.tmp 3)) 47 true, zg 49 (.bin .neq false (.tmp 48) (zi 2)) 47 true], .grp 43 false [zg 50 (.pick (.tmp 47) (.tmp 49) (zb false)) 43 false, zg 51 (.mv (.tmp 50)) 43 false], .grp 51 true [zg 52 (.mv (.tmp 3)) 51 true, zg 53 (.bin .neq false (.tmp 52) (zi 3)) 51 true], .grp 43 false [zg 54 (.pick (.tmp 51) (.tmp 53) (zb false)) 43 false], .grp 35 true [zg 55 (.pick (.tmp 43) (zb true) (.tmp 54)) 35 true], zo 56 (.pick (.tmp 35) (.tmp 55) (zb false))]
def c180r5 : List Seg := [zo 2 (.mv (zb false))]
def c180t7 : ACode := .cond (.tmp 56) (.seq (zr 5 1 c180r5) .ret) .skip
def c180t8 : ACode := .seq (zr 4 25 c180r4) c180t7
def c180r6 : List Seg := [zo 4 (.mv (.con (.one (.fn 216 []))))]
def c180r7 : List Seg := [zf 57 3 1, zl 58 57, zv 59 4, zc 60 173 [.tmp 58, .tmp 59], zo 61 (.un .not (.tmp 60)), zv 62 61, .br 62 true [zg 63 (.fa 7 (.tmp 1)) 62 true, zg 64 (.load 1 false (.tmp 63)) 62 true, .mk (some 65) (.call 217 [.tmp 64]) (some (62, true))], zo 66 (.pick (.tmp 62) (.tmp 65) (zb false)), zv 2 66]
def c180t11 : ACode := .seq (.seq (zr 3 4 c180r3) c180t8) (.seq (zr 6 1 c180r6) (.seq (zr 7 11 c180r7) .ret))
def c180t12 : ACode := .seq (.seq (zr 1 24 c180r1) c180t3) c180t11
def c180 : ACode := .seq (zr 0 2 c180r0) c180t12
theorem k180 : Compiled Tryz.prog 180 67 [.tmp 2] c180 := .mk' [] Tryz.func180 rfl (by kernel_rfl) (by kernel_rfl)
def c181r0 : List Seg := [zo 1 (.box 8 (.tmp 0)), zo 2 (.mv (zi 0))]
def c181r1 : List Seg := [zf 3 0 1, zl 4 3]
def c181r2 : List Seg := [zo 6 (.bin .eql false (.tmp 4) (zi 6)), zv 5 6]
def c181r3 : List Seg := [zo 7 (.bslice 1 4 [.t (.str (bs [])), .t (.str (bs [])), .t (.str (bs [])), .t (.str (bs []))] [(0, (1, .con (.one (.t (.str (bs [78, 117, 109, 101, 114, 105, 99, 83, 116, 114, 105, 110, 103])))))), (1, (1, .con (.one (.t (.str (bs [80, 114, 105, 110, 116, 97, 98, 108, 101, 83, 116, 114, 105, 110, 103])))))), (2, (1, .con (.one (.t (.str (bs [86, 105, 115, 105, 98, 108, 101, 83, 116, 114, 105, 110, 103])))))), (3, (1, .con (.one (.t (.str (bs [73, 65, 53, 83, 116, 114, 105, 110, 103]))))))]), zf 8 1 1, zl 9 8, zc 10 218 [.tmp 7, .tmp 9], zc 11 171 [.tmp 10, zi 7], zv 2 11]
def c181r4 : List Seg := [zo 13 (.bin .eql false (.tmp 4) (zi 15)), zv 12 13]
def c181r5 : List Seg := [zf 14 1 1, zl 15 14, zc 16 219 [.tmp 15], zc 17 171 [.tmp 16, zi 7], zv 2 17]
def c181r6 : List Seg := [zo 19 (.bin .eql false (.tmp 4) (zi 14)), zv 18 19]
def c181r7 : List Seg := [zf 20 1 1, zl 21 20, zo 22 (.bin .neq false (.tmp 21) (.con (.one (.t (.str (bs [])))))), zv 23 22, .br 23 true [zg 24 (.fa 1 (.tmp 1)) 23 true, zg 25 (.load 1 false (.tmp 24)) 23 true, .mk (some 26) (.call 219 [.tmp 25]) (some (23, true)), zg 27 (.un .not (.tmp 26)) 23 true], zo 28 (.pick (.tmp 23) (.tmp 27) (zb false))]
def c181r8 : List Seg := [zo 2 (.mv (zi 7))]
def c181t9 : ACode := .cond (.tmp 28) (.seq (zr 8 1 c181r8) .ret) .skip
def c181t10 : ACode := .cond (.tmp 18) (.seq (zr 7 9 c181r7) c181t9) .skip
def c181t11 : ACode := .cond (.tmp 12) (.seq (zr 5 5 c181r5) .ret) (.seq (zr 6 2 c181r6) c181t10)
def c181t12 : ACode := .cond (.tmp 5) (.seq (zr 3 6 c181r3) .ret) (.seq (zr 4 2 c181r4) c181t11)
def c181t13 : ACode := .block 0 (.seq (zr 2 2 c181r2) c181t12)
def c181r9 : List Seg := [zf 29 3 1, zl 30 29, zc 31 173 [.tmp 30, .con (.one (.fn 220 []))], zo 32 (.un .not (.tmp 31)), zc 33 171 [.tmp 32, zi 7], zv 2 33]
def c181t15 : ACode := .seq (.seq (zr 1 2 c181r1) c181t13) (.seq (zr 9 6 c181r9) .ret)
def c181 : ACode := .seq (zr 0 2 c181r0) c181t15
theorem k181 : Compiled Tryz.prog 181 34 [.tmp 2] c181 := .mk' [] Tryz.func181 rfl (by kernel_rfl) (by kernel_rfl)
def c182r0 : List Seg := [zo 1 (.box 8 (.tmp 0)), zo 2 (.mv (zi 0))]
def c182r1 : List Seg := [zf 5 0 1, zl 6 5, zo 7 (.bin .eql false (.tmp 6) (zi 15)), zv 8 7, .grp 8 false [zg 9 (.fa 0 (.tmp 1)) 8 false, zg 10 (.load 1 false (.tmp 9)) 8 false, zg 11 (.bin .eql false (.tmp 10) (zi 14)) 8 false], zo 12 (.pick (.tmp 8) (zb true) (.tmp 11))]
def c182r2 : List Seg := [zo 2 (.mv (zi 0))]
def c182t3 : ACode := .cond (.tmp 12) (.seq (zr 2 1 c182r2) .ret) .skip
def c182r3 : List Seg := [zf 13 3 1, zl 14 13, zo 15 (.len false (.tmp 14)), zo 16 (.mv (zi 0))]
def c182r4 : List Seg := [zo 17 (.bin .lss false (.tmp 16) (.tmp 15))]
def c182r5 : List Seg := [zv 18 16, zo 19 (.ia 13 (.tmp 14) (.tmp 16)), zo 20 (.load 13 true (.tmp 19)), zo 4 (.alloc [.t (.str (bs [])), za, za, .t (.str (bs [])), .tt 3 [], .tt 13 [], .t (.bool false), za, .tt 8 [], .tt 5 [], za, .tt 6 [], za]), zv 3 18, zn (.store 13 (.tmp 4) (.tmp 20))]
def c182r6 : List Seg := [zf 21 3 1, zl 22 21, zv 23 3, zo 24 (.sl false 13 (.tmp 22) none (some (.tmp 23)) none), zo 25 (.mkfn 221 [.tmp 4, .tmp 1]), zc 26 173 [.tmp 24, .tmp 25]]
def c182r7 : List Seg := [zo 2 (.mv (zi 13))]
def c182t9 : ACode := .cond (.tmp 26) (.seq (zr 7 1 c182r7) .ret) .skip
def c182t10 : ACode := .seq (zr 6 6 c182r6) c182t9
def c182r8 : List Seg := [zo 27 (.bin .add false (.tmp 16) (zi 1)), zv 16 27]
def c182t12 : ACode := .seq (.block 1 (.seq (zr 5 6 c182r5) c182t10)) (zr 8 2 c182r8)
def c182t13 : ACode := .seq (.cond (.tmp 17) .skip (.exit 0)) c182t12
def c182b14 : ACode := .seq (zr 4 1 c182r4) c182t13
def c182t15 : ACode := .block 0 (.loop c182b14)
def c182r9 : List Seg := [zo 2 (.mv (zi 0))]
def c182t17 : ACode := .seq (.seq (zr 3 4 c182r3) c182t15) (.seq (zr 9 1 c182r9) .ret)
def c182t18 : ACode := .seq (.seq (zr 1 8 c182r1) c182t3) c182t17
def c182 : ACode := .seq (zr 0 2 c182r0) c182t18
theorem k182 : Compiled Tryz.prog 182 28 [.tmp 2] c182 := .mk' [] Tryz.func182 rfl (by kernel_rfl) (by kernel_rfl)
def c184r0 : List Seg := [zo 2 (.mv (zb false))]
def c184r1 : List Seg := [zv 3 0, zc 4 170 [.tmp 3, zi (-1152921504606846976), zi 1152921504606846976], zv 2 4]
def c184 : ACode := .seq (zr 0 1 c184r0) (.seq (zr 1 3 c184r1) .ret)
theorem k184 : Compiled Tryz.prog 184 5 [.tmp 2] c184 := .mk' [] Tryz.func184 rfl (by kernel_rfl) (by kernel_rfl)
def c185r0 : List Seg := [zo 1 (.box 8 (.tmp 0)), zo 2 (.mv (zb false))]
def c185r1 : List Seg := [zo 3 (.mv (zi 0)), zo 4 (.mv (zi 0))]
def c185r2 : List Seg := [zf 8 3 1, zl 9 8, zo 10 (.len false (.tmp 9)), zo 11 (.mv (zi 0))]
def c185r3 : List Seg := [zo 12 (.bin .lss false (.tmp 11) (.tmp 10))]
def c185r4 : List Seg := [zv 13 11, zo 14 (.ia 13 (.tmp 9) (.tmp 11)), zo 15 (.load 13 true (.tmp 14)), zo 6 (.alloc [.t (.str (bs [])), za, za, .t (.str (bs [])), .tt 3 [], .tt 13 [], .t (.bool false), za, .tt 8 [], .tt 5 [], za, .tt 6 [], za]), zv 5 13, zn (.store 13 (.tmp 6) (.tmp 15))]
def c185r5 : List Seg := [zf 16 12 6, zl 17 16, zo 18 (.bin .eql false (.tmp 17) (zi 0)), zv 19 18, .grp 19 false [zg 20 (.mv (.tmp 5)) 19 false, zg 21 (.fa 5 (.tmp 1)) 19 false, zg 22 (.load 1 false (.tmp 21)) 19 false, zg 23 (.bin .geq false (.tmp 20) (.tmp 22)) 19 false, zg 24 (.mv (.tmp 23)) 19 false], .grp 24 true [zg 25 (.fa 12 (.tmp 6)) 24 true, zg 26 (.load 1 false (.tmp 25)) 24 true, zg 27 (.mv (.tmp 3)) 24 true, zg 28 (.bin .add false (.tmp 27) (zi 1)) 24 true, zg 29 (.bin .eql false (.tmp 26) (.tmp 28)) 24 true, zg 30 (.mv (.tmp 29)) 24 true], .grp 30 false [zg 31 (.fa 12 (.tmp 6)) 30 false, zg 32 (.load 1 false (.tmp 31)) 30 false, zg 33 (.mv (.tmp 3)) 30 false, zg 34 (.bin .eql false (.tmp 32) (.tmp 33)) 30 false, zg 35 (.mv (.tmp 34)) 30 false], .grp 35 true [zg 36 (.mv (.tmp 4)) 35 true, zg 37 (.mv (.tmp 3)) 35 true, zg 38 (.bin .eql false (.tmp 36) (.tmp 37)) 35 true], .grp 30 false [zg 39 (.pick (.tmp 35) (.tmp 38) (zb false)) 30 false], .grp 24 true [zg 40 (.pick (.tmp 30) (zb true) (.tmp 39)) 24 true], .grp 19 false [zg 41 (.pick (.tmp 24) (.tmp 40) (zb false)) 19 false], zo 42 (.pick (.tmp 19) (zb true) (.tmp 41)), zv 7 42]
def c185r6 : List Seg := [zv 43 7, zo 44 (.un .not (.tmp 43))]
def c185r7 : List Seg := [zo 2 (.mv (zb false))]
def c185t8 : ACode := .cond (.tmp 44) (.seq (zr 7 1 c185r7) .ret) .skip
def c185r8 : List Seg := [zv 45 3, zf 46 12 6, zl 47 46, zo 48 (.mm true [.tmp 45, .tmp 47]), zf 49 12 6, zl 50 49, zv 3 48, zv 4 50]
def c185t10 : ACode := .seq (.seq (zr 6 2 c185r6) c185t8) (.region 8 true 8 c185r8)
def c185t11 : ACode := .seq (zr 5 28 c185r5) c185t10
def c185r9 : List Seg := [zo 51 (.bin .add false (.tmp 11) (zi 1)), zv 11 51]
def c185t13 : ACode := .seq (.block 1 (.seq (zr 4 6 c185r4) c185t11)) (zr 9 2 c185r9)
def c185t14 : ACode := .seq (.cond (.tmp 12) .skip (.exit 0)) c185t13
def c185b15 : ACode := .seq (zr 3 1 c185r3) c185t14
def c185t16 : ACode := .block 0 (.loop c185b15)
def c185r10 : List Seg := [zo 2 (.mv (zb true))]
def c185t18 : ACode := .seq (.seq (zr 2 4 c185r2) c185t16) (.seq (zr 10 1 c185r10) .ret)
def c185t19 : ACode := .seq (zr 1 2 c185r1) c185t18
def c185 : ACode := .seq (zr 0 2 c185r0) c185t19
theorem k185 : Compiled Tryz.prog 185 52 [.tmp 2] c185 := .mk' [] Tryz.func185 rfl (by kernel_rfl) (by kernel_rfl)
def c186r0 : List Seg := [zo 1 (.box 6 (.tmp 0)), zo 2 (.mv (zi 0))]
def c186r1 : List Seg := [zf 10 0 1, zl 11 10, zc 12 170 [.tmp 11, zi 0, zi 14], zo 13 (.un .not (.tmp 12))]
def c186r2 : List Seg := [zo 2 (.mv (zi 4))]
def c186t3 : ACode := .cond (.tmp 13) (.seq (zr 2 1 c186r2) .ret) .skip
def c186r3 : List Seg := [zf 14 0 1, zl 15 14, zc 16 222 [.tmp 15], zo 3 (.alloc [.t (.bool false), .t (.bool false), .t (.bool false), .t (.bool false), .t (.bool false)]), zn (.store 5 (.tmp 3) (.tmp 16))]
def c186r4 : List Seg := [zf 17 0 3, zl 18 17, zo 19 (.un .not (.tmp 18)), zv 20 19, .grp 20 true [zg 21 (.fa 1 (.tmp 1)) 20 true, zg 22 (.load 1 false (.tmp 21)) 20 true, zg 23 (.bin .neq false (.tmp 22) (zi 0)) 20 true], zo 24 (.pick (.tmp 20) (.tmp 23) (zb false)), zv 25 24, .grp 25 false [zg 26 (.fa 1 (.tmp 3)) 25 false, zg 27 (.load 1 false (.tmp 26)) 25 false, zg 28 (.un .not (.tmp 27)) 25 false, zg 29 (.mv (.tmp 28)) 25 false], .grp 29 true [zg 30 (.fa 2 (.tmp 1)) 29 true, zg 31 (.load 1 false (.tmp 30)) 29 true, zg 32 (.bin .neq false (.tmp 31) (zi 0)) 29 true], .grp 25 false [zg 33 (.pick (.tmp 29) (.tmp 32) (zb false)) 25 false], zo 34 (.pick (.tmp 25) (zb true) (.tmp 33)), zv 35 34, .grp 35 false [zg 36 (.fa 2 (.tmp 3)) 35 false, zg 37 (.load 1 false (.tmp 36)) 35 false, zg 38 (.un .not (.tmp 37)) 35 false, zg 39 (.mv (.tmp 38)) 35 false], .grp 39 true [zg 40 (.fa 3 (.tmp 1)) 39 true, zg 41 (.load 1 false (.tmp 40)) 39 true, zg 42 (.bin .neq false (.tmp 41) (.con (.one (.t (.str (bs [])))))) 39 true], .grp 35 false [zg 43 (.pick (.tmp 39) (.tmp 42) (zb false)) 35 false], zo 44 (.pick (.tmp 35) (zb true) (.tmp 43)), zv 45 44, .grp 45 false [zg 46 (.fa 3 (.tmp 3)) 45 false, zg 47 (.load 1 false (.tmp 46)) 45 false, zg 48 (.un .not (.tmp 47)) 45 false, zg 49 (.mv (.tmp 48)) 45 false], .grp 49 true [zg 50 (.fa 4 (.tmp 1)) 49 true, zg 51 (.load 1 false (.tmp 50)) 49 true, zg 52 (.len false (.tmp 51)) 49 true, zg 53 (.bin .gtr false (.tmp 52) (zi 0)) 49 true], .grp 45 false [zg 54 (.pick (.tmp 49) (.tmp 53) (zb false)) 45 false], zo 55 (.pick (.tmp 45) (zb true) (.tmp 54)), zv 56 55, .grp 56 false [zg 57 (.fa 4 (.tmp 3)) 56 false, zg 58 (.load 1 false (.tmp 57)) 56 false, zg 59 (.un .not (.tmp 58)) 56 false, zg 60 (.mv (.tmp 59)) 56 false], .grp 60 true [zg 61 (.fa 5 (.tmp 1)) 60 true, zg 62 (.load 1 false (.tmp 61)) 60 true, zg 63 (.len false (.tmp 62)) 60 true, zg 64 (.bin .gtr false (.tmp 63) (zi 0)) 60 true], .grp 56 false [zg 65 (.pick (.tmp 60) (.tmp 64) (zb false)) 56 false], zo 66 (.pick (.tmp 56) (zb true) (.tmp 65))]
def c186r5 : List Seg := [zo 2 (.mv (zi 5))]
def c186t7 : ACode := .cond (.tmp 66) (.seq (zr 5 1 c186r5) .ret) .skip
def c186r6 : List Seg := [zo 67 (.load 6 true (.tmp 1)), zc 68 223 [.tmp 67], zo 69 (.un .not (.tmp 68))]
def c186r7 : List Seg := [zo 2 (.mv (zi 3))]
def c186t10 : ACode := .cond (.tmp 69) (.seq (zr 7 1 c186r7) .ret) .skip
def c186r8 : List Seg := [zf 70 0 1, zl 71 70, zo 72 (.bin .eql false (.tmp 71) (zi 4)), zv 73 72, .grp 73 false [zg 74 (.fa 0 (.tmp 1)) 73 false, zg 75 (.load 1 false (.tmp 74)) 73 false, zg 76 (.bin .eql false (.tmp 75) (zi 5)) 73 false], zo 77 (.pick (.tmp 73) (zb true) (.tmp 76)), zv 78 77, .grp 78 false [zg 79 (.fa 0 (.tmp 1)) 78 false, zg 80 (.load 1 false (.tmp 79)) 78 false, zg 81 (.bin .eql false (.tmp 80) (zi 6)) 78 false], zo 82 (.pick (.tmp 78) (zb true) (.tmp 81)), zv 4 82]
def c186r9 : List Seg := [zo 5 (.mv (zi 40))]
def c186r10 : List Seg := [zf 83 0 1, zl 84 83, zo 85 (.bin .eql false (.tmp 84) (zi 9))]
def c186r11 : List Seg := [zo 5 (.mv (zi 16))]
def c186t15 : ACode := .cond (.tmp 85) (zr 11 1 c186r11) .skip
def c186r12 : List Seg := [zv 86 4, zv 87 86, .grp 87 true [zg 88 (.fa 3 (.tmp 1)) 87 true, zg 89 (.load 1 false (.tmp 88)) 87 true, zg 90 (.len true (.tmp 89)) 87 true, zg 91 (.bin .gtr false (.tmp 90) (zi 200)) 87 true], zo 92 (.pick (.tmp 87) (.tmp 91) (zb false)), zv 93 92, .grp 93 false [zg 94 (.fa 5 (.tmp 1)) 93 false, zg 95 (.load 1 false (.tmp 94)) 93 false, zg 96 (.len false (.tmp 95)) 93 false, zg 97 (.mv (.tmp 5)) 93 false, zg 98 (.bin .gtr false (.tmp 96) (.tmp 97)) 93 false], zo 99 (.pick (.tmp 93) (zb true) (.tmp 98))]
def c186r13 : List Seg := [zo 2 (.mv (zi 2))]
def c186t18 : ACode := .cond (.tmp 99) (.seq (zr 13 1 c186r13) .ret) .skip
def c186r14 : List Seg := [zo 100 (.load 6 true (.tmp 1)), zc 101 224 [.tmp 100], zo 102 (.un .not (.tmp 101))]
def c186r15 : List Seg := [zo 2 (.mv (zi 6))]
def c186t21 : ACode := .cond (.tmp 102) (.seq (zr 15 1 c186r15) .ret) .skip
def c186r16 : List Seg := [zf 103 0 1, zl 104 103, zo 105 (.bin .eql false (.tmp 104) (zi 4)), zv 106 105, .br 106 true [zg 107 (.fa 3 (.tmp 1)) 106 true, zg 108 (.load 1 false (.tmp 107)) 106 true, .mk (some 109) (.call 151 [.tmp 108, .con (.one (.t (.str (bs [48, 49]))))]) (some (106, true)), zg 110 (.bin .neq false (.tmp 109) (.con (.one (.t (.str (bs [])))))) 106 true], zo 111 (.pick (.tmp 106) (.tmp 110) (zb false)), zv 6 111]
def c186r17 : List Seg := [zf 112 0 1, zl 113 112, zo 114 (.bin .eql false (.tmp 113) (zi 6)), zv 115 114, .br 115 true [zg 116 (.fa 3 (.tmp 1)) 115 true, zg 117 (.load 1 false (.tmp 116)) 115 true, .mk (some 118) (.call 225 [.tmp 117, .con (.one (.fn 226 []))]) (some (115, true)), zg 119 (.bin .geq false (.tmp 118) (zi 0)) 115 true], zo 120 (.pick (.tmp 115) (.tmp 119) (zb false)), zv 7 120]
def c186r18 : List Seg := [zv 121 6, zv 122 121, .grp 122 false [zg 123 (.mv (.tmp 7)) 122 false], zo 124 (.pick (.tmp 122) (zb true) (.tmp 123))]
def c186r19 : List Seg := [zo 2 (.mv (zi 17))]
def c186t26 : ACode := .cond (.tmp 124) (.seq (zr 19 1 c186r19) .ret) .skip
def c186r20 : List Seg := [zf 125 0 1, zl 126 125, zo 127 (.bin .eql false (.tmp 126) (zi 3)), zv 128 127, .grp 128 false [zg 129 (.fa 0 (.tmp 1)) 128 false, zg 130 (.load 1 false (.tmp 129)) 128 false, zg 131 (.bin .eql false (.tmp 130) (zi 13)) 128 false, zg 132 (.mv (.tmp 131)) 128 false], .grp 132 true [zg 133 (.fa 3 (.tmp 1)) 132 true, zg 134 (.load 1 false (.tmp 133)) 132 true, zg 135 (.bin .neq false (.tmp 134) (.con (.one (.t (.str (bs [])))))) 132 true], .grp 128 false [zg 136 (.pick (.tmp 132) (.tmp 135) (zb false)) 128 false], zo 137 (.pick (.tmp 128) (zb true) (.tmp 136)), zv 138 137, .br 138 true [zg 139 (.fa 3 (.tmp 1)) 138 true, zg 140 (.load 1 false (.tmp 139)) 138 true, .mk (some 141) (.call 219 [.tmp 140]) (some (138, true)), zg 142 (.un .not (.tmp 141)) 138 true], zo 143 (.pick (.tmp 138) (.tmp 142) (zb false)), zv 144 143, .br 144 false [zg 145 (.fa 4 (.tmp 1)) 144 false, zg 146 (.load 1 false (.tmp 145)) 144 false, .mk (some 147) (.call 227 [.tmp 146, .con (.one (.fn 228 []))]) (some (144, false))], zo 148 (.pick (.tmp 144) (zb true) (.tmp 147))]
def c186r21 : List Seg := [zo 2 (.mv (zi 7))]
def c186t29 : ACode := .cond (.tmp 148) (.seq (zr 21 1 c186r21) .ret) .skip
def c186r22 : List Seg := [zf 149 4 1, zl 150 149, zo 151 (.len false (.tmp 150)), zo 152 (.mv (zi 0))]
def c186r23 : List Seg := [zo 153 (.bin .lss false (.tmp 152) (.tmp 151))]
def c186r24 : List Seg := [zv 154 152, zo 155 (.ia 1 (.tmp 150) (.tmp 152)), zl 156 155, zv 8 154, zv 9 156]
def c186r25 : List Seg := [zf 157 4 1, zl 158 157, zv 159 8, zo 160 (.sl false 1 (.tmp 158) none (some (.tmp 159)) none), zv 161 9, zc 162 218 [.tmp 160, .tmp 161]]
def c186r26 : List Seg := [zo 2 (.mv (zi 13))]
def c186t35 : ACode := .cond (.tmp 162) (.seq (zr 26 1 c186r26) .ret) .skip
def c186t36 : ACode := .seq (zr 25 6 c186r25) c186t35
def c186r27 : List Seg := [zo 163 (.bin .add false (.tmp 152) (zi 1)), zv 152 163]
def c186t38 : ACode := .seq (.block 1 (.seq (zr 24 5 c186r24) c186t36)) (zr 27 2 c186r27)
def c186t39 : ACode := .seq (.cond (.tmp 153) .skip (.exit 0)) c186t38
def c186b40 : ACode := .seq (zr 23 1 c186r23) c186t39
def c186t41 : ACode := .block 0 (.loop c186b40)
def c186r28 : List Seg := [zf 164 0 1, zl 165 164, zo 166 (.bin .neq false (.tmp 165) (zi 11)), zv 167 166, .br 167 false [zg 168 (.fa 5 (.tmp 1)) 167 false, zg 169 (.load 1 false (.tmp 168)) 167 false, .mk (some 170) (.call 229 [.tmp 169, .con (.one (.fn 230 []))]) (some (167, false))], zo 171 (.pick (.tmp 167) (zb true) (.tmp 170)), zc 172 171 [.tmp 171, zi 14], zv 2 172]
def c186t43 : ACode := .seq (.seq (zr 22 4 c186r22) c186t41) (.seq (zr 28 10 c186r28) .ret)
def c186t44 : ACode := .seq (.seq (zr 20 24 c186r20) c186t29) c186t43
def c186t45 : ACode := .seq (.seq (zr 18 4 c186r18) c186t26) c186t44
def c186t46 : ACode := .seq (zr 17 10 c186r17) c186t45
def c186t47 : ACode := .seq (zr 16 10 c186r16) c186t46
def c186t48 : ACode := .seq (.seq (zr 14 3 c186r14) c186t21) c186t47
def c186t49 : ACode := .seq (.seq (zr 12 14 c186r12) c186t18) c186t48
def c186t50 : ACode := .seq (.seq (zr 10 3 c186r10) c186t15) c186t49
def c186t51 : ACode := .seq (zr 9 1 c186r9) c186t50
def c186t52 : ACode := .seq (zr 8 14 c186r8) c186t51
def c186t53 : ACode := .seq (.seq (zr 6 3 c186r6) c186t10) c186t52
def c186t54 : ACode := .seq (.seq (zr 4 50 c186r4) c186t7) c186t53
def c186t55 : ACode := .seq (zr 3 5 c186r3) c186t54
def c186t56 : ACode := .seq (.seq (zr 1 4 c186r1) c186t3) c186t55
def c186 : ACode := .seq (zr 0 2 c186r0) c186t56
theorem k186 : Compiled Tryz.prog 186 173 [.tmp 2] c186 := .mk' [] Tryz.func186 rfl (by kernel_rfl) (by kernel_rfl)
def c212r0 : List Seg := [zo 2 (.mv (zb false))]
def c212r1 : List Seg := [zv 3 0, zo 4 (.bin .eql false (.tmp 3) (zi 9)), zv 5 4, .grp 5 false [zg 6 (.mv (.tmp 0)) 5 false, zg 7 (.bin .eql false (.tmp 6) (zi 10)) 5 false], zo 8 (.pick (.tmp 5) (zb true) (.tmp 7)), zv 2 8]
def c212 : ACode := .seq (zr 0 1 c212r0) (.seq (zr 1 7 c212r1) .ret)
theorem k212 : Compiled Tryz.prog 212 9 [.tmp 2] c212 := .mk' [] Tryz.func212 rfl (by kernel_rfl) (by kernel_rfl)
def c213r0 : List Seg := [zo 4 (.mv (zi 0))]
def c213r1 : List Seg := [zv 6 0, zo 7 (.len false (.tmp 6)), zo 8 (.mv (zi 0))]
def c213r2 : List Seg := [zo 9 (.bin .lss false (.tmp 8) (.tmp 7))]
def c213r3 : List Seg := [zv 10 8, zv 5 10]
def c213r4 : List Seg := [zv 11 1, zv 12 0, zv 13 5, zo 14 (.ia 13 (.tmp 12) (.tmp 13)), zo 15 (.load 13 true (.tmp 14)), .one (.mk (some 16) (.callv (.tmp 11) [.tmp 15]) none)]
def c213r5 : List Seg := [zv 17 5, zv 4 17]
def c213r6 : List Seg := [zo 18 (.bin .add false (.tmp 8) (zi 1)), zv 8 18]
def c213b7 : ACode := .seq (zr 2 1 c213r2) (.seq (.cond (.tmp 9) .skip (.exit 0)) (.seq (.block 1 (.seq (zr 3 2 c213r3) (.seq (zr 4 6 c213r4) (.cond (.tmp 16) (.seq (zr 5 2 c213r5) .ret) .skip)))) (zr 6 2 c213r6)))
def c213r7 : List Seg := [zo 4 (.mv (zi (-1)))]
def c213 : ACode := .seq (zr 0 1 c213r0) (.seq (.seq (zr 1 3 c213r1) (.block 0 (.loop c213b7))) (.seq (zr 7 1 c213r7) .ret))
theorem k213 : Compiled Tryz.prog 213 19 [.tmp 4] c213 := .mk' [] Tryz.func213 rfl (by kernel_rfl) (by kernel_rfl)
def c215r0 : List Seg := [zo 4 (.mv (zb false))]
def c215r1 : List Seg := [zv 5 0, zv 6 1, zc 7 254 [.tmp 5, .tmp 6], zo 8 (.bin .geq false (.tmp 7) (zi 0)), zv 4 8]
def c215 : ACode := .seq (zr 0 1 c215r0) (.seq (zr 1 5 c215r1) .ret)
theorem k215 : Compiled Tryz.prog 215 9 [.tmp 4] c215 := .mk' [] Tryz.func215 rfl (by kernel_rfl) (by kernel_rfl)
def c222r0 : List Seg := [zo 2 (.alloc [.t (.bool false), .t (.bool false), .t (.bool false), .t (.bool false), .t (.bool false)])]
def c222r1 : List Seg := [zv 3 0]
def c222r2 : List Seg := [zo 5 (.bin .eql false (.tmp 3) (zi 1)), zv 4 5]
def c222r3 : List Seg := [zo 6 (.bin .eql false (.tmp 3) (zi 2)), zv 4 6]
def c222r4 : List Seg := [zo 7 (.bin .eql false (.tmp 3) (zi 14)), zv 4 7]
def c222r5 : List Seg := [zo 8 (.build [.t (.bool false), .t (.bool false), .t (.bool false), .t (.bool false), .t (.bool false)] [(0, (1, zb true))]), zn (.store 5 (.tmp 2) (.tmp 8))]
def c222r6 : List Seg := [zo 10 (.bin .eql false (.tmp 3) (zi 3)), zv 9 10]
def c222r7 : List Seg := [zo 11 (.bin .eql false (.tmp 3) (zi 4)), zv 9 11]
def c222r8 : List Seg := [zo 12 (.bin .eql false (.tmp 3) (zi 5)), zv 9 12]
def c222r9 : List Seg := [zo 13 (.bin .eql false (.tmp 3) (zi 6)), zv 9 13]
def c222r10 : List Seg := [zo 14 (.build [.t (.bool false), .t (.bool false), .t (.bool false), .t (.bool false), .t (.bool false)] [(2, (1, zb true))]), zn (.store 5 (.tmp 2) (.tmp 14))]
def c222r11 : List Seg := [zo 16 (.bin .eql false (.tmp 3) (zi 7)), zv 15 16]
def c222r12 : List Seg := [zo 17 (.bin .eql false (.tmp 3) (zi 10)), zv 15 17]
def c222r13 : List Seg := [zo 18 (.bin .eql false (.tmp 3) (zi 11)), zv 15 18]
def c222r14 : List Seg := [zo 19 (.build [.t (.bool false), .t (.bool false), .t (.bool false), .t (.bool false), .t (.bool false)] [(4, (1, zb true))]), zn (.store 5 (.tmp 2) (.tmp 19))]
def c222r15 : List Seg := [zo 21 (.bin .eql false (.tmp 3) (zi 8)), zv 20 21]
def c222r16 : List Seg := [zo 22 (.build [.t (.bool false), .t (.bool false), .t (.bool false), .t (.bool false), .t (.bool false)] [(0, (1, zb true)), (1, (1, zb true))]), zn (.store 5 (.tmp 2) (.tmp 22))]
def c222r17 : List Seg := [zo 24 (.bin .eql false (.tmp 3) (zi 9)), zv 23 24]
def c222r18 : List Seg := [zo 25 (.bin .eql false (.tmp 3) (zi 12)), zv 23 25]
def c222r19 : List Seg := [zo 26 (.build [.t (.bool false), .t (.bool false), .t (.bool false), .t (.bool false), .t (.bool false)] [(3, (1, zb true)), (4, (1, zb true))]), zn (.store 5 (.tmp 2) (.tmp 26))]
def c222r20 : List Seg := [zo 28 (.bin .eql false (.tmp 3) (zi 13)), zv 27 28]
def c222r21 : List Seg := [zo 29 (.build [.t (.bool false), .t (.bool false), .t (.bool false), .t (.bool false), .t (.bool false)] [(2, (1, zb true)), (4, (1, zb true))]), zn (.store 5 (.tmp 2) (.tmp 29))]
def c222r22 : List Seg := [zo 30 (.build [.t (.bool false), .t (.bool false), .t (.bool false), .t (.bool false), .t (.bool false)] []), zn (.store 5 (.tmp 2) (.tmp 30))]
def c222 : ACode := .seq (zr 0 1 c222r0) (.seq (.seq (zr 1 1 c222r1) (.block 0 (.seq (.seq (zr 2 2 c222r2) (.cond (.tmp 4) .skip (.seq (zr 3 2 c222r3) (.cond (.tmp 4) .skip (zr 4 2 c222r4))))) (.cond (.tmp 4) (.seq (zr 5 2 c222r5) .ret) (.seq (.seq (zr 6 2 c222r6) (.cond (.tmp 9) .skip (.seq (zr 7 2 c222r7) (.cond (.tmp 9) .skip (.seq (zr 8 2 c222r8) (.cond (.tmp 9) .skip (zr 9 2 c222r9))))))) (.cond (.tmp 9) (.seq (zr 10 2 c222r10) .ret) (.seq (.seq (zr 11 2 c222r11) (.cond (.tmp 15) .skip (.seq (zr 12 2 c222r12) (.cond (.tmp 15) .skip (zr 13 2 c222r13))))) (.cond (.tmp 15) (.seq (zr 14 2 c222r14) .ret) (.seq (zr 15 2 c222r15) (.cond (.tmp 20) (.seq (zr 16 2 c222r16) .ret) (.seq (.seq (zr 17 2 c222r17) (.cond (.tmp 23) .skip (zr 18 2 c222r18))) (.cond (.tmp 23) (.seq (zr 19 2 c222r19) .ret) (.seq (zr 20 2 c222r20) (.cond (.tmp 27) (.seq (zr 21 2 c222r21) .ret) .skip)))))))))))))) (.seq (zr 22 2 c222r22) .ret))
theorem k222 : Compiled Tryz.prog 222 31 [.cell 2 5 true] c222 := .mk' [] Tryz.func222 rfl (by kernel_rfl) (by kernel_rfl)
def c223r0 : List Seg := [zo 1 (.box 6 (.tmp 0)), zo 2 (.mv (zb false))]
def c223r1 : List Seg := [zf 3 0 1, zl 4 3]
def c223r2 : List Seg := [zo 6 (.bin .eql false (.tmp 4) (zi 1)), zv 5 6]
def c223r3 : List Seg := [zf 7 1 1, zl 8 7, zc 9 170 [.tmp 8, zi 0, zi 1], zv 2 9]
def c223r4 : List Seg := [zo 11 (.bin .eql false (.tmp 4) (zi 2)), zv 10 11]
def c223r5 : List Seg := [zf 12 1 1, zl 13 12, zc 14 184 [.tmp 13], zv 2 14]
def c223r6 : List Seg := [zo 16 (.bin .eql false (.tmp 4) (zi 8)), zv 15 16]
def c223r7 : List Seg := [zf 17 1 1, zl 18 17, zo 19 (.bin .eql false (.tmp 18) (zi 0)), zv 20 19, .grp 20 true [zg 21 (.fa 2 (.tmp 1)) 20 true, zg 22 (.load 1 false (.tmp 21)) 20 true, zg 23 (.bin .eql false (.tmp 22) (zi 0)) 20 true], zo 24 (.pick (.tmp 20) (.tmp 23) (zb false)), zv 25 24, .br 25 false [zg 26 (.fa 1 (.tmp 1)) 25 false, zg 27 (.load 1 false (.tmp 26)) 25 false, .mk (some 28) (.call 184 [.tmp 27]) (some (25, false)), zg 29 (.mv (.tmp 28)) 25 false], .br 29 true [zg 30 (.fa 1 (.tmp 1)) 29 true, zg 31 (.load 1 false (.tmp 30)) 29 true, zg 32 (.bin .rem false (.tmp 31) (zi 2)) 29 true, zg 33 (.bin .neq false (.tmp 32) (zi 0)) 29 true], .grp 25 false [zg 34 (.pick (.tmp 29) (.tmp 33) (zb false)) 25 false, zg 35 (.mv (.tmp 34)) 25 false], .br 35 true [zg 36 (.fa 2 (.tmp 1)) 35 true, zg 37 (.load 1 false (.tmp 36)) 35 true, .mk (some 38) (.call 170 [.tmp 37, zi (-1000), zi 1000]) (some (35, true))], .grp 25 false [zg 39 (.pick (.tmp 35) (.tmp 38) (zb false)) 25 false], zo 40 (.pick (.tmp 25) (zb true) (.tmp 39)), zv 2 40]
def c223r8 : List Seg := [zo 42 (.bin .eql false (.tmp 4) (zi 14)), zv 41 42]
def c223r9 : List Seg := [zf 43 1 1, zl 44 43, zc 45 170 [.tmp 44, zi 0, zi 4], zv 2 45]
def c223r10 : List Seg := [zo 47 (.bin .eql false (.tmp 4) (zi 7)), zv 46 47]
def c223r11 : List Seg := [zf 48 5 1, zl 49 48, zc 50 261 [.tmp 49], zv 2 50]
def c223t12 : ACode := .cond (.tmp 46) (.seq (zr 11 4 c223r11) .ret) .skip
def c223t13 : ACode := .cond (.tmp 41) (.seq (zr 9 4 c223r9) .ret) (.seq (zr 10 2 c223r10) c223t12)
def c223t14 : ACode := .cond (.tmp 15) (.seq (zr 7 25 c223r7) .ret) (.seq (zr 8 2 c223r8) c223t13)
def c223t15 : ACode := .cond (.tmp 10) (.seq (zr 5 4 c223r5) .ret) (.seq (zr 6 2 c223r6) c223t14)
def c223t16 : ACode := .cond (.tmp 5) (.seq (zr 3 4 c223r3) .ret) (.seq (zr 4 2 c223r4) c223t15)
def c223t17 : ACode := .block 0 (.seq (zr 2 2 c223r2) c223t16)
def c223r12 : List Seg := [zo 2 (.mv (zb true))]
def c223t19 : ACode := .seq (.seq (zr 1 2 c223r1) c223t17) (.seq (zr 12 1 c223r12) .ret)
def c223 : ACode := .seq (zr 0 2 c223r0) c223t19
theorem k223 : Compiled Tryz.prog 223 51 [.tmp 2] c223 := .mk' [] Tryz.func223 rfl (by kernel_rfl) (by kernel_rfl)
def c224r0 : List Seg := [zo 1 (.box 6 (.tmp 0)), zo 2 (.mv (zb false))]
def c224r1 : List Seg := [zf 5 5 1, zl 6 5, zo 7 (.len false (.tmp 6)), zv 3 7]
def c224r2 : List Seg := [zo 4 (.alloc [.t .nilf]), zn (.store 1 (.tmp 4) (.con (.one (.fn 262 []))))]
def c224r3 : List Seg := [zf 8 0 1, zl 9 8]
def c224r4 : List Seg := [zo 11 (.bin .eql false (.tmp 9) (zi 7)), zv 10 11]
def c224r5 : List Seg := [zv 12 3, zo 13 (.bin .geq false (.tmp 12) (zi 2)), zv 14 13, .br 14 true [zg 15 (.fa 5 (.tmp 1)) 14 true, zg 16 (.load 1 false (.tmp 15)) 14 true, zg 17 (.mkfn 264 [.tmp 4]) 14 true, .mk (some 18) (.call 263 [.tmp 16, .tmp 17]) (some (14, true)), zg 19 (.un .not (.tmp 18)) 14 true], zo 20 (.pick (.tmp 14) (.tmp 19) (zb false)), zv 2 20]
def c224r6 : List Seg := [zo 22 (.bin .eql false (.tmp 9) (zi 9)), zv 21 22]
def c224r7 : List Seg := [zf 23 4 1, zl 24 23, zo 25 (.len false (.tmp 24)), zv 26 3, zo 27 (.bin .eql false (.tmp 25) (.tmp 26)), zv 2 27]
def c224r8 : List Seg := [zo 29 (.bin .eql false (.tmp 9) (zi 12)), zv 28 29]
def c224r9 : List Seg := [zf 30 4 1, zl 31 30, zo 32 (.len false (.tmp 31)), zo 33 (.bin .eql false (.tmp 32) (zi 1)), zv 34 33, .grp 34 true [zg 35 (.mv (.tmp 3)) 34 true, zg 36 (.bin .eql false (.tmp 35) (zi 1)) 34 true], zo 37 (.pick (.tmp 34) (.tmp 36) (zb false)), zv 2 37]
def c224r10 : List Seg := [zo 39 (.bin .eql false (.tmp 9) (zi 13)), zv 38 39]
def c224r11 : List Seg := [zv 40 3, zo 41 (.bin .eql false (.tmp 40) (zi 1)), zv 42 41, .grp 42 true [zg 43 (.fa 3 (.tmp 1)) 42 true, zg 44 (.load 1 false (.tmp 43)) 42 true, zg 45 (.bin .neq false (.tmp 44) (.con (.one (.t (.str (bs [])))))) 42 true, zg 46 (.mv (.tmp 45)) 42 true], .br 46 false [zg 47 (.fa 5 (.tmp 1)) 46 false, zg 48 (.load 1 false (.tmp 47)) 46 false, zg 49 (.ia 6 (.tmp 48) (zi 0)) 46 false, zg 50 (.fa 0 (.tmp 49)) 46 false, zg 51 (.load 1 false (.tmp 50)) 46 false, zg 52 (.bin .eql false (.tmp 51) (zi 5)) 46 false], .grp 42 true [zg 53 (.pick (.tmp 46) (zb true) (.tmp 52)) 42 true], zo 54 (.pick (.tmp 42) (.tmp 53) (zb false)), zv 2 54]
def c224t12 : ACode := .cond (.tmp 38) (.seq (zr 11 16 c224r11) .ret) .skip
def c224t13 : ACode := .cond (.tmp 28) (.seq (zr 9 9 c224r9) .ret) (.seq (zr 10 2 c224r10) c224t12)
def c224t14 : ACode := .cond (.tmp 21) (.seq (zr 7 6 c224r7) .ret) (.seq (zr 8 2 c224r8) c224t13)
def c224t15 : ACode := .cond (.tmp 10) (.seq (zr 5 10 c224r5) .ret) (.seq (zr 6 2 c224r6) c224t14)
def c224t16 : ACode := .block 0 (.seq (zr 4 2 c224r4) c224t15)
def c224r12 : List Seg := [zo 2 (.mv (zb true))]
def c224t18 : ACode := .seq (.seq (zr 3 2 c224r3) c224t16) (.seq (zr 12 1 c224r12) .ret)
def c224t19 : ACode := .seq (zr 2 2 c224r2) c224t18
def c224t20 : ACode := .seq (zr 1 4 c224r1) c224t19
def c224 : ACode := .seq (zr 0 2 c224r0) c224t20
theorem k224 : Compiled Tryz.prog 224 55 [.tmp 2] c224 := .mk' [] Tryz.func224 rfl (by kernel_rfl) (by kernel_rfl)
def c227r0 : List Seg := [zo 4 (.mv (zb false))]
def c227r1 : List Seg := [zv 5 0, zv 6 1, zc 7 266 [.tmp 5, .tmp 6], zo 8 (.bin .geq false (.tmp 7) (zi 0)), zv 4 8]
def c227 : ACode := .seq (zr 0 1 c227r0) (.seq (zr 1 5 c227r1) .ret)
theorem k227 : Compiled Tryz.prog 227 9 [.tmp 4] c227 := .mk' [] Tryz.func227 rfl (by kernel_rfl) (by kernel_rfl)
def c254r0 : List Seg := [zo 4 (.mv (zi 0))]
def c254r1 : List Seg := [zv 6 0, zo 7 (.len false (.tmp 6)), zo 8 (.mv (zi 0))]
def c254r2 : List Seg := [zo 9 (.bin .lss false (.tmp 8) (.tmp 7))]
def c254r3 : List Seg := [zv 10 8, zv 5 10]
def c254r4 : List Seg := [zv 11 1, zv 12 0, zv 13 5, zo 14 (.ia 1 (.tmp 12) (.tmp 13)), zl 15 14, zo 16 (.bin .eql false (.tmp 11) (.tmp 15))]
def c254r5 : List Seg := [zv 17 5, zv 4 17]
def c254r6 : List Seg := [zo 18 (.bin .add false (.tmp 8) (zi 1)), zv 8 18]
def c254b7 : ACode := .seq (zr 2 1 c254r2) (.seq (.cond (.tmp 9) .skip (.exit 0)) (.seq (.block 1 (.seq (zr 3 2 c254r3) (.seq (zr 4 6 c254r4) (.cond (.tmp 16) (.seq (zr 5 2 c254r5) .ret) .skip)))) (zr 6 2 c254r6)))
def c254r7 : List Seg := [zo 4 (.mv (zi (-1)))]
def c254 : ACode := .seq (zr 0 1 c254r0) (.seq (.seq (zr 1 3 c254r1) (.block 0 (.loop c254b7))) (.seq (zr 7 1 c254r7) .ret))
theorem k254 : Compiled Tryz.prog 254 19 [.tmp 4] c254 := .mk' [] Tryz.func254 rfl (by kernel_rfl) (by kernel_rfl)
def c266r0 : List Seg := [zo 4 (.mv (zi 0))]
def c266r1 : List Seg := [zv 6 0, zo 7 (.len false (.tmp 6)), zo 8 (.mv (zi 0))]
def c266r2 : List Seg := [zo 9 (.bin .lss false (.tmp 8) (.tmp 7))]
def c266r3 : List Seg := [zv 10 8, zv 5 10]
def c266r4 : List Seg := [zv 11 1, zv 12 0, zv 13 5, zo 14 (.ia 1 (.tmp 12) (.tmp 13)), zl 15 14, .one (.mk (some 16) (.callv (.tmp 11) [.tmp 15]) none)]
def c266r5 : List Seg := [zv 17 5, zv 4 17]
def c266r6 : List Seg := [zo 18 (.bin .add false (.tmp 8) (zi 1)), zv 8 18]
def c266b7 : ACode := .seq (zr 2 1 c266r2) (.seq (.cond (.tmp 9) .skip (.exit 0)) (.seq (.block 1 (.seq (zr 3 2 c266r3) (.seq (zr 4 6 c266r4) (.cond (.tmp 16) (.seq (zr 5 2 c266r5) .ret) .skip)))) (zr 6 2 c266r6)))
def c266r7 : List Seg := [zo 4 (.mv (zi (-1)))]
def c266 : ACode := .seq (zr 0 1 c266r0) (.seq (.seq (zr 1 3 c266r1) (.block 0 (.loop c266b7))) (.seq (zr 7 1 c266r7) .ret))
theorem k266 : Compiled Tryz.prog 266 19 [.tmp 4] c266 := .mk' [] Tryz.func266 rfl (by kernel_rfl) (by kernel_rfl)
end Go.Proofs.YtdpbobkcbakpfaaGreatDoor

namespace Go.Proofs.YtdpbobkcbakpfaaGreatDoor
open Go Go.Ab
set_option maxRecDepth 1000000
def tabL : List (Nat × Nat × List RV × ACode) := [(12, 56, [(RV.tmp 0)], c12), (14, 61, [(RV.tmp 2), (RV.tmp 3)], c14), (22, 27, [(RV.tmp 4), (RV.tmp 5)], c22), (24, 30, [(RV.tmp 4), (RV.tmp 5)], c24), (40, 5, [(RV.cell 2 6 true)], c40), (43, 44, [(RV.cell 2 2 true), (RV.tmp 3), (RV.tmp 4)], c43), (56, 7, [(RV.cell 0 8 true)], c56), (59, 15, [(RV.tmp 2)], c59), (60, 13, [(RV.tmp 2)], c60), (61, 9, [(RV.tmp 2)], c61), (62, 49, [], c62), (63, 82, [(RV.tmp 4)], c63), (71, 19, [(RV.tmp 4)], c71), (72, 97, [(RV.tmp 6)], c72), (74, 24, [(RV.tmp 2), (RV.tmp 3)], c74), (79, 15, [(RV.tmp 2)], c79), (80, 11, [(RV.tmp 2)], c80), (81, 7, [(RV.tmp 4)], c81), (85, 15, [(RV.tmp 6)], c85), (89, 32, [(RV.cell 4 2 true), (RV.tmp 5), (RV.tmp 6)], c89), (90, 86, [(RV.tmp 4)], c90), (106, 68, [], c106), (107, 67, [(RV.tmp 2)], c107), (108, 62, [(RV.tmp 4)], c108), (109, 24, [(RV.cell 4 2 true)], c109), (118, 15, [(RV.tmp 2)], c118), (119, 35, [(RV.tmp 4)], c119), (124, 9, [(RV.tmp 4)], c124), (125, 9, [(RV.tmp 4)], c125), (144, 35, [(RV.tmp 4)], c144), (145, 29, [], c145), (146, 80, [(RV.tmp 2)], c146), (147, 165, [(RV.tmp 2)], c147), (149, 25, [(RV.tmp 2)], c149), (157, 19, [(RV.tmp 4)], c157), (170, 15, [(RV.tmp 6)], c170), (171, 7, [(RV.tmp 4)], c171), (172, 9, [(RV.tmp 2)], c172), (173, 9, [(RV.tmp 4)], c173), (177, 9, [(RV.tmp 2)], c177), (178, 10, [(RV.tmp 2)], c178), (179, 15, [(RV.tmp 2)], c179), (180, 67, [(RV.tmp 2)], c180), (181, 34, [(RV.tmp 2)], c181), (182, 28, [(RV.tmp 2)], c182), (184, 5, [(RV.tmp 2)], c184), (186, 173, [(RV.tmp 2)], c186), (212, 9, [(RV.tmp 2)], c212), (213, 19, [(RV.tmp 4)], c213), (215, 9, [(RV.tmp 4)], c215), (222, 31, [(RV.cell 2 5 true)], c222), (223, 51, [(RV.tmp 2)], c223), (224, 55, [(RV.tmp 2)], c224), (227, 9, [(RV.tmp 4)], c227), (254, 19, [(RV.tmp 4)], c254), (266, 19, [(RV.tmp 4)], c266)]
def findT (f : Nat) : List (Nat × Nat × List RV × ACode) → Option (Nat × List RV × ACode)
  | [] => none
  | (k, e) :: r => bif Nat.beq k f then some e else findT f r
def tab : Tab := fun f => findT f tabL
theorem findT_ok : ∀ l : List (Nat × Nat × List RV × ACode), (∀ e ∈ l, Compiled Tryz.prog e.1 e.2.1 e.2.2.1 e.2.2.2) → ∀ f n rs ac, findT f l = some (n, rs, ac) → Compiled Tryz.prog f n rs ac
  | [], _, f, n, rs, ac, h => by simp [findT] at h
  | (k, e) :: r, hl, f, n, rs, ac, h => by
    simp only [findT] at h
    cases hb : Nat.beq k f with
    | true =>
      rw [hb] at h
      simp only [cond_true, Option.some.injEq] at h
      subst h
      have := Nat.eq_of_beq_eq_true hb
      subst this
      exact hl _ (List.mem_cons_self ..)
    | false =>
      rw [hb] at h
      exact findT_ok r (fun e he => hl e (List.mem_cons_of_mem _ he)) f n rs ac h
theorem tab_ok : Tab.Ok Tryz.prog tab := fun f n rs ac h => findT_ok tabL (fun e he => by
  simp only [tabL, List.mem_cons, List.not_mem_nil, or_false] at he
  rcases he with rfl | rfl | rfl | rfl | rfl | rfl | rfl | rfl | rfl | rfl | rfl | rfl | rfl | rfl | rfl | rfl | rfl | rfl | rfl | rfl | rfl | rfl | rfl | rfl | rfl | rfl | rfl | rfl | rfl | rfl | rfl | rfl | rfl | rfl | rfl | rfl | rfl | rfl | rfl | rfl | rfl | rfl | rfl | rfl | rfl | rfl | rfl | rfl | rfl | rfl | rfl | rfl | rfl | rfl | rfl | rfl
  · exact k12
  · exact k14
  · exact k22
  · exact k24
  · exact k40
  · exact k43
  · exact k56
  · exact k59
  · exact k60
  · exact k61
  · exact k62
  · exact k63
  · exact k71
  · exact k72
  · exact k74
  · exact k79
  · exact k80
  · exact k81
  · exact k85
  · exact k89
  · exact k90
  · exact k106
  · exact k107
  · exact k108
  · exact k109
  · exact k118
  · exact k119
  · exact k124
  · exact k125
  · exact k144
  · exact k145
  · exact k146
  · exact k147
  · exact k149
  · exact k157
  · exact k170
  · exact k171
  · exact k172
  · exact k173
  · exact k177
  · exact k178
  · exact k179
  · exact k180
  · exact k181
  · exact k182
  · exact k184
  · exact k186
  · exact k212
  · exact k213
  · exact k215
  · exact k222
  · exact k223
  · exact k224
  · exact k227
  · exact k254
  · exact k266) f n rs ac h
theorem awakeE : resE (exec Tryz.prog tab orcT 1000) tab orcT 12 [] = some (.one (.t (.bool true))) := by kernel_rfl
theorem awakeP : PSp Tryz.prog 12 [] (.one (.t (.bool true))) := resE_sound tab_ok orcT_ok (exec_sound tab_ok orcT_ok 1000) rfl awakeE
end Go.Proofs.YtdpbobkcbakpfaaGreatDoor

namespace Go.Proofs.YtdpbobkcbakpfaaGreatDoor
open Go Go.Ab
set_option maxRecDepth 100000
inductive Vl where
  | mk (kind n e : Int) (s : ByteArray) (names : List ByteArray) (items : List Vl)
structure Tg where
  cls : Int
  num : Int
  way : Int
mutual
inductive Ty where
  | mk (kind : Int) (name : ByteArray) (tags : List Tg) (fields : List Fd) (opn : Bool) (root : Int) (of : List Ty) (limits : List Nd)
inductive Fd where
  | mk (name : ByteArray) (num : Int) (ty : Ty) (pres : Int) (dflt : List Vl) (grp : Int)
end
def textsT (l : List ByteArray) : T := .rows 1 (l.map fun s => [.str s])
def Tg.row (g : Tg) : List T := [I g.cls, I g.num, I g.way]
mutual
def Vl.row : Vl → List T
  | .mk k n e s ns is => [I k, I n, I e, .str s, textsT ns, .rows 6 (rowsV is)]
def rowsV : List Vl → List (List T)
  | [] => []
  | v :: r => v.row :: rowsV r
end
mutual
def Ty.row : Ty → List T
  | .mk k nm tg fs o r of l => [I k, .str nm, .rows 3 (tg.map Tg.row), .rows 13 (rowsF fs), .bool o, I r, .rows 8 (rowsY of), nodesT l]
def Fd.row : Fd → List T
  | .mk nm n t p d g => [.str nm, I n] ++ t.row ++ [I p, .rows 6 (rowsV d), I g]
def rowsF : List Fd → List (List T)
  | [] => []
  | f :: r => f.row :: rowsF r
def rowsY : List Ty → List (List T)
  | [] => []
  | t :: r => t.row :: rowsY r
end
theorem rowsV_map : ∀ l : List Vl, rowsV l = l.map Vl.row
  | [] => by simp [rowsV]
  | v :: r => by simp [rowsV, rowsV_map r]
theorem rowsF_map : ∀ l : List Fd, rowsF l = l.map Fd.row
  | [] => by simp [rowsF]
  | v :: r => by simp [rowsF, rowsF_map r]
theorem rowsY_map : ∀ l : List Ty, rowsY l = l.map Ty.row
  | [] => by simp [rowsY]
  | v :: r => by simp [rowsY, rowsY_map r]
def flatA : A → Bool
  | .t _ => true
  | _ => false
def _root_.Go.Ab.D.flatT : D → Bool
  | .one x => flatA x
  | .agg cs => cs.all flatA
  | _ => false
theorem flat_frz (h : Hp) {x : D} (hx : x.flatT = true) : x.frzOk h ∧ x.frz h = x ∧ x.ids h = [] := by
  cases x with
  | one x => cases x <;> simp_all [D.flatT, flatA]
  | agg cs =>
    simp only [D.flatT, List.all_eq_true] at hx
    refine ⟨fun x hxm => ?_, ?_, ?_⟩
    · have := hx x hxm
      cases x <;> simp_all [flatA, frzOk_t]
    · simp only [D.frz, D.agg.injEq]
      refine (List.map_congr_left fun x hxm => ?_).trans (List.map_id _)
      have := hx x hxm
      cases x <;> simp_all [flatA, frz_t]
    · simp only [D.ids]
      refine List.flatMap_eq_nil_iff.2 fun x hxm => ?_
      have := hx x hxm
      cases x <;> simp_all [flatA, ids_t]
  | tup xs => simp [D.flatT] at hx
theorem close_nil (h : Hp) : h.close [] = h := by funext j; simp [Hp.close]
theorem _root_.Go.Ab.callK.tree {P : Program} {f : FuncId} {xs : List D} {h : Hp} {new : Nat} {K : D → Hp → Prop} {r : D} (hs : PSp P f xs r) (hx : xs.all D.flatT = true) (hK : K r h) : callK P false f xs h new K := by
  have hx' := List.all_eq_true.1 hx
  refine callK.pure hs (fun x hm => (flat_frz h (hx' x hm)).1) ((List.map_congr_left fun x hm => (flat_frz h (hx' x hm)).2.1).trans (List.map_id _)) ?_
  have e : xs.flatMap (D.ids h) = [] := List.flatMap_eq_nil_iff.2 fun x hm => (flat_frz h (hx' x hm)).2.2
  rw [e, close_nil]
  split <;> exact hK
theorem _root_.Go.Ab.callK.treeD {P : Program} {f : FuncId} {xs : List D} {h : Hp} {new : Nat} {K : D → Hp → Prop} {r : D} (hs : PSp P f xs r) (hx : xs.all D.flatT = true) (hK : K r h) : callK P true f xs h new K := by
  have hx' := List.all_eq_true.1 hx
  exact callK.draw hs (fun x hm => (flat_frz h (hx' x hm)).1) ((List.map_congr_left fun x hm => (flat_frz h (hx' x hm)).2.1).trans (List.map_id _)) (.inr (List.flatMap_eq_nil_iff.2 fun x hm => (flat_frz h (hx' x hm)).2.2)) hK
theorem beqCases (a b : Int) : a = b ∨ ((a == b) = false ∧ ¬ a = b ∧ ¬ b = a ∧ (b == a) = false) := by
  by_cases h : a = b
  · exact .inl h
  · exact .inr ⟨by simp [h], h, fun e => h e.symm, by simp; exact fun e => h e.symm⟩
theorem leCases (a b : Int) : (a ≤ b ∧ ¬ b < a) ∨ (¬ a ≤ b ∧ b < a) := by omega
theorem ltCases (a b : Int) : (a < b ∧ ¬ b ≤ a) ∨ (¬ a < b ∧ b ≤ a) := by omega
def short {α : Type} (l : List α) : Prop := l.length ≤ 9223372036854775807
mutual
def Vl.fine : Vl → Prop
  | .mk _ _ _ s ns is => s.size ≤ 9223372036854775807 ∧ short ns ∧ (∀ x ∈ ns, x.size ≤ 9223372036854775807) ∧ short is ∧ fineV is
def fineV : List Vl → Prop
  | [] => True
  | v :: r => v.fine ∧ fineV r
end
def Nd.fine (x : Nd) : Prop := x.s.size ≤ 9223372036854775807 ∧ short x.args
mutual
def Ty.fine : Ty → Prop
  | .mk _ nm tg fs _ _ of l => nm.size ≤ 9223372036854775807 ∧ short tg ∧ short fs ∧ fineF fs ∧ short of ∧ fineY of ∧ short l ∧ ∀ x ∈ l, x.fine
def Fd.fine : Fd → Prop
  | .mk nm _ t _ d _ => nm.size ≤ 9223372036854775807 ∧ t.fine ∧ short d ∧ fineV d
def fineF : List Fd → Prop
  | [] => True
  | f :: r => f.fine ∧ fineF r
def fineY : List Ty → Prop
  | [] => True
  | t :: r => t.fine ∧ fineY r
end
end Go.Proofs.YtdpbobkcbakpfaaGreatDoor

