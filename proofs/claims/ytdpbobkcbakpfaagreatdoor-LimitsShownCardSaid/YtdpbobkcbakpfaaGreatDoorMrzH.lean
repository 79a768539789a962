/- Texts of this proof. -/
import Derived.Test.YtdpbobkcbakpfaaGreatDoorProg
import Derived.Sort.AssemblyPlain
import Derived.Sort.LotD5
import Derived.Test.YtdpbobkcbakpfaaGreatDoorMrzG
namespace Go.Proofs.YtdpbobkcbakpfaaGreatDoor
open Go Go.Ab
open Go.Proofs.Tryz
set_option maxRecDepth 100000
set_option maxHeartbeats 4000000
def c161r0:List Seg:=[zX 2 2 0,zX 3 2 1,zM 4 0]
def c161r1:List Seg:=[zf 5 0 2,zl 6 5,zf 7 0 3,zl 8 7,zB 9 .sub 6 8,zv 4 9]
def c161:aB:=zs 0 3 c161r0 (zs 1 6 c161r1 .ret)
theorem k161:Compiled prog 161 10 [.tmp 4] c161:=kMk [] func161
def c160r0:List Seg:=[zv 5 0,zL 6 5,zv 4 6]
def c160r1:List Seg:=[zv 7 0,zv 8 4,zv 9 4,zo 10 (.cT .u64 (.tmp 9)),zq 11 208 [10],zv 12 1,zc 13 207 [.tmp 7,zi 0,.tmp 8,.tmp 11,.tmp 12]]
def c160:aB:=zs 0 3 c160r0 (zr 1 7 c160r1)
theorem k160:Compiled prog 160 14 [] c160:=kMk [] func160
def c207r0:List Seg:=[zW 10 true]
def c207r1:List Seg:=[zW 11 true]
def c207r2:List Seg:=[zv 21 2,zv 22 1,zB 23 .sub 21 22,zv 12 23]
def c207r3:List Seg:=[zv 24 12,zK 25 .leq 24 12]
def c207r4:List Seg:=[zv 26 0,zv 27 1,zv 28 2,zv 29 4,zq 30 244 [26,27,28,29]]
def c207r5:List Seg:=[zv 31 3,zK 32 .eql 31 0]
def c207r6:List Seg:=[zv 33 0,zv 34 1,zv 35 2,zv 36 4,zq 37 245 [33,34,35,36]]
def c207r7:List Seg:=[zv 38 10,zN 39 38]
def c207r8:List Seg:=[zv 40 0,zv 41 1,zv 42 2,zv 43 4,zq 44 246 [40,41,42,43]]
def c207r9:List Seg:=[zv 45 3,zK 46 .sub 45 1,zv 3 46]
def c207r10:List Seg:=[zv 48 0,zv 49 1,zv 50 2,zv 51 4,zq 52 247 [48,49,50,51],zv 47 52,zE 53 0 47,zE 54 1 47,zv 13 53,zv 14 54]
def c207r11:List Seg:=[zv 55 14,zK 56 .eql 55 2]
def c207r12:List Seg:=[zv 57 0,zv 58 1,zv 59 2,zv 60 4,zq 61 248 [57,58,59,60]]
def c207r13:List Seg:=[zv 62 2,zK 63 .sub 62 1,zv 64 13,zv 65 1,zB 66 .sub 64 65,zB 67 .sub 63 66,zv 13 67]
def c207r14:List Seg:=[zM 14 1]
def c207r15:List Seg:=[zv 68 10,zv 69 68,.grp 69 true [zg 70 (zm 11) 69 true],zP 71 69 70,zv 72 71,.grp 72 true [zg 73 (zm 14) 72 true,zg 74 (zU .eql 73 1) 72 true],zP 75 72 74]
def c207r16:List Seg:=[zv 76 0,zv 77 1,zv 78 2,zv 79 4,zq 80 249 [76,77,78,79]]
def c207r17:List Seg:=[zv 81 1,zK 82 .gtr 81 0,zv 83 82,.br 83 true [zg 84 (zm 4) 83 true,zg 85 (zm 0) 83 true,zg 86 (zm 1) 83 true,zg 87 (zU .sub 86 1) 83 true,zg 88 (.ia 2 (.tmp 85) (.tmp 87)) 83 true,zg 89 (zt 2 88) 83 true,zg 90 (zm 0) 83 true,zg 91 (zm 13) 83 true,zg 92 (.ia 2 (.tmp 90) (.tmp 91)) 83 true,zg 93 (zt 2 92) 83 true,.mk (some 94) (.callv (.tmp 84) [.tmp 89,.tmp 93]) (some (83,true)),zg 95 (zU .lss 94 0) 83 true,zg 96 (zV 95) 83 true],zP 97 83 96]
def c207r18:List Seg:=[zv 98 0,zv 99 1,zv 100 2,zv 101 13,zv 102 4,zq 103 250 [98,99,100,101,102],zv 15 103]
def c207r19:List Seg:=[zv 104 15,zv 1 104]
def c207r20:List Seg:=[zv 106 0,zv 107 1,zv 108 2,zv 109 13,zv 110 4,zq 111 251 [106,107,108,109,110],zv 105 111,zE 112 0 105,zE 113 1 105,zv 16 112,zv 17 113]
def c207r21:List Seg:=[zv 114 17,zv 11 114]
def c207r22:List Seg:=[zv 115 16,zv 116 1,zB 117 .sub 115 116,zv 118 2,zv 119 16,zB 120 .sub 118 119,zv 18 117,zv 19 120]
def c207r23:List Seg:=[zv 121 12,zK 122 .quo 121 8,zv 20 122]
def c207r24:List Seg:=[zv 123 18,zv 124 19,zB 125 .lss 123 124]
def c207r25:List Seg:=[zv 126 18,zv 127 20,zB 128 .geq 126 127,zv 10 128]
def c207r26:List Seg:=[zv 129 0,zv 130 1,zv 131 16,zv 132 3,zv 133 4,zq 134 207 [129,130,131,132,133]]
def c207r27:List Seg:=[zv 135 16,zK 136 .add 135 1,zv 1 136]
def c207r28:List Seg:=[zv 137 19,zv 138 20,zB 139 .geq 137 138,zv 10 139]
def c207r29:List Seg:=[zv 140 0,zv 141 16,zK 142 .add 141 1,zv 143 2,zv 144 3,zv 145 4,zq 146 207 [140,142,143,144,145]]
def c207r30:List Seg:=[zv 147 16,zv 2 147]
def c207b31:aB:= .block 1 (zs 2 4 c207r2 (.seq (zs 3 2 c207r3 (zd 25 (zs 4 5 c207r4 .ret) .skip)) (.seq (zs 5 2 c207r5 (zd 32 (zs 6 5 c207r6 .ret) .skip)) (.seq (zs 7 2 c207r7 (zd 39 (zs 8 5 c207r8 (zr 9 3 c207r9)) .skip)) (zs 10 10 c207r10 (.seq (zs 11 2 c207r11 (zd 56 (zs 12 5 c207r12 (zs 13 7 c207r13 (zr 14 1 c207r14))) .skip)) (.seq (zs 15 8 c207r15 (zd 75 (zs 16 5 c207r16 (zd 80 .ret .skip)) .skip)) (.seq (.seq (.region 17 true 17 c207r17) (zd 97 (zs 18 7 c207r18 (zs 19 2 c207r19 (.exit 1))) .skip)) (zs 20 11 c207r20 (zs 21 2 c207r21 (zs 22 8 c207r22 (zs 23 3 c207r23 (zs 24 3 c207r24 (zd 125 (zs 25 4 c207r25 (zs 26 6 c207r26 (zr 27 3 c207r27))) (zs 28 4 c207r28 (zs 29 7 c207r29 (zr 30 2 c207r30)))))))))))))))))
def c207:aB:=zs 0 1 c207r0 (zs 1 1 c207r1 (.block 0 (.loop c207b31)))
theorem k207:Compiled prog 207 148 [] c207:=kMk [] func207
def c244r0:List Seg:=[zv 10 1,zK 11 .add 10 1,zv 8 11]
def c244r1:List Seg:=[zv 12 8,zv 13 2,zB 14 .lss 12 13]
def c244r3:List Seg:=[zv 17 8,zv 9 17]
def c244r4:List Seg:=[zv 18 9,zv 19 1,zB 20 .gtr 18 19,zv 21 20,.br 21 true [zg 22 (zm 3) 21 true,zg 23 (zm 0) 21 true,zg 24 (zm 9) 21 true,zg 25 (.ia 2 (.tmp 23) (.tmp 24)) 21 true,zg 26 (zt 2 25) 21 true,zg 27 (zm 0) 21 true,zg 28 (zm 9) 21 true,zg 29 (zU .sub 28 1) 21 true,zg 30 (.ia 2 (.tmp 27) (.tmp 29)) 21 true,zg 31 (zt 2 30) 21 true,.mk (some 32) (.callv (.tmp 22) [.tmp 26,.tmp 31]) (some (21,true)),zg 33 (zU .lss 32 0) 21 true],zP 34 21 33]
def c244r6:List Seg:=[zv 37 0,zv 38 9,zv 39 0,zv 40 9,zK 41 .sub 40 1,zv 42 0,zv 43 9,zK 44 .sub 43 1,zI 45 2 42 44,zA 46 2 45,zv 47 0,zv 48 9,zI 49 2 47 48,zA 50 2 49,zI 51 2 37 38,zS 2 51 46,zI 52 2 39 41,zS 2 52 50]
def c244r5:List Seg:=[zv 35 9,zK 36 .sub 35 1,zv 9 36]
def c244b6:aB:= .seq (.seq (.region 4 true 17 c244r4) (zd 34 .skip (.exit 2))) (.seq (.block 3 (.region 6 true 18 c244r6)) (zr 5 3 c244r5))
def c244r2:List Seg:=[zv 15 8,zK 16 .add 15 1,zv 8 16]
def c244b8:aB:= .seq (zs 1 3 c244r1 (zd 14 .skip (.exit 0))) (.seq (.block 1 (zs 3 2 c244r3 (.block 2 (.loop c244b6)))) (zr 2 3 c244r2))
def c244:aB:=zs 0 3 c244r0 (.block 0 (.loop c244b8))
theorem k244:Compiled prog 244 53 [] c244:=kMk [] func244
def c245r0:List Seg:=[zv 13 1,zv 8 13]
def c245r1:List Seg:=[zM 9 0]
def c245r2:List Seg:=[zv 14 2,zv 15 1,zB 16 .sub 14 15,zv 10 16]
def c245r3:List Seg:=[zv 17 10,zK 18 .sub 17 1,zK 19 .quo 18 2,zv 11 19]
def c245r4:List Seg:=[zv 20 11,zK 21 .geq 20 0]
def c245r6:List Seg:=[zv 24 0,zv 25 11,zv 26 10,zv 27 8,zv 28 3,zq 29 275 [24,25,26,27,28]]
def c245r5:List Seg:=[zv 22 11,zK 23 .sub 22 1,zv 11 23]
def c245b7:aB:= .seq (zs 4 2 c245r4 (zd 21 .skip (.exit 0))) (.seq (.block 1 (zr 6 6 c245r6)) (zr 5 3 c245r5))
def c245r7:List Seg:=[zv 30 10,zK 31 .sub 30 1,zv 12 31]
def c245r8:List Seg:=[zv 32 12,zK 33 .geq 32 0]
def c245r10:List Seg:=[zv 36 0,zv 37 8,zv 38 0,zv 39 8,zv 40 12,zB 41 .add 39 40,zv 42 0,zv 43 8,zv 44 12,zB 45 .add 43 44,zI 46 2 42 45,zA 47 2 46,zv 48 0,zv 49 8,zI 50 2 48 49,zA 51 2 50,zI 52 2 36 37,zS 2 52 47,zI 53 2 38 41,zS 2 53 51]
def c245r11:List Seg:=[zv 54 0,zv 55 9,zv 56 12,zv 57 8,zv 58 3,zq 59 275 [54,55,56,57,58]]
def c245r9:List Seg:=[zv 34 12,zK 35 .sub 34 1,zv 12 35]
def c245b13:aB:= .seq (zs 8 2 c245r8 (zd 33 .skip (.exit 2))) (.seq (.block 3 (.seq (.region 10 true 20 c245r10) (zr 11 6 c245r11))) (zr 9 3 c245r9))
def c245:aB:=zs 0 2 c245r0 (zs 1 1 c245r1 (zs 2 4 c245r2 (.seq (zs 3 4 c245r3 (.block 0 (.loop c245b7))) (zs 7 3 c245r7 (.block 2 (.loop c245b13))))))
theorem k245:Compiled prog 245 60 [] c245:=kMk [] func245
def c246r0:List Seg:=[zv 13 2,zv 14 1,zB 15 .sub 13 14,zv 8 15]
def c246r1:List Seg:=[zv 16 8,zK 17 .geq 16 8]
def c246r2:List Seg:=[zv 18 8,zo 19 (.cT .u64 (.tmp 18)),zo 9 (.alloc [.t (.int .u64 0)]),zS 1 9 19]
def c246r3:List Seg:=[zv 20 8,zq 21 276 [20],zv 10 21]
def c246r4:List Seg:=[zv 22 1,zv 23 8,zK 24 .quo 23 4,zK 25 .mul 24 2,zB 26 .add 22 25,zK 27 .sub 26 1,zv 11 27]
def c246r5:List Seg:=[zv 28 11,zv 29 1,zv 30 8,zK 31 .quo 30 4,zK 32 .mul 31 2,zB 33 .add 29 32,zK 34 .add 33 1,zB 35 .leq 28 34]
def c246r7:List Seg:=[zq 38 277 [9],zv 39 10,zo 40 (.bin .sub false (.tmp 39) (.con (.one (.t (.int .u64 1))))),zB 41 .and 38 40,zo 42 (.cT .i64 (.tmp 41)),zv 12 42]
def c246r8:List Seg:=[zv 43 12,zv 44 8,zB 45 .geq 43 44]
def c246r9:List Seg:=[zv 46 12,zv 47 8,zB 48 .sub 46 47,zv 12 48]
def c246r10:List Seg:=[zv 49 0,zv 50 11,zv 51 0,zv 52 1,zv 53 12,zB 54 .add 52 53,zv 55 0,zv 56 1,zv 57 12,zB 58 .add 56 57,zI 59 2 55 58,zA 60 2 59,zv 61 0,zv 62 11,zI 63 2 61 62,zA 64 2 63,zI 65 2 49 50,zS 2 65 60,zI 66 2 51 54,zS 2 66 64]
def c246r6:List Seg:=[zv 36 11,zK 37 .add 36 1,zv 11 37]
def c246b11:aB:= .seq (zs 5 8 c246r5 (zd 35 .skip (.exit 0))) (.seq (.block 1 (zs 7 6 c246r7 (.seq (zs 8 3 c246r8 (zd 45 (zr 9 4 c246r9) .skip)) (.region 10 true 20 c246r10)))) (zr 6 3 c246r6))
def c246:aB:=zs 0 4 c246r0 (zs 1 2 c246r1 (zd 17 (zs 2 4 c246r2 (zs 3 3 c246r3 (zs 4 7 c246r4 (.block 0 (.loop c246b11))))) .skip))
theorem k246:Compiled prog 246 67 [] c246:=kMk [] func246
def c247r0:List Seg:=[zM 8 0,zM 9 0]
def c247r1:List Seg:=[zv 15 2,zv 16 1,zB 17 .sub 15 16,zv 10 17]
def c247r2:List Seg:=[zo 11 (.alloc [za])]
def c247r3:List Seg:=[zv 18 1,zv 19 10,zK 20 .quo 19 4,zK 21 .mul 20 1,zB 22 .add 18 21,zv 12 22]
def c247r4:List Seg:=[zv 23 1,zv 24 10,zK 25 .quo 24 4,zK 26 .mul 25 2,zB 27 .add 23 26,zv 13 27]
def c247r5:List Seg:=[zv 28 1,zv 29 10,zK 30 .quo 29 4,zK 31 .mul 30 3,zB 32 .add 28 31,zv 14 32]
def c247r6:List Seg:=[zv 33 10,zK 34 .geq 33 8]
def c247r7:List Seg:=[zv 35 10,zK 36 .geq 35 50]
def c247r8:List Seg:=[zv 37 0,zv 38 12,zv 39 3,zq 40 278 [37,38,11,39],zv 12 40]
def c247r9:List Seg:=[zv 41 0,zv 42 13,zv 43 3,zq 44 278 [41,42,11,43],zv 13 44]
def c247r10:List Seg:=[zv 45 0,zv 46 14,zv 47 3,zq 48 278 [45,46,11,47],zv 14 48]
def c247r11:List Seg:=[zv 49 0,zv 50 12,zv 51 13,zv 52 14,zv 53 3,zq 54 279 [49,50,51,52,11,53],zv 13 54]
def c247r12:List Seg:=[zl 55 11]
def c247r14:List Seg:=[zK 58 .eql 55 0,zv 57 58]
def c247r15:List Seg:=[zv 59 13,zv 8 59,zM 9 1]
def c247r16:List Seg:=[zK 61 .eql 55 12,zv 60 61]
def c247r17:List Seg:=[zv 62 13,zv 8 62,zM 9 2]
def c247r13:List Seg:=[zv 56 13,zv 8 56,zM 9 0]
def c247:aB:=zs 0 2 c247r0 (zs 1 4 c247r1 (zs 2 1 c247r2 (zs 3 6 c247r3 (zs 4 6 c247r4 (zs 5 6 c247r5 (.seq (zs 6 2 c247r6 (zd 34 (.seq (zs 7 2 c247r7 (zd 36 (zs 8 5 c247r8 (zs 9 5 c247r9 (zr 10 5 c247r10))) .skip)) (zr 11 7 c247r11)) .skip)) (zs 12 1 c247r12 (.block 0 (zs 14 2 c247r14 (zd 57 (zs 15 3 c247r15 .ret) (zs 16 2 c247r16 (zd 60 (zs 17 3 c247r17 .ret) (zs 13 3 c247r13 .ret)))))))))))))
theorem k247:Compiled prog 247 63 [.tmp 8,.tmp 9] c247:=kMk [] func247
def c248r0:List Seg:=[zv 10 1,zv 8 10]
def c248r1:List Seg:=[zv 11 2,zK 12 .sub 11 1,zv 9 12]
def c248r2:List Seg:=[zv 13 8,zv 14 9,zB 15 .lss 13 14]
def c248r3:List Seg:=[zv 16 0,zv 17 8,zv 18 0,zv 19 9,zv 20 0,zv 21 9,zI 22 2 20 21,zA 23 2 22,zv 24 0,zv 25 8,zI 26 2 24 25,zA 27 2 26,zI 28 2 16 17,zS 2 28 23,zI 29 2 18 19,zS 2 29 27]
def c248r4:List Seg:=[zv 30 8,zK 31 .add 30 1,zv 8 31]
def c248r5:List Seg:=[zv 32 9,zK 33 .sub 32 1,zv 9 33]
def c248b6:aB:= .seq (zs 2 3 c248r2 (zd 15 .skip (.exit 0))) (.block 1 (.seq (.region 3 true 16 c248r3) (zs 4 3 c248r4 (zr 5 3 c248r5))))
def c248:aB:=zs 0 2 c248r0 (zs 1 3 c248r1 (.block 0 (.loop c248b6)))
theorem k248:Compiled prog 248 34 [] c248:=kMk [] func248
def c249r0:List Seg:=[zW 8 false]
def c249r1:List Seg:=[zv 13 1,zK 14 .add 13 1,zv 9 14]
def c249r2:List Seg:=[zM 10 0]
def c249r3:List Seg:=[zv 15 10,zK 16 .lss 15 5]
def c249r5:List Seg:=[zv 19 9,zv 20 2,zB 21 .lss 19 20,zv 22 21,.br 22 true [zg 23 (zm 3) 22 true,zg 24 (zm 0) 22 true,zg 25 (zm 9) 22 true,zg 26 (.ia 2 (.tmp 24) (.tmp 25)) 22 true,zg 27 (zt 2 26) 22 true,zg 28 (zm 0) 22 true,zg 29 (zm 9) 22 true,zg 30 (zU .sub 29 1) 22 true,zg 31 (.ia 2 (.tmp 28) (.tmp 30)) 22 true,zg 32 (zt 2 31) 22 true,.mk (some 33) (.callv (.tmp 23) [.tmp 27,.tmp 32]) (some (22,true)),zg 34 (zU .lss 33 0) 22 true,zg 35 (zV 34) 22 true],zP 36 22 35]
def c249r6:List Seg:=[zv 37 9,zK 38 .add 37 1,zv 9 38]
def c249b6:aB:= .seq (.seq (.region 5 true 18 c249r5) (zd 36 .skip (.exit 2))) (.block 3 (zr 6 3 c249r6))
def c249r7:List Seg:=[zv 39 9,zv 40 2,zB 41 .eql 39 40]
def c249r8:List Seg:=[zW 8 true]
def c249r9:List Seg:=[zv 42 2,zv 43 1,zB 44 .sub 42 43,zK 45 .lss 44 50]
def c249r10:List Seg:=[zW 8 false]
def c249r11:List Seg:=[zv 46 0,zv 47 9,zv 48 0,zv 49 9,zK 50 .sub 49 1,zv 51 0,zv 52 9,zK 53 .sub 52 1,zI 54 2 51 53,zA 55 2 54,zv 56 0,zv 57 9,zI 58 2 56 57,zA 59 2 58,zI 60 2 46 47,zS 2 60 55,zI 61 2 48 50,zS 2 61 59]
def c249r12:List Seg:=[zv 62 9,zv 63 1,zB 64 .sub 62 63,zK 65 .geq 64 2]
def c249r13:List Seg:=[zv 66 9,zK 67 .sub 66 1,zv 11 67]
def c249r14:List Seg:=[zv 68 11,zK 69 .geq 68 1]
def c249r16:List Seg:=[zv 72 3,zv 73 0,zv 74 11,zI 75 2 73 74,zA 76 2 75,zv 77 0,zv 78 11,zK 79 .sub 78 1,zI 80 2 77 79,zA 81 2 80,.one (.mk (some 82) (.callv (.tmp 72) [.tmp 76,.tmp 81]) none),zK 83 .lss 82 0,zN 84 83]
def c249r17:List Seg:=[zv 85 0,zv 86 11,zv 87 0,zv 88 11,zK 89 .sub 88 1,zv 90 0,zv 91 11,zK 92 .sub 91 1,zI 93 2 90 92,zA 94 2 93,zv 95 0,zv 96 11,zI 97 2 95 96,zA 98 2 97,zI 99 2 85 86,zS 2 99 94,zI 100 2 87 89,zS 2 100 98]
def c249r15:List Seg:=[zv 70 11,zK 71 .sub 70 1,zv 11 71]
def c249b18:aB:= .seq (zs 14 2 c249r14 (zd 69 .skip (.exit 4))) (.seq (.block 5 (.seq (.seq (.region 16 true 13 c249r16) (zd 84 (.exit 4) .skip)) (.region 17 true 18 c249r17))) (zr 15 3 c249r15))
def c249r18:List Seg:=[zv 101 2,zv 102 9,zB 103 .sub 101 102,zK 104 .geq 103 2]
def c249r19:List Seg:=[zv 105 9,zK 106 .add 105 1,zv 12 106]
def c249r20:List Seg:=[zv 107 12,zv 108 2,zB 109 .lss 107 108]
def c249r22:List Seg:=[zv 112 3,zv 113 0,zv 114 12,zI 115 2 113 114,zA 116 2 115,zv 117 0,zv 118 12,zK 119 .sub 118 1,zI 120 2 117 119,zA 121 2 120,.one (.mk (some 122) (.callv (.tmp 112) [.tmp 116,.tmp 121]) none),zK 123 .lss 122 0,zN 124 123]
def c249r23:List Seg:=[zv 125 0,zv 126 12,zv 127 0,zv 128 12,zK 129 .sub 128 1,zv 130 0,zv 131 12,zK 132 .sub 131 1,zI 133 2 130 132,zA 134 2 133,zv 135 0,zv 136 12,zI 137 2 135 136,zA 138 2 137,zI 139 2 125 126,zS 2 139 134,zI 140 2 127 129,zS 2 140 138]
def c249r21:List Seg:=[zv 110 12,zK 111 .add 110 1,zv 12 111]
def c249b25:aB:= .seq (zs 20 3 c249r20 (zd 109 .skip (.exit 6))) (.seq (.block 7 (.seq (.seq (.region 22 true 13 c249r22) (zd 124 (.exit 6) .skip)) (.region 23 true 18 c249r23))) (zr 21 3 c249r21))
def c249r4:List Seg:=[zv 17 10,zK 18 .add 17 1,zv 10 18]
def c249b27:aB:= .seq (zs 3 2 c249r3 (zd 16 .skip (.exit 0))) (.seq (.block 1 (.seq (.block 2 (.loop c249b6)) (.seq (zs 7 3 c249r7 (zd 41 (zs 8 1 c249r8 .ret) .skip)) (.seq (zs 9 4 c249r9 (zd 45 (zs 10 1 c249r10 .ret) .skip)) (.seq (.region 11 true 18 c249r11) (.seq (zs 12 4 c249r12 (zd 65 (zs 13 3 c249r13 (.block 4 (.loop c249b18))) .skip)) (zs 18 4 c249r18 (zd 104 (zs 19 3 c249r19 (.block 6 (.loop c249b25))) .skip)))))))) (zr 4 3 c249r4))
def c249r24:List Seg:=[zW 8 false]
def c249:aB:=zs 0 1 c249r0 (zs 1 3 c249r1 (.seq (zs 2 1 c249r2 (.block 0 (.loop c249b27))) (zs 24 1 c249r24 .ret)))
theorem k249:Compiled prog 249 141 [.tmp 8] c249:=kMk [] func249
def c250r0:List Seg:=[zM 10 0]
def c250r1:List Seg:=[zv 13 0,zv 14 1,zv 15 0,zv 16 3,zv 17 0,zv 18 3,zI 19 2 17 18,zA 20 2 19,zv 21 0,zv 22 1,zI 23 2 21 22,zA 24 2 23,zI 25 2 13 14,zS 2 25 20,zI 26 2 15 16,zS 2 26 24]
def c250r2:List Seg:=[zv 27 1,zK 28 .add 27 1,zv 29 2,zK 30 .sub 29 1,zv 11 28,zv 12 30]
def c250r3:List Seg:=[zv 31 11,zv 32 12,zB 33 .leq 31 32,zv 34 33,.br 34 true [zg 35 (zm 4) 34 true,zg 36 (zm 0) 34 true,zg 37 (zm 1) 34 true,zg 38 (.ia 2 (.tmp 36) (.tmp 37)) 34 true,zg 39 (zt 2 38) 34 true,zg 40 (zm 0) 34 true,zg 41 (zm 11) 34 true,zg 42 (.ia 2 (.tmp 40) (.tmp 41)) 34 true,zg 43 (zt 2 42) 34 true,.mk (some 44) (.callv (.tmp 35) [.tmp 39,.tmp 43]) (some (34,true)),zg 45 (zU .lss 44 0) 34 true,zg 46 (zV 45) 34 true],zP 47 34 46]
def c250r4:List Seg:=[zv 48 11,zK 49 .add 48 1,zv 11 49]
def c250b5:aB:= .seq (.seq (.region 3 true 17 c250r3) (zd 47 .skip (.exit 2))) (.block 3 (zr 4 3 c250r4))
def c250r5:List Seg:=[zv 50 11,zv 51 12,zB 52 .leq 50 51,zv 53 52,.br 53 true [zg 54 (zm 4) 53 true,zg 55 (zm 0) 53 true,zg 56 (zm 1) 53 true,zg 57 (.ia 2 (.tmp 55) (.tmp 56)) 53 true,zg 58 (zt 2 57) 53 true,zg 59 (zm 0) 53 true,zg 60 (zm 12) 53 true,zg 61 (.ia 2 (.tmp 59) (.tmp 60)) 53 true,zg 62 (zt 2 61) 53 true,.mk (some 63) (.callv (.tmp 54) [.tmp 58,.tmp 62]) (some (53,true)),zg 64 (zU .lss 63 0) 53 true],zP 65 53 64]
def c250r6:List Seg:=[zv 66 12,zK 67 .sub 66 1,zv 12 67]
def c250b8:aB:= .seq (.seq (.region 5 true 16 c250r5) (zd 65 .skip (.exit 4))) (.block 5 (zr 6 3 c250r6))
def c250r7:List Seg:=[zv 68 11,zv 69 12,zB 70 .gtr 68 69]
def c250r8:List Seg:=[zv 71 0,zv 72 11,zv 73 0,zv 74 12,zv 75 0,zv 76 12,zI 77 2 75 76,zA 78 2 77,zv 79 0,zv 80 11,zI 81 2 79 80,zA 82 2 81,zI 83 2 71 72,zS 2 83 78,zI 84 2 73 74,zS 2 84 82]
def c250r9:List Seg:=[zv 85 11,zK 86 .add 85 1,zv 11 86]
def c250r10:List Seg:=[zv 87 12,zK 88 .sub 87 1,zv 12 88]
def c250b13:aB:= .block 1 (.seq (.block 2 (.loop c250b5)) (.seq (.block 4 (.loop c250b8)) (.seq (zs 7 3 c250r7 (zd 70 (.exit 0) .skip)) (.seq (.region 8 true 16 c250r8) (zs 9 3 c250r9 (zr 10 3 c250r10))))))
def c250r11:List Seg:=[zv 89 11,zv 10 89]
def c250:aB:=zs 0 1 c250r0 (.seq (.region 1 true 16 c250r1) (zs 2 6 c250r2 (.seq (.block 0 (.loop c250b13)) (zs 11 2 c250r11 .ret))))
theorem k250:Compiled prog 250 90 [.tmp 10] c250:=kMk [] func250
def c251r0:List Seg:=[zM 10 0,zW 11 false]
def c251r1:List Seg:=[zv 14 0,zv 15 1,zv 16 0,zv 17 3,zv 18 0,zv 19 3,zI 20 2 18 19,zA 21 2 20,zv 22 0,zv 23 1,zI 24 2 22 23,zA 25 2 24,zI 26 2 14 15,zS 2 26 21,zI 27 2 16 17,zS 2 27 25]
def c251r2:List Seg:=[zv 28 1,zK 29 .add 28 1,zv 30 2,zK 31 .sub 30 1,zv 12 29,zv 13 31]
def c251r3:List Seg:=[zv 32 12,zv 33 13,zB 34 .leq 32 33,zv 35 34,.br 35 true [zg 36 (zm 4) 35 true,zg 37 (zm 0) 35 true,zg 38 (zm 12) 35 true,zg 39 (.ia 2 (.tmp 37) (.tmp 38)) 35 true,zg 40 (zt 2 39) 35 true,zg 41 (zm 0) 35 true,zg 42 (zm 1) 35 true,zg 43 (.ia 2 (.tmp 41) (.tmp 42)) 35 true,zg 44 (zt 2 43) 35 true,.mk (some 45) (.callv (.tmp 36) [.tmp 40,.tmp 44]) (some (35,true)),zg 46 (zU .lss 45 0) 35 true],zP 47 35 46]
def c251r4:List Seg:=[zv 48 12,zK 49 .add 48 1,zv 12 49]
def c251b5:aB:= .seq (.seq (.region 3 true 16 c251r3) (zd 47 .skip (.exit 0))) (.block 1 (zr 4 3 c251r4))
def c251r5:List Seg:=[zv 50 12,zv 51 13,zB 52 .leq 50 51,zv 53 52,.br 53 true [zg 54 (zm 4) 53 true,zg 55 (zm 0) 53 true,zg 56 (zm 13) 53 true,zg 57 (.ia 2 (.tmp 55) (.tmp 56)) 53 true,zg 58 (zt 2 57) 53 true,zg 59 (zm 0) 53 true,zg 60 (zm 1) 53 true,zg 61 (.ia 2 (.tmp 59) (.tmp 60)) 53 true,zg 62 (zt 2 61) 53 true,.mk (some 63) (.callv (.tmp 54) [.tmp 58,.tmp 62]) (some (53,true)),zg 64 (zU .lss 63 0) 53 true,zg 65 (zV 64) 53 true],zP 66 53 65]
def c251r6:List Seg:=[zv 67 13,zK 68 .sub 67 1,zv 13 68]
def c251b8:aB:= .seq (.seq (.region 5 true 17 c251r5) (zd 66 .skip (.exit 2))) (.block 3 (zr 6 3 c251r6))
def c251r7:List Seg:=[zv 69 12,zv 70 13,zB 71 .gtr 69 70]
def c251r8:List Seg:=[zv 72 0,zv 73 13,zv 74 0,zv 75 1,zv 76 0,zv 77 1,zI 78 2 76 77,zA 79 2 78,zv 80 0,zv 81 13,zI 82 2 80 81,zA 83 2 82,zI 84 2 72 73,zS 2 84 79,zI 85 2 74 75,zS 2 85 83]
def c251r9:List Seg:=[zv 86 13,zv 10 86,zW 11 true]
def c251r10:List Seg:=[zv 87 0,zv 88 12,zv 89 0,zv 90 13,zv 91 0,zv 92 13,zI 93 2 91 92,zA 94 2 93,zv 95 0,zv 96 12,zI 97 2 95 96,zA 98 2 97,zI 99 2 87 88,zS 2 99 94,zI 100 2 89 90,zS 2 100 98]
def c251r11:List Seg:=[zv 101 12,zK 102 .add 101 1,zv 12 102]
def c251r12:List Seg:=[zv 103 13,zK 104 .sub 103 1,zv 13 104]
def c251r13:List Seg:=[zv 105 12,zv 106 13,zB 107 .leq 105 106,zv 108 107,.br 108 true [zg 109 (zm 4) 108 true,zg 110 (zm 0) 108 true,zg 111 (zm 12) 108 true,zg 112 (.ia 2 (.tmp 110) (.tmp 111)) 108 true,zg 113 (zt 2 112) 108 true,zg 114 (zm 0) 108 true,zg 115 (zm 1) 108 true,zg 116 (.ia 2 (.tmp 114) (.tmp 115)) 108 true,zg 117 (zt 2 116) 108 true,.mk (some 118) (.callv (.tmp 109) [.tmp 113,.tmp 117]) (some (108,true)),zg 119 (zU .lss 118 0) 108 true],zP 120 108 119]
def c251r14:List Seg:=[zv 121 12,zK 122 .add 121 1,zv 12 122]
def c251b17:aB:= .seq (.seq (.region 13 true 16 c251r13) (zd 120 .skip (.exit 6))) (.block 7 (zr 14 3 c251r14))
def c251r15:List Seg:=[zv 123 12,zv 124 13,zB 125 .leq 123 124,zv 126 125,.br 126 true [zg 127 (zm 4) 126 true,zg 128 (zm 0) 126 true,zg 129 (zm 13) 126 true,zg 130 (.ia 2 (.tmp 128) (.tmp 129)) 126 true,zg 131 (zt 2 130) 126 true,zg 132 (zm 0) 126 true,zg 133 (zm 1) 126 true,zg 134 (.ia 2 (.tmp 132) (.tmp 133)) 126 true,zg 135 (zt 2 134) 126 true,.mk (some 136) (.callv (.tmp 127) [.tmp 131,.tmp 135]) (some (126,true)),zg 137 (zU .lss 136 0) 126 true,zg 138 (zV 137) 126 true],zP 139 126 138]
def c251r16:List Seg:=[zv 140 13,zK 141 .sub 140 1,zv 13 141]
def c251b20:aB:= .seq (.seq (.region 15 true 17 c251r15) (zd 139 .skip (.exit 8))) (.block 9 (zr 16 3 c251r16))
def c251r17:List Seg:=[zv 142 12,zv 143 13,zB 144 .gtr 142 143]
def c251r18:List Seg:=[zv 145 0,zv 146 12,zv 147 0,zv 148 13,zv 149 0,zv 150 13,zI 151 2 149 150,zA 152 2 151,zv 153 0,zv 154 12,zI 155 2 153 154,zA 156 2 155,zI 157 2 145 146,zS 2 157 152,zI 158 2 147 148,zS 2 158 156]
def c251r19:List Seg:=[zv 159 12,zK 160 .add 159 1,zv 12 160]
def c251r20:List Seg:=[zv 161 13,zK 162 .sub 161 1,zv 13 162]
def c251b25:aB:= .block 5 (.seq (.block 6 (.loop c251b17)) (.seq (.block 8 (.loop c251b20)) (.seq (zs 17 3 c251r17 (zd 144 (.exit 4) .skip)) (.seq (.region 18 true 16 c251r18) (zs 19 3 c251r19 (zr 20 3 c251r20))))))
def c251r21:List Seg:=[zv 163 0,zv 164 13,zv 165 0,zv 166 1,zv 167 0,zv 168 1,zI 169 2 167 168,zA 170 2 169,zv 171 0,zv 172 13,zI 173 2 171 172,zA 174 2 173,zI 175 2 163 164,zS 2 175 170,zI 176 2 165 166,zS 2 176 174]
def c251r22:List Seg:=[zv 177 13,zv 10 177,zW 11 false]
def c251:aB:=zs 0 2 c251r0 (.seq (.region 1 true 16 c251r1) (zs 2 6 c251r2 (.seq (.block 0 (.loop c251b5)) (.seq (.block 2 (.loop c251b8)) (.seq (zs 7 3 c251r7 (zd 71 (.seq (.region 8 true 16 c251r8) (zs 9 3 c251r9 .ret)) .skip)) (.seq (.region 10 true 16 c251r10) (zs 11 3 c251r11 (zs 12 3 c251r12 (.seq (.block 4 (.loop c251b25)) (.seq (.region 21 true 16 c251r21) (zs 22 3 c251r22 .ret)))))))))))
theorem k251:Compiled prog 251 178 [.tmp 10,.tmp 11] c251:=kMk [] func251
def c275r0:List Seg:=[zv 12 1,zv 10 12]
def c275r1:List Seg:=[zv 13 10,zo 14 (.bin .mul false (zi 2) (.tmp 13)),zK 15 .add 14 1,zv 11 15]
def c275r2:List Seg:=[zv 16 11,zv 17 2,zB 18 .geq 16 17]
def c275r3:List Seg:=[zv 19 11,zK 20 .add 19 1,zv 21 2,zB 22 .lss 20 21,zv 23 22,.br 23 true [zg 24 (zm 4) 23 true,zg 25 (zm 0) 23 true,zg 26 (zm 3) 23 true,zg 27 (zm 11) 23 true,zg 28 (zO .add 26 27) 23 true,zg 29 (.ia 2 (.tmp 25) (.tmp 28)) 23 true,zg 30 (zt 2 29) 23 true,zg 31 (zm 0) 23 true,zg 32 (zm 3) 23 true,zg 33 (zm 11) 23 true,zg 34 (zO .add 32 33) 23 true,zg 35 (zU .add 34 1) 23 true,zg 36 (.ia 2 (.tmp 31) (.tmp 35)) 23 true,zg 37 (zt 2 36) 23 true,.mk (some 38) (.callv (.tmp 24) [.tmp 30,.tmp 37]) (some (23,true)),zg 39 (zU .lss 38 0) 23 true],zP 40 23 39]
def c275r4:List Seg:=[zv 41 11,zK 42 .add 41 1,zv 11 42]
def c275r5:List Seg:=[zv 43 4,zv 44 0,zv 45 3,zv 46 10,zB 47 .add 45 46,zI 48 2 44 47,zA 49 2 48,zv 50 0,zv 51 3,zv 52 11,zB 53 .add 51 52,zI 54 2 50 53,zA 55 2 54,.one (.mk (some 56) (.callv (.tmp 43) [.tmp 49,.tmp 55]) none),zK 57 .lss 56 0,zN 58 57]
def c275r6:List Seg:=[zv 59 0,zv 60 3,zv 61 10,zB 62 .add 60 61,zv 63 0,zv 64 3,zv 65 11,zB 66 .add 64 65,zv 67 0,zv 68 3,zv 69 11,zB 70 .add 68 69,zI 71 2 67 70,zA 72 2 71,zv 73 0,zv 74 3,zv 75 10,zB 76 .add 74 75,zI 77 2 73 76,zA 78 2 77,zI 79 2 59 62,zS 2 79 72,zI 80 2 63 66,zS 2 80 78]
def c275r7:List Seg:=[zv 81 11,zv 10 81]
def c275b8:aB:= .block 1 (zs 1 4 c275r1 (.seq (zs 2 3 c275r2 (zd 18 (.exit 0) .skip)) (.seq (.seq (.region 3 true 22 c275r3) (zd 40 (zr 4 3 c275r4) .skip)) (.seq (.seq (.region 5 true 16 c275r5) (zd 58 .ret .skip)) (.seq (.region 6 true 24 c275r6) (zr 7 2 c275r7))))))
def c275:aB:=zs 0 2 c275r0 (.block 0 (.loop c275b8))
theorem k275:Compiled prog 275 82 [] c275:=kMk [] func275
def c278r0:List Seg:=[zM 8 0]
def c278r1:List Seg:=[zv 9 0,zv 10 1,zK 11 .sub 10 1,zv 12 1,zv 13 1,zK 14 .add 13 1,zv 15 2,zv 16 3,zq 17 279 [9,11,12,14,15,16],zv 8 17]
def c278:aB:=zs 0 1 c278r0 (zs 1 10 c278r1 .ret)
theorem k278:Compiled prog 278 18 [.tmp 8] c278:=kMk [] func278
def c279r0:List Seg:=[zM 12 0]
def c279r1:List Seg:=[zv 14 0,zv 15 1,zv 16 2,zv 17 4,zv 18 5,zq 19 291 [14,15,16,17,18],zv 13 19,zE 20 0 13,zE 21 1 13,zv 1 20,zv 2 21]
def c279r2:List Seg:=[zv 23 0,zv 24 2,zv 25 3,zv 26 4,zv 27 5,zq 28 291 [23,24,25,26,27],zv 22 28,zE 29 0 22,zE 30 1 22,zv 2 29,zv 3 30]
def c279r3:List Seg:=[zv 32 0,zv 33 1,zv 34 2,zv 35 4,zv 36 5,zq 37 291 [32,33,34,35,36],zv 31 37,zE 38 0 31,zE 39 1 31,zv 1 38,zv 2 39]
def c279r4:List Seg:=[zv 40 2,zv 12 40]
def c279:aB:=zs 0 1 c279r0 (zs 1 11 c279r1 (zs 2 11 c279r2 (zs 3 11 c279r3 (zs 4 2 c279r4 .ret))))
theorem k279:Compiled prog 279 41 [.tmp 12] c279:=kMk [] func279
def c291r0:List Seg:=[zM 10 0,zM 11 0]
def c291r1:List Seg:=[zv 12 4,zv 13 0,zv 14 2,zI 15 2 13 14,zA 16 2 15,zv 17 0,zv 18 1,zI 19 2 17 18,zA 20 2 19,.one (.mk (some 21) (.callv (.tmp 12) [.tmp 16,.tmp 20]) none),zK 22 .lss 21 0]
def c291r2:List Seg:=[zv 23 3,zC 24 23,zl 25 24,zK 26 .add 25 1,zC 27 23,zS 1 27 26]
def c291r3:List Seg:=[zv 28 2,zv 29 1,zv 10 28,zv 11 29]
def c291r4:List Seg:=[zv 30 1,zv 31 2,zv 10 30,zv 11 31]
def c291:aB:=zs 0 2 c291r0 (.seq (.seq (.region 1 true 11 c291r1) (zd 22 (zs 2 6 c291r2 (zs 3 4 c291r3 .ret)) .skip)) (zs 4 4 c291r4 .ret))
theorem k291:Compiled prog 291 32 [.tmp 10,.tmp 11] c291:=kMk [] func291
def c208r0:List Seg:=[zM 2 0]
def c208r1:List Seg:=[zv 3 0,zo 4 (.cT .u32 (.tmp 3)),zq 5 252 [4],zv 2 5]
def c208r2:List Seg:=[zv 6 0,zq 7 253 [6],zv 2 7]
def c208:aB:=zs 0 1 c208r0 (.seq (.cond (zb false) (zs 1 4 c208r1 .ret) .skip) (zs 2 3 c208r2 .ret))
theorem k208:Compiled prog 208 8 [.tmp 2] c208:=kMk [] func208
def c253r0:List Seg:=[zM 2 0]
def c253r1:List Seg:=[zv 3 0,zo 4 (.bin .geq false (.tmp 3) (.con (.one (.t (.int .u64 4294967296)))))]
def c253r2:List Seg:=[zv 5 0,zo 6 (.bin .shr false (.tmp 5) (.con (.one (.t (.int .u64 32))))),zv 0 6]
def c253r3:List Seg:=[zM 2 32]
def c253r4:List Seg:=[zv 7 0,zo 8 (.bin .geq false (.tmp 7) (.con (.one (.t (.int .u64 65536)))))]
def c253r5:List Seg:=[zv 9 0,zo 10 (.bin .shr false (.tmp 9) (.con (.one (.t (.int .u64 16))))),zv 0 10]
def c253r6:List Seg:=[zv 11 2,zK 12 .add 11 16,zv 2 12]
def c253r7:List Seg:=[zv 13 0,zo 14 (.bin .geq false (.tmp 13) (.con (.one (.t (.int .u64 256)))))]
def c253r8:List Seg:=[zv 15 0,zo 16 (.bin .shr false (.tmp 15) (.con (.one (.t (.int .u64 8))))),zv 0 16]
def c253r9:List Seg:=[zv 17 2,zK 18 .add 17 8,zv 2 18]
def c253r10:List Seg:=[zv 19 2,zv 20 0,zo 21 (.cT .u8 (.tmp 20)),zo 22 (.ixs (.con (.one (.t (.str (bs [0,1,2,2,3,3,3,3,4,4,4,4,4,4,4,4,5,5,5,5,5,5,5,5,5,5,5,5,5,5,5,5,6,6,6,6,6,6,6,6,6,6,6,6,6,6,6,6,6,6,6,6,6,6,6,6,6,6,6,6,6,6,6,6,7,7,7,7,7,7,7,7,7,7,7,7,7,7,7,7,7,7,7,7,7,7,7,7,7,7,7,7,7,7,7,7,7,7,7,7,7,7,7,7,7,7,7,7,7,7,7,7,7,7,7,7,7,7,7,7,7,7,7,7,7,7,7,7,8,8,8,8,8,8,8,8,8,8,8,8,8,8,8,8,8,8,8,8,8,8,8,8,8,8,8,8,8,8,8,8,8,8,8,8,8,8,8,8,8,8,8,8,8,8,8,8,8,8,8,8,8,8,8,8,8,8,8,8,8,8,8,8,8,8,8,8,8,8,8,8,8,8,8,8,8,8,8,8,8,8,8,8,8,8,8,8,8,8,8,8,8,8,8,8,8,8,8,8,8,8,8,8,8,8,8,8,8,8,8,8,8,8,8,8,8,8,8,8,8,8,8,8,8,8,8,8]))))) (.tmp 21)),zo 23 (.cT .i64 (.tmp 22)),zB 24 .add 19 23,zv 2 24]
def c253:aB:=zs 0 1 c253r0 (.seq (zs 1 2 c253r1 (zd 4 (zs 2 3 c253r2 (zr 3 1 c253r3)) .skip)) (.seq (zs 4 2 c253r4 (zd 8 (zs 5 3 c253r5 (zr 6 3 c253r6)) .skip)) (.seq (zs 7 2 c253r7 (zd 14 (zs 8 3 c253r8 (zr 9 3 c253r9)) .skip)) (zs 10 7 c253r10 .ret))))
theorem k253:Compiled prog 253 25 [.tmp 2] c253:=kMk [] func253
def c276r0:List Seg:=[zo 2 (.mv (.con (.one (.t (.int .u64 0)))))]
def c276r1:List Seg:=[zv 3 0,zo 4 (.cT .u64 (.tmp 3)),zq 5 208 [4],zo 6 (.bin .shl false (.con (.one (.t (.int .u64 1)))) (.tmp 5)),zv 2 6]
def c276:aB:=zs 0 1 c276r0 (zs 1 5 c276r1 .ret)
theorem k276:Compiled prog 276 7 [.tmp 2] c276:=kMk [] func276
def c277r0:List Seg:=[zo 2 (.mv (.con (.one (.t (.int .u64 0)))))]
def c277r1:List Seg:=[zv 3 0,zC 4 3,zl 5 4,zv 6 0,zC 7 6,zl 8 7,zo 9 (.bin .shl false (.tmp 8) (.con (.one (.t (.int .u64 13))))),zB 10 .xor 5 9,zC 11 3,zS 1 11 10]
def c277r2:List Seg:=[zv 12 0,zC 13 12,zl 14 13,zv 15 0,zC 16 15,zl 17 16,zo 18 (.bin .shr false (.tmp 17) (.con (.one (.t (.int .u64 7))))),zB 19 .xor 14 18,zC 20 12,zS 1 20 19]
def c277r3:List Seg:=[zv 21 0,zC 22 21,zl 23 22,zv 24 0,zC 25 24,zl 26 25,zo 27 (.bin .shl false (.tmp 26) (.con (.one (.t (.int .u64 17))))),zB 28 .xor 23 27,zC 29 21,zS 1 29 28]
def c277r4:List Seg:=[zv 30 0,zC 31 30,zl 32 31,zv 2 32]
def c277:aB:=zs 0 1 c277r0 (.seq (.region 1 true 10 c277r1) (.seq (.region 2 true 10 c277r2) (.seq (.region 3 true 10 c277r3) (zs 4 4 c277r4 .ret))))
theorem k277:Compiled prog 277 33 [.tmp 2] c277:=kMk [] func277
def cell(x:Sp):List A:=[.t (I x.1),.t (I x.2)]
def ltS(x y:Sp):Bool:=decide (x.1<y.1)
def small(x:Sp):Prop:= -2305843009213693952≤x.1∧x.1≤2305843009213693952
theorem sJ(x y:Sp)(hx:small x)(hy:small y):PSp prog 161 [.agg (cell x),.agg (cell y)] (.one (.t (I (x.1 - y.1)))):=by
 refine k161.aJ (by simp) rfl rfl ?_;have hw:IntKind.i64.wrap (x.1 - y.1)=x.1 - y.1:=wrap_i64 (by have:=hx.1;have:=hy.2;omega) (by have:=hx.2;have:=hy.1;omega);simp[c161,c161r0,c161r1,cell,aC,hw]
structure Data (h:Hp) (id ver:Nat) (d:Array Sp):Prop where
 alive:alive h id ver
 rows:h.rows id=d.toList.map cell
 sz:h.sz id=2
 open_:h.shut id=false
def aR(h:Hp)(id ver:Nat)(d:Array Sp):Hp:=h.set id (.arr ver false 2 (d.toList.map cell))
theorem bD{h:Hp}{id ver:Nat}{d:Array Sp}:Data (aR h id ver d) id ver d:=⟨by simp[aR],by simp[aR],by simp[aR],by simp[aR]⟩
theorem gR{h:Hp}{id ver:Nat}{d e:Array Sp}:aR (aR h id ver d) id ver e=aR h id ver e:=funext fun j=>by
 simp only[aR,Hp.set];split<;>rfl
theorem aF.put{h:Hp}{n id ver:Nat}{d:Array Sp}(ho:aF h n)(hid:id<n):aF (aR h id ver d) n:=by
 refine⟨fun j hj=>?_,fun j o hj=>?_⟩
 ·simp only[aR,Hp.set];rw[if_neg (by omega)];exact ho.above j hj
 ·simp only[aR,Hp.set]at hj;split at hj
  ·simp only[sI9]at hj;subst hj;simp[O.below,cell,A.below]
  ·exact ho.below j o hj
theorem Data.self{h:Hp}{id ver:Nat}{d:Array Sp}(hd:Data h id ver d):aR h id ver d=h:=funext fun j=>by
 simp only[aR,Hp.set];split
 ·rename_i e;subst e;have h1:=hd.alive;have h2:=hd.rows;have h3:=hd.sz;have h4:=hd.open_;unfold Ab.alive at h1;unfold Hp.rows at h2;unfold Hp.sz at h3;unfold Hp.shut at h4;cases hh:h j with
  | none=>rw[hh]at h1;exact h1.elim
  | some o=>cases o with
   | arr v s sz rs=>rw[hh]at h1 h2 h3 h4;simp only at h1 h2 h3 h4;subst h1;subst h2;subst h3;subst h4;rfl
 ·rfl
theorem cN:callable prog 161=true:=by kernel_rfl
theorem cellAt{h:Hp}{id ver:Nat}{d:Array Sp}{j:Nat}(hd:Data h id ver d)(hj:j<d.size):(h.rows id)[j]? =some (cell d[j]!):=by
 rw[hd.rows];simp[hj]
theorem bG(x:Sp):List.take 2 (cell x)=cell x:=rfl
theorem dY(x:Sp):(cell x).length=2:=rfl
theorem aBU{n:Nat}{A:Exit→St→Prop}{ks:List KF}(h:Hp)(id ver a i:Nat)(tight:Bool)(d0:Array Sp)(hi:i<d0.size)(hsz:d0.size≤100000)(hsm:∀ x∈d0,small x)
  (st:St) (hh:st.heap=aR h id ver d0) (h0:st.tmps 0= .one (.ref id ver 0 d0.size 2 tight)) (h1:st.tmps 1= .one (.t (I a))) (h3:st.tmps 3= .one (.fn 161 [])) (h9:st.tmps 9= .one (.t (I i)))
  (K:∀ st':St,st'.heap=aR h id ver (Sort.insInner ltS a i d0)→st'.tmps 0=st.tmps 0→st'.tmps 1=st.tmps 1→st'.tmps 2=st.tmps 2→st'.tmps 3=st.tmps 3→st'.tmps 8=st.tmps 8→cS prog n A ks .normal st'):
  W prog n (.loop c244b6) (kont prog n A (.blk 2::ks)) st:=by
 refine W.dO (fun k st1=>∃ (j:Nat) (d:Array Sp),k=j∧j≤i∧d.size=d0.size∧(∀x∈d,small x)∧st1.heap=aR h id ver d∧Sort.insInner ltS a j d=Sort.insInner ltS a i d0∧st1.tmps 9= .one (.t (I j))∧st1.tmps 0=st.tmps 0∧st1.tmps 1=st.tmps 1∧st1.tmps 2=st.tmps 2∧st1.tmps 3=st.tmps 3∧st1.tmps 8=st.tmps 8) i ⟨i,d0,rfl,Nat.le_refl _,rfl,hsm,hh,rfl,h9,rfl,rfl,rfl,rfl,rfl⟩ ?_;rintro k st1 ⟨j,d,hk,hj,hd,hsm',hh1,hins,e9,e0,e1,e2,e3,e8⟩;have hdat:Data st1.heap id ver d:=by rw[hh1];exact bD
 rcases Nat.lt_or_ge a j with haj | haj
 ·have hj1:j<d.size:=by omega
  have hj2:j - 1<d.size:=by omega
  have c1:(st1.heap.rows id)[j]? =some (cell d[j]):=by rw[cellAt hdat hj1,getElem!_pos d j hj1]
  have c2:(st1.heap.rows id)[j - 1]? =some (cell d[j - 1]):=by rw[cellAt hdat hj2,getElem!_pos d (j - 1) hj2]
  have hw:IntKind.i64.wrap ((j:Int) - 1)=((j - 1:Nat):Int):=by rw[wrap_i64 (by omega) (by omega)];omega
  have g1:∀ hh,(st1.heap.rows id)[j]'hh=cell d[j]:=fun hh=>by rw[gE9 hh]at c1;simpa using c1
  have s1:small d[j]:=hsm' _ (Array.getElem_mem _);have s2:small d[j - 1]:=hsm' _ (Array.getElem_mem _);have hln:(st1.heap.rows id).length=d.size:=by rw[hdat.rows];simp
  have hstep:Sort.insInner ltS a j d=if ltS d[j] d[j - 1] then Sort.insInner ltS a (j - 1) ((d.setIfInBounds j d[j - 1]).setIfInBounds (j - 1) d[j])else d:=by
   rw[←getElem!_pos d j hj1,←getElem!_pos d (j - 1) hj2];obtain⟨m,rfl⟩:∃ m,j=m+1:=⟨j - 1,by omega⟩;rw[Sort.insInner];have:m+1>a:=haj;simp[this,Sort.swp]
  simp[c244b6,c244r4,e9,e0,e1,e3,h0,h1,h3,haj,hdat.alive,hdat.sz,hln,hw,hj1,g1,c2,bG];refine⟨by omega,by omega,by omega,161,[],⟨rfl,rfl⟩,cN,?_⟩;refine aD.draw (sJ d[j] d[j - 1] s1 s2) (by simp[cell]) (by simp[cell]) (by simp) ?_
  by_cases hlt:ltS d[j] d[j - 1]=true
  ·have hlt':d[j].1 - d[j - 1].1<0:=by simp[ltS]at hlt;omega
   simp[hlt'];have hst:=bD (h:=h) (id:=id) (ver:=ver) (d:=d);simp[c244r6,c244r5,e9,e0,e1,e2,e3,h0,h1,h3,hdat.alive,hdat.sz,hdat.open_,hln,hw,hj1,g1,c2,bG,dY];have good:∀ y:Sp,∀x∈cell y,(match x with | Ab.A.undef=>false | x=>true)=true:=fun y x hx=>by simp[cell]at hx;rcases hx with rfl | rfl<;>rfl
   refine⟨by omega,hj2,by omega,good _,by omega,⟨hj2,good _⟩,j - 1,by omega,by omega,(d.setIfInBounds j d[j - 1]).setIfInBounds (j - 1) d[j],by simp[hd],fun x y hxy=>?_,?_,by rw[←hins,hstep,if_pos hlt],rfl,e8⟩
   ·rcases Array.mem_or_eq_of_mem_setIfInBounds hxy with h1 | h1
    ·rcases Array.mem_or_eq_of_mem_setIfInBounds h1 with h2 | h2
     ·exact hsm' _ h2
     ·rw[h2];exact s2
    ·rw[h1];exact s1
   ·have hne:¬ j=j - 1:=by omega
    have e1':(((st1.heap.rows id).set j (cell d[j - 1]++List.drop 2 (cell d[j]))).set (j - 1) (cell d[j]++List.drop 2 (((st1.heap.rows id).set j (cell d[j - 1]++List.drop 2 (cell d[j])))[j - 1]?.getD [])))=((d.setIfInBounds j d[j - 1]).setIfInBounds (j - 1) d[j]).toList.map cell:=by
     rw[List.getElem?_set_ne hne,c2,hdat.rows];simp[List.map_set,show ∀x,List.drop 2 (cell x)=[] from fun _=>rfl]
    rw[e1',hh1];funext q;simp only[aR,Hp.set];split<;>rfl
  ·have hlt':¬ d[j].1 - d[j - 1].1<0:=by simp[ltS]at hlt;omega
   simp[hlt'];exact K _ (by simp[hh1,←hins,hstep,hlt]) (by simp[e0]) (by simp[e1]) (by simp[e2]) (by simp[e3]) (by simp[e8])
 ·have hja:¬ (a:Int)<j:=by omega
  have hend:Sort.insInner ltS a j d=d:=by
   cases j with
   | zero=>rfl
   | succ j=>rw[Sort.insInner];simp;omega
  simp[c244b6,c244r4,e9,e0,e1,e3,h0,h1,h3,hja];exact K _ (by simp[hh1,←hins,hend]) (by simp[e0]) (by simp[e1]) (by simp[e2]) (by simp[e3]) (by simp[e8])
theorem qJ(a:Nat):∀ (j:Nat) (d:Array Sp),(∀x∈d,small x)→j<d.size→(Sort.insInner ltS a j d).size=d.size∧∀x∈Sort.insInner ltS a j d,small x
 | 0,d,h,_=>⟨rfl,h⟩
 | j+1,d,h,hj=>by
  rw[Sort.insInner];split
  ·have hs:(Sort.swp d (j+1) j).size=d.size:=by simp[Sort.swp]
   have hm:∀ x∈Sort.swp d (j+1) j,small x:=by
    intro x hx;have m1:d[j]! ∈d:=by rw[getElem!_pos d j (by omega)];exact Array.getElem_mem _
    have m2:d[j+1]! ∈d:=by rw[getElem!_pos d (j+1) hj];exact Array.getElem_mem _
    rcases Array.mem_or_eq_of_mem_setIfInBounds hx with h1 | h1
    ·rcases Array.mem_or_eq_of_mem_setIfInBounds h1 with h2 | h2
     ·exact h _ h2
     ·rw[h2];exact h _ m1
    ·rw[h1];exact h _ m2
   obtain⟨q1,q2⟩:=qJ a j (Sort.swp d (j+1) j) hm (by rw[hs];omega);exact⟨by rw[q1,hs],q2⟩
  ·exact⟨rfl,h⟩
theorem aFQ(h:Hp)(n0 id ver a b:Nat)(tight:Bool)(d:Array Sp)(hd:Data h id ver d)(ho:aF h n0)(hid:id<n0)(hb:b≤d.size)(hsz:d.size≤100000)(ha:a≤100000)(hsm:∀ x∈d,small x):
  ISp prog 244 h n0 [.one (.ref id ver 0 d.size 2 tight),.one (.t (I a)),.one (.t (I b)),.one (.fn 161 [])] (.tup []) (aR h id ver (Sort.insertionSort ltS d a b)):=by
 refine k244.gJ (by simp) ?_;have hw:IntKind.i64.wrap ((a:Int)+1)=((a+1:Nat):Int):=by rw[wrap_i64 (by omega) (by omega)];omega
 simp[c244,c244r0,hw]
 refine W.dO (fun k st=>∃ (i:Nat) (e:Array Sp),k=b - i∧e.size=d.size∧(∀x∈e,small x)∧st.heap=aR h id ver e∧Sort.insOuter ltS a b i e=Sort.insertionSort ltS d a b∧i≤100001∧
  st.tmps 0= .one (.ref id ver 0 d.size 2 tight)∧st.tmps 1= .one (.t (I a))∧st.tmps 2= .one (.t (I b))∧st.tmps 3= .one (.fn 161 [])∧st.tmps 8= .one (.t (I i))) (b - (a+1)) ⟨a+1,d,rfl,rfl,hsm,hd.self.symm,rfl,by omega,by simp,by simp,by simp,by simp,by simp⟩ ?_
 rintro k st ⟨i,e,hk,he,hse,hh,hout,hi,h0,h1,h2,h3,h8⟩;rcases Nat.lt_or_ge i b with hlt | hge
 ·have hstep:Sort.insOuter ltS a b i e=Sort.insOuter ltS a b (i+1) (Sort.insInner ltS a i e):=by rw[Sort.insOuter,if_pos hlt]
  obtain⟨q1,q2⟩:=qJ a i e hse (by omega);have hw2:IntKind.i64.wrap ((i:Int)+1)=((i+1:Nat):Int):=by rw[wrap_i64 (by omega) (by omega)];omega
  simp[c244b8,c244r1,c244r3,h2,h8,hlt];refine aBU h id ver a i tight e (by omega) (by omega) hse _ hh (by simp[h0,he]) (by simp[h1]) (by simp[h3]) (by simp) fun st' r1 r2 r3 r4 r5 r6=>?_
  simp[h0,h1,h2,h3,h8]at r2 r3 r4 r5 r6;simp[c244r2,r1,r2,r3,r4,r5,r6,hw2];exact⟨b - (i+1),by omega,i+1,rfl,Sort.insInner ltS a i e,by omega,by intro x y hxy;exact q2 _ hxy,rfl,by rw[←hout,hstep],by omega,rfl⟩
 ·have hge':¬ i<b:=by omega
  have hend:Sort.insOuter ltS a b i e=e:=by rw[Sort.insOuter,if_neg hge']
  simp[c244b8,c244r1,h2,h8,hge'];exact eX (.inl rfl) rfl (by rw[hh,←hout,hend]) (aF.put ho hid)
structure Box (h:Hp) (id ver:Nat) (s:Int):Prop where
 alive:alive h id ver
 rows:h.rows id=[[.t (I s)]]
 sz:h.sz id=1
 open_:h.shut id=false
def dZ(h:Hp)(id ver:Nat)(s:Int):Hp:=h.set id (.arr ver false 1 [[.t (I s)]])
theorem aF.dZ{h:Hp}{n id ver:Nat}{s:Int}(ho:aF h n)(hid:id<n):aF (dZ h id ver s) n:=by
 refine⟨fun j hj=>?_,fun j o hj=>?_⟩
 ·simp only[YtdpbobkcbakpfaaGreatDoor.dZ,Hp.set];rw[if_neg (by omega)];exact ho.above j hj
 ·simp only[YtdpbobkcbakpfaaGreatDoor.dZ,Hp.set]at hj;split at hj
  ·simp only[sI9]at hj;subst hj;simp[O.below,A.below]
  ·exact ho.below j o hj
theorem aNG(h:Hp)(n0 id ver sw vs a b s:Nat)(tight:Bool)(d:Array Sp)(hd:Data h id ver d)(hb:Box h sw vs s)(ho:aF h n0)(hsw:sw<n0)(ha':a<d.size)(hb':b<d.size)(hs:s≤100)(hsm:∀ x∈d,small x):
  ISp prog 291 h n0 [.one (.ref id ver 0 d.size 2 tight),.one (.t (I a)),.one (.t (I b)),.one (.ptr ⟨sw,vs,1,0,0⟩),.one (.fn 161 [])]
   (.tup [.one (.t (I (Sort.order2 ltS d a b s).1)),.one (.t (I (Sort.order2 ltS d a b s).2.1))]) (if ltS d[b] d[a] then dZ h sw vs ((s:Int)+1)else h):=by
 refine k291.gJ (by simp) ?_;have c1:(h.rows id)[a]? =some (cell d[a]):=by rw[cellAt hd ha',getElem!_pos d a ha']
 have c2:(h.rows id)[b]? =some (cell d[b]):=by rw[cellAt hd hb',getElem!_pos d b hb']
 have g1:∀ hh,(h.rows id)[a]'hh=cell d[a]:=fun hh=>by rw[gE9 hh]at c1;simpa using c1
 have g2:∀ hh,(h.rows id)[b]'hh=cell d[b]:=fun hh=>by rw[gE9 hh]at c2;simpa using c2
 have hln:(h.rows id).length=d.size:=by rw[hd.rows];simp
 have hw:IntKind.i64.wrap ((s:Int)+1)=(s:Int)+1:=wrap_i64 (by omega) (by omega);have s1:small d[a]:=hsm _ (Array.getElem_mem _);have s2:small d[b]:=hsm _ (Array.getElem_mem _)
 have ho2:Sort.order2 ltS d a b s=if ltS d[b] d[a] then(b,a,s+1)else(a,b,s):=by
  rw[Sort.order2,getElem!_pos d a ha',getElem!_pos d b hb']
 simp[c291,c291r0,c291r1,hd.alive,hd.sz,hln,g1,g2,ha',hb',bG];refine⟨161,[],⟨rfl,rfl⟩,cN,?_⟩;refine aD.draw (sJ d[b] d[a] s2 s1) (by simp[cell]) (by simp[cell]) (by simp) ?_
 by_cases hlt:ltS d[b] d[a]=true
 ·have hlt':d[b].1 - d[a].1<0:=by simp[ltS]at hlt;omega
  simp[hlt',c291r2,c291r3,hb.alive,hb.rows,hb.sz,hb.open_,hw,ho2,hlt];refine⟨.inr rfl,⟨by simp,by simp⟩,by simp,by simp,by simp,fun j hj=>by simp[dZ],(aF.dZ ho hsw).above,(aF.dZ ho hsw).below⟩
 ·have hlt':¬ d[b].1 - d[a].1<0:=by simp[ltS]at hlt;omega
  simp[hlt',c291r4,ho2,hlt];exact⟨.inr rfl,⟨by simp,by simp⟩,by simp,by simp,by simp,fun j hj=>rfl,ho.above,ho.below⟩
theorem aNH{h:Hp}{id ver:Nat}{s:Int}:Box (dZ h id ver s) id ver s:=⟨by simp[dZ],by simp[dZ],by simp[dZ],by simp[dZ]⟩
theorem aI1{h:Hp}{id ver:Nat}{s t:Int}:dZ (dZ h id ver s) id ver t=dZ h id ver t:=funext fun j=>by
 simp only[dZ,Hp.set];split<;>rfl
theorem Data.dZ{h:Hp}{id ver sw vs:Nat}{d:Array Sp}{s:Int}(hd:Data h id ver d)(hne:id≠sw):Data (dZ h sw vs s) id ver d:=
 ⟨by simp[YtdpbobkcbakpfaaGreatDoor.dZ,hne,hd.alive],by simp[YtdpbobkcbakpfaaGreatDoor.dZ,hne,hd.rows],by simp[YtdpbobkcbakpfaaGreatDoor.dZ,hne,hd.sz],by simp[YtdpbobkcbakpfaaGreatDoor.dZ,hne,hd.open_]⟩
theorem aAB{d:Array Sp}{a b s:Nat}:(Sort.order2 ltS d a b s).1=a∧(Sort.order2 ltS d a b s).2.1=b∨(Sort.order2 ltS d a b s).1=b∧(Sort.order2 ltS d a b s).2.1=a:=by
 rw[Sort.order2];split<;>simp
theorem pB{d:Array Sp}{a b s:Nat}:(Sort.order2 ltS d a b s).2.2≤s+1:=by
 rw[Sort.order2];split<;>simp
theorem aBV(h:Hp)(n0 id ver sw vs a b s:Nat)(tight:Bool)(d:Array Sp)(hd:Data h id ver d)(hne:id≠sw)(ho:aF h n0)(hsw:sw<n0)(ha':a<d.size)(hb':b<d.size)(hs:s≤100)(hsm:∀ x∈d,small x):
  ISp prog 291 (dZ h sw vs s) n0 [.one (.ref id ver 0 d.size 2 tight),.one (.t (I a)),.one (.t (I b)),.one (.ptr ⟨sw,vs,1,0,0⟩),.one (.fn 161 [])]
   (.tup [.one (.t (I (Sort.order2 ltS d a b s).1)),.one (.t (I (Sort.order2 ltS d a b s).2.1))]) (dZ h sw vs (Sort.order2 ltS d a b s).2.2):=by
 have:=aNG (dZ h sw vs s) n0 id ver sw vs a b s tight d (hd.dZ hne) aNH (aF.dZ ho hsw) hsw ha' hb' hs hsm
 have e:(if ltS d[b] d[a] then dZ (dZ h sw vs s) sw vs ((s:Int)+1)else dZ h sw vs s)=dZ h sw vs (Sort.order2 ltS d a b s).2.2:=by
  rw[Sort.order2,getElem!_pos d a ha',getElem!_pos d b hb',aI1];split<;>simp
 rw[e]at this;exact this
theorem aGO(h:Hp)(n0 id ver sw vs a b c s:Nat)(tight:Bool)(d:Array Sp)(hd:Data h id ver d)(hne:id≠sw)(ho:aF h n0)(hsw:sw<n0)(ha':a<d.size)(hb':b<d.size)(hc':c<d.size)(hs:s≤50)(hsm:∀ x∈d,small x):
  ISp prog 279 (dZ h sw vs s) n0 [.one (.ref id ver 0 d.size 2 tight),.one (.t (I a)),.one (.t (I b)),.one (.t (I c)),.one (.ptr ⟨sw,vs,1,0,0⟩),.one (.fn 161 [])]
   (.one (.t (I (Sort.median ltS d a b c s).1))) (dZ h sw vs (Sort.median ltS d a b c s).2):=by
 refine k279.gJ (by simp) ?_;simp[c279,c279r0,c279r1];refine aD.imp (aBV h _ id ver sw vs a b s tight d hd hne (aF.more ho (by omega)) (by omega) ha' hb' (by omega) hsm) ?_;have p1:=aAB (d:=d) (a:=a) (b:=b) (s:=s);have q1:=pB (d:=d) (a:=a) (b:=b) (s:=s);simp[Sort.median];generalize Sort.order2 ltS d a b s=r1 at*;obtain⟨x1,y1,s1⟩:=r1;simp at p1 q1;simp[c279r2];refine aD.imp (aBV h _ id ver sw vs y1 c s1 tight d hd hne (aF.more ho (by omega)) (by omega) (by omega) hc' (by omega) hsm) ?_;have p2:=aAB (d:=d) (a:=y1) (b:=c) (s:=s1);have q2:=pB (d:=d) (a:=y1) (b:=c) (s:=s1);generalize Sort.order2 ltS d y1 c s1=r2 at*;obtain⟨x2,y2,s2⟩:=r2;simp at p2 q2;simp[c279r3];refine aD.imp (aBV h _ id ver sw vs x1 x2 s2 tight d hd hne (aF.more ho (by omega)) (by omega) (by omega) (by omega) (by omega) hsm) ?_;simp[c279r4];exact⟨.inr rfl,⟨by simp,by simp⟩,by simp,by simp,by simp,fun j hj=>rfl,(aF.dZ ho hsw).above,(aF.dZ ho hsw).below⟩
theorem uX(h:Hp)(n0 id ver sw vs a s:Nat)(tight:Bool)(d:Array Sp)(hd:Data h id ver d)(hne:id≠sw)(ho:aF h n0)(hsw:sw<n0)(ha:0<a)(ha':a+1<d.size)(hsz:d.size≤100000)(hs:s≤50)(hsm:∀ x∈d,small x):
  ISp prog 278 (dZ h sw vs s) n0 [.one (.ref id ver 0 d.size 2 tight),.one (.t (I a)),.one (.ptr ⟨sw,vs,1,0,0⟩),.one (.fn 161 [])]
   (.one (.t (I (Sort.medianAdjacent ltS d a s).1))) (dZ h sw vs (Sort.medianAdjacent ltS d a s).2):=by
 refine k278.gJ (by simp) ?_;have hw1:IntKind.i64.wrap ((a:Int) - 1)=((a - 1:Nat):Int):=by rw[wrap_i64 (by omega) (by omega)];omega
 have hw2:IntKind.i64.wrap ((a:Int)+1)=((a+1:Nat):Int):=by rw[wrap_i64 (by omega) (by omega)];omega
 simp[c278,c278r0,c278r1,hw1,hw2];refine aD.imp (aGO h _ id ver sw vs (a - 1) a (a+1) s tight d hd hne (aF.more ho (by omega)) (by omega) (by omega) (by omega) ha' hs hsm) ?_;simp[Sort.medianAdjacent];exact⟨.inr rfl,⟨by simp,by simp⟩,by simp,by simp,by simp,fun j hj=>rfl,(aF.dZ ho hsw).above,(aF.dZ ho hsw).below⟩
theorem aAC(x:Sp):List.drop 2 (cell x)=[]:=rfl
theorem bH(y:Sp):∀ x∈cell y,(match x with | Ab.A.undef=>false | _x=>true)=true:=fun x hx=>by simp[cell]at hx;rcases hx with rfl | rfl<;>rfl
theorem swp_size{d:Array Sp}{i j:Nat}:(Sort.swp d i j).size=d.size:=by simp[Sort.swp]
theorem pY{d:Array Sp}{i j:Nat}(hi:i<d.size)(hj:j<d.size)(h:∀ x∈d,small x):∀ x∈Sort.swp d i j,small x:=by
 intro x hx;have m1:d[j]! ∈d:=by rw[getElem!_pos d j hj];exact Array.getElem_mem _
 have m2:d[i]! ∈d:=by rw[getElem!_pos d i hi];exact Array.getElem_mem _
 rcases Array.mem_or_eq_of_mem_setIfInBounds hx with h1 | h1
 ·rcases Array.mem_or_eq_of_mem_setIfInBounds h1 with h2 | h2
  ·exact h _ h2
  ·rw[h2];exact h _ m1
 ·rw[h1];exact h _ m2
theorem tN{h g:Hp}{id ver i j:Nat}{d:Array Sp}(hg:g=aR h id ver d)(hi:i<d.size)(hj:j<d.size)(hne:i≠j):
  ((g.set id (.arr ver false 2 ((g.rows id).set i (cell d[j]++List.drop 2 (cell d[i]))))).set id
   (.arr ver false 2 (((g.rows id).set i (cell d[j]++List.drop 2 (cell d[i]))).set j (cell d[i]++List.drop 2 (((g.rows id).set i (cell d[j]++List.drop 2 (cell d[i])))[j]?.getD [])))))=aR h id ver (Sort.swp d i j):=by
 have hd:Data g id ver d:=by rw[hg];exact bD
 have c:(g.rows id)[j]? =some (cell d[j]):=by rw[cellAt hd hj,getElem!_pos d j hj]
 have e:(((g.rows id).set i (cell d[j]++List.drop 2 (cell d[i]))).set j (cell d[i]++List.drop 2 (((g.rows id).set i (cell d[j]++List.drop 2 (cell d[i])))[j]?.getD [])))=(Sort.swp d i j).toList.map cell:=by
  rw[List.getElem?_set_ne hne,c,hd.rows,Sort.swp,getElem!_pos d i hi,getElem!_pos d j hj];simp[List.map_set,aAC]
 rw[e,hg];funext q;simp only[aR,Hp.set];split<;>rfl
theorem aKI(h:Hp)(n0 id ver a b:Nat)(tight:Bool)(d:Array Sp)(hd:Data h id ver d)(ho:aF h n0)(hid:id<n0)(hab:a<b)(hb:b≤d.size)(hsz:d.size≤100000)(c:D)(_hc:c.closed=true):
  ISp prog 248 h n0 [.one (.ref id ver 0 d.size 2 tight),.one (.t (I a)),.one (.t (I b)),c] (.tup []) (aR h id ver (Sort.reverseRange d a b)):=by
 refine k248.gJ (by simp) ?_;have hw:IntKind.i64.wrap ((b:Int) - 1)=((b - 1:Nat):Int):=by rw[wrap_i64 (by omega) (by omega)];omega
 simp[c248,c248r0,c248r1,hw]
 refine W.dO (fun k st=>∃ (i j:Nat) (e:Array Sp),k=j - i∧e.size=d.size∧st.heap=aR h id ver e∧Sort.reverseLoop i j e=Sort.reverseRange d a b∧i≤100001∧j<d.size∧
  st.tmps 0= .one (.ref id ver 0 d.size 2 tight)∧st.tmps 8= .one (.t (I i))∧st.tmps 9= .one (.t (I j))) (b - 1 - a) ⟨a,b - 1,d,rfl,rfl,hd.self.symm,rfl,by omega,by omega,by simp,by simp,by simp⟩ ?_
 rintro k st ⟨i,j,e,hk,he,hh,hout,hi,hj,h0,h8,h9⟩;have hdat:Data st.heap id ver e:=by rw[hh];exact bD
 rcases Nat.lt_or_ge i j with hlt | hge
 ·have hie:i<e.size:=by omega
  have hje:j<e.size:=by omega
  have hid':i<d.size:=by omega
  have c1:(st.heap.rows id)[i]? =some (cell e[i]):=by rw[cellAt hdat hie,getElem!_pos e i hie]
  have c2:(st.heap.rows id)[j]? =some (cell e[j]):=by rw[cellAt hdat hje,getElem!_pos e j hje]
  have g1:∀ hh,(st.heap.rows id)[i]'hh=cell e[i]:=fun hh=>by rw[gE9 hh]at c1;simpa using c1
  have g2:∀ hh,(st.heap.rows id)[j]'hh=cell e[j]:=fun hh=>by rw[gE9 hh]at c2;simpa using c2
  have hln:(st.heap.rows id).length=e.size:=by rw[hdat.rows];simp
  have hw1:IntKind.i64.wrap ((i:Int)+1)=((i+1:Nat):Int):=by rw[wrap_i64 (by omega) (by omega)];omega
  have hw2:IntKind.i64.wrap ((j:Int) - 1)=((j - 1:Nat):Int):=by rw[wrap_i64 (by omega) (by omega)];omega
  have hstep:Sort.reverseLoop i j e=Sort.reverseLoop (i+1) (j - 1) (Sort.swp e i j):=by rw[Sort.reverseLoop,if_pos hlt]
  simp[c248b6,c248r2,c248r3,c248r4,c248r5,h0,h8,h9,hlt,hdat.alive,hdat.sz,hdat.open_,hln,g1,g2,hie,hje,hid',hj,bG,dY,hw1,hw2];refine⟨bH _,bH _,j - 1 - (i+1),by omega,i+1,j - 1,rfl,Sort.swp e i j,by rw[swp_size];exact he,?_,by rw[←hout,hstep],by omega,by omega,rfl,rfl⟩;have sh:=tN hh hie hje (by omega);simp[hln,hje]at sh;exact sh
 ·have hge':¬ i<j:=by omega
  have hend:Sort.reverseLoop i j e=e:=by rw[Sort.reverseLoop,if_neg hge']
  simp[c248b6,c248r2,h8,h9,hge'];exact eX (.inl rfl) rfl (by rw[hh,←hout,hend]) (aF.put ho hid)
theorem rowAt{g:Hp}{id ver p:Nat}{e:Array Sp}(hd:Data g id ver e)(hp:p<e.size):∀ hh,(g.rows id)[p]'hh=cell e[p]:=fun hh=>by
 have c:=cellAt hd hp;rw[getElem!_pos e p hp,gE9 hh]at c;simpa using c
theorem sink{n:Nat}{A:Exit→St→Prop}{J:St→Prop}{nx1 nx2:Nat}{tm:Nat→D}{h g:Hp}(id ver first r c p0 p:Nat)(tight:Bool)(e:Array Sp)(hg:g=aR h id ver e)(hp0:p0=first+r)(hp:p=first+c)(q0:p0<e.size)(q:p<e.size)(hne:r≠c)(hsz:e.size≤100000)(hse:∀ x∈e,small x)
  (h0:tm 0= .one (.ref id ver 0 e.size 2 tight)) (h3:tm 3= .one (.t (I first))) (h4:tm 4= .one (.fn 161 [])) (h10:tm 10= .one (.t (I r))) (h11:tm 11= .one (.t (I c)))
  (stop:ltS e[p0] e[p]=false→∀st':St,st'.heap=g→A .ret st')
  (go:ltS e[p0] e[p]=true→∀st':St,st'.heap=aR h id ver (Sort.swp e p0 p)→st'.tmps 0=tm 0→st'.tmps 2=tm 2→st'.tmps 3=tm 3→st'.tmps 4=tm 4→st'.tmps 10= .one (.t (I c))→J st'):
  iP prog true nx1 c275r5 (oQ (kont prog n A [.thn (.cond (X.tmp 58) .ret .skip),.thn (.seq (.region 6 true 24 c275r6) (.region 7 false 2 c275r7)),.blk 1,.post J,.blk 0]) nx2) 0 tm g:=by
 have hdat:Data g id ver e:=by rw[hg];exact bD
 have w4:IntKind.i64.wrap ((first:Int)+c)=(p:Int):=aH _ (by omega) (by omega);have w6:IntKind.i64.wrap ((first:Int)+r)=(p0:Int):=aH _ (by omega) (by omega);have hln:(g.rows id).length=e.size:=by rw[hdat.rows];simp
 have g0:=rowAt hdat q0;have g1:=rowAt hdat q;have s1:small e[p0]:=hse _ (Array.getElem_mem _);have s2:small e[p]:=hse _ (Array.getElem_mem _);simp[c275r5,h0,h3,h4,h10,h11,w4,w6,hdat.alive,hdat.sz,hln,g0,g1,q0,q,bG];refine⟨161,[],⟨rfl,rfl⟩,cN,?_⟩;refine aD.draw (sJ e[p0] e[p] s1 s2) (by simp[cell]) (by simp[cell]) (by simp) ?_
 by_cases hlt:ltS e[p0] e[p]=true
 ·have hlt':e[p0].1 - e[p].1<0:=by simp[ltS]at hlt;omega
  simp[hlt'];simp[c275r6,c275r7,h0,h3,h10,h11,w4,w6,hdat.alive,hdat.sz,hdat.open_,hln,g0,g1,q0,q,bG,dY];refine⟨bH _,bH _,go hlt _ ?_ (by simp[h0]) (by simp) (by simp[h3]) (by simp[h4]) (by simp)⟩;have sh:=tN hg q0 q (by omega);simp[hln,q]at sh;exact sh
 ·have hlt':¬ e[p0].1 - e[p].1<0:=by simp[ltS]at hlt;omega
  simp[hlt'];exact stop (by simpa using hlt) _ rfl
theorem aAD(h:Hp)(n0 id ver lo hi first:Nat)(tight:Bool)(d:Array Sp)(hd:Data h id ver d)(ho:aF h n0)(hid:id<n0)(hb:first+hi≤d.size)(hlo:lo≤100000)(hsz:d.size≤100000)(hsm:∀ x∈d,small x):
  ISp prog 275 h n0 [.one (.ref id ver 0 d.size 2 tight),.one (.t (I lo)),.one (.t (I hi)),.one (.t (I first)),.one (.fn 161 [])] (.tup []) (aR h id ver (Sort.siftDown ltS hi first lo d)):=by
 refine k275.gJ (by simp) ?_;simp[c275,c275r0]
 refine W.dO (fun k st=>∃ (r:Nat) (e:Array Sp),k=200001 - r∧r≤100000∧e.size=d.size∧(∀x∈e,small x)∧st.heap=aR h id ver e∧Sort.siftDown ltS hi first r e=Sort.siftDown ltS hi first lo d∧
  st.tmps 0= .one (.ref id ver 0 d.size 2 tight)∧st.tmps 2= .one (.t (I hi))∧st.tmps 3= .one (.t (I first))∧st.tmps 4= .one (.fn 161 [])∧st.tmps 10= .one (.t (I r))) (200001 - lo) ⟨lo,d,rfl,by omega,rfl,hsm,hd.self.symm,rfl,by simp,by simp,by simp,by simp,by simp⟩ ?_
 rintro k st ⟨r,e,hk,hr,he,hse,hh,hout,h0,h2,h3,h4,h10⟩;have hdat:Data st.heap id ver e:=by rw[hh];exact bD
 obtain⟨c,hc0⟩:∃ c:Nat,c=2*r+1:=⟨_,rfl⟩;have w1:IntKind.i64.wrap (2*(r:Int))=2*(r:Int):=wrap_i64 (by omega) (by omega);have w2:IntKind.i64.wrap (2*(r:Int)+1)=(c:Int):=aH _ (by omega) (by omega);simp[c275b8,c275r1,h10,w1,w2]
 have hu:Sort.siftDown ltS hi first r e=if c≥hi then e else if c+1<hi∧ltS e[first+c]! e[first+c+1]! =true then(if ltS e[first+r]! e[first+c+1]! =true then Sort.siftDown ltS hi first (c+1) (Sort.swp e (first+r) (first+c+1))else e)
   else(if ltS e[first+r]! e[first+c]! =true then Sort.siftDown ltS hi first c (Sort.swp e (first+r) (first+c))else e):=by
  rw[Sort.siftDown];subst hc0
  by_cases h1:2*r+1≥hi
  ·simp[h1]
  ·have e2:first+(2*r+2)=first+(2*r+1)+1:=by omega
   by_cases h2:2*r+1+1<hi
   ·have h2':2*r+2<hi:=by omega
    simp[h1,h2,e2];split<;>split<;>simp_all
   ·simp[h1,h2];split<;>simp_all
 rw[hu]at hout
 by_cases hge:c≥hi
 ·rw[if_pos hge]at hout;simp[c275r2,h2,hge];exact eX (.inl rfl) rfl (by rw[hh,hout]) (aF.put ho hid)
 rw[if_neg hge]at hout;simp[c275r2,h2,hge];obtain⟨p0,hp0⟩:∃ p:Nat,p=first+r:=⟨_,rfl⟩;obtain⟨p1,hp1⟩:∃ p:Nat,p=first+c:=⟨_,rfl⟩;have q0:p0<e.size:=by omega
 have q1:p1<e.size:=by omega
 have q1':p1<d.size:=by omega
 have w3:IntKind.i64.wrap ((c:Int)+1)=((c+1:Nat):Int):=aH _ (by omega) (by omega);have w4:IntKind.i64.wrap ((first:Int)+c)=(p1:Int):=aH _ (by omega) (by omega);have hln:(st.heap.rows id).length=e.size:=by rw[hdat.rows];simp
 have g1:=rowAt hdat q1;rw[←hp0,←hp1]at hout;have fin:∀ st':St,Sort.siftDown ltS hi first lo d=e→st'.heap=st.heap→fX [] (.tup []) (aR h id ver (Sort.siftDown ltS hi first lo d)) n0 .ret st':=fun st' h1 h2=>eX (.inr rfl) rfl (by rw[h2,hh,h1]) (aF.put ho hid)
 by_cases hc:c+1<hi
 ·obtain⟨p2,hp2⟩:∃ p:Nat,p=p1+1:=⟨_,rfl⟩;have q2:p2<e.size:=by omega
  have q2':p2<d.size:=by omega
  have g2:=rowAt hdat q2;have hcI:(c:Int)+1<hi:=by omega
  have w5:IntKind.i64.wrap ((p1:Int)+1)=(p2:Int):=aH _ (by omega) (by omega);have s1:small e[p1]:=hse _ (Array.getElem_mem _);have s2:small e[p2]:=hse _ (Array.getElem_mem _);rw[←hp2,getElem!_pos e p0 q0,getElem!_pos e p1 q1,getElem!_pos e p2 q2]at hout;simp[c275r3,h0,h2,h3,h4,hcI,w3,w4,w5,hdat.alive,hdat.sz,hln,g1,g2,q1,q2,q1',q2',bG];refine⟨161,[],⟨rfl,rfl⟩,cN,?_⟩;refine aD.draw (sJ e[p1] e[p2] s1 s2) (by simp[cell]) (by simp[cell]) (by simp) ?_
  by_cases hl:ltS e[p1] e[p2]=true
  ·have hl':e[p1].1 - e[p2].1<0:=by simp[ltS]at hl;omega
   rw[if_pos ⟨hc,hl⟩]at hout;simp[hl',c275r4,w3];refine sink id ver first r (c+1) p0 p2 tight e hh hp0 (by omega) q0 q2 (by omega) (by omega) hse (by simp[h0,he]) (by simp[h3]) (by simp[h4]) (by simp[h10]) (by simp) (fun hf st' e1=>?_) (fun ht st' e1 e2 e3 e4 e5 e6=>?_)
   ·rw[if_neg (by simp[hf])]at hout;exact fin st' hout.symm e1
   ·rw[if_pos ht]at hout;simp[h0,h2,h3,h4]at e2 e3 e4 e5;exact⟨200001 - (c+1),by omega,c+1,rfl,by omega,Sort.swp e p0 p2,by rw[swp_size];exact he,fun x y hxy=>pY q0 q2 hse _ hxy,e1,hout,e2,e3,e4,e5,e6⟩
  ·have hl':¬ e[p1].1 - e[p2].1<0:=by simp[ltS]at hl;omega
   rw[if_neg (by simp[hl])]at hout;simp[hl'];refine sink id ver first r c p0 p1 tight e hh hp0 hp1 q0 q1 (by omega) (by omega) hse (by simp[h0,he]) (by simp[h3]) (by simp[h4]) (by simp[h10]) (by simp) (fun hf st' e1=>?_) (fun ht st' e1 e2 e3 e4 e5 e6=>?_)
   ·rw[if_neg (by simp[hf])]at hout;exact fin st' hout.symm e1
   ·rw[if_pos ht]at hout;simp[h0,h2,h3,h4]at e2 e3 e4 e5;exact⟨200001 - c,by omega,c,rfl,by omega,Sort.swp e p0 p1,by rw[swp_size];exact he,fun x y hxy=>pY q0 q1 hse _ hxy,e1,hout,e2,e3,e4,e5,e6⟩
 ·have hcI:¬ (c:Int)+1<hi:=by omega
  rw[if_neg (by simp[hc]),getElem!_pos e p0 q0,getElem!_pos e p1 q1]at hout;simp[c275r3,h0,h2,h3,h4,hcI,w3];refine sink id ver first r c p0 p1 tight e hh hp0 hp1 q0 q1 (by omega) (by omega) hse (by simp[h0,he]) (by simp[h3]) (by simp[h4]) (by simp[h10]) (by simp) (fun hf st' e1=>?_) (fun ht st' e1 e2 e3 e4 e5 e6=>?_)
  ·rw[if_neg (by simp[hf])]at hout;exact fin st' hout.symm e1
  ·rw[if_pos ht]at hout;simp[h0,h2,h3,h4]at e2 e3 e4 e5;exact⟨200001 - c,by omega,c,rfl,by omega,Sort.swp e p0 p1,by rw[swp_size];exact he,fun x y hxy=>pY q0 q1 hse _ hxy,e1,hout,e2,e3,e4,e5,e6⟩
def Keeps(d e:Array Sp):Prop:=e.size=d.size∧((∀x∈d,small x)→∀x∈e,small x)
theorem Keeps.refl(d:Array Sp):Keeps d d:=⟨rfl,fun h=>h⟩
theorem Keeps.trans{d e f:Array Sp}(h:Keeps d e)(k:Keeps e f):Keeps d f:=⟨k.1.trans h.1,fun q=>k.2 (h.2 q)⟩
theorem Keeps.swp{d:Array Sp}{i j:Nat}(hi:i<d.size)(hj:j<d.size):Keeps d (Sort.swp d i j):=⟨swp_size,pY hi hj⟩
theorem pC(hi first root:Nat)(d:Array Sp):first+hi≤d.size→Keeps d (Sort.siftDown ltS hi first root d):=by
 fun_induction Sort.siftDown ltS hi first root d with
 | case1=>exact fun _=> .refl _
 | case2=>exact fun _=> .refl _
 | case3 root d h1 h2 h3 h4 ih=>exact fun h=>(Keeps.swp (by omega) (by omega)).trans (ih (by rw[swp_size];exact h))
 | case4=>exact fun _=> .refl _
 | case5=>exact fun _=> .refl _
 | case6 root d h1 h2 h3 ih=>exact fun h=>(Keeps.swp (by omega) (by omega)).trans (ih (by rw[swp_size];exact h))
theorem dT{h g:Hp}{id ver i j:Nat}{d:Array Sp}(hg:g=aR h id ver d)(hi:i<d.size)(hj:j<d.size):
  ((g.set id (.arr ver false 2 ((g.rows id).set i (cell d[j]++List.drop 2 (cell d[i]))))).set id
   (.arr ver false 2 (((g.rows id).set i (cell d[j]++List.drop 2 (cell d[i]))).set j (cell d[i]++List.drop 2 (((g.rows id).set i (cell d[j]++List.drop 2 (cell d[i])))[j]?.getD [])))))=aR h id ver (Sort.swp d i j):=by
 by_cases hne:i=j
 ·subst hne;have hd:Data g id ver d:=by rw[hg];exact bD
  have hl:i<(g.rows id).length:=by rw[hd.rows];simpa using hi
  have e:(((g.rows id).set i (cell d[i]++List.drop 2 (cell d[i]))).set i (cell d[i]++List.drop 2 (((g.rows id).set i (cell d[i]++List.drop 2 (cell d[i])))[i]?.getD [])))=(Sort.swp d i i).toList.map cell:=by
   rw[List.getElem?_set_self hl,hd.rows,Sort.swp,getElem!_pos d i hi];simp[List.map_set,aAC]
  rw[e,hg];funext q;simp only[aR,Hp.set];split<;>rfl
 ·exact tN hg hi hj hne
theorem aI2(h:Hp)(n0 id ver a b:Nat)(tight:Bool)(d:Array Sp)(hd:Data h id ver d)(ho:aF h n0)(hid:id<n0)(hab:a<b)(hb:b≤d.size)(hsz:d.size≤100000)(hsm:∀ x∈d,small x):
  ISp prog 245 h n0 [.one (.ref id ver 0 d.size 2 tight),.one (.t (I a)),.one (.t (I b)),.one (.fn 161 [])] (.tup []) (aR h id ver (Sort.heapSort ltS d a b)):=by
 refine k245.gJ (by simp) ?_;obtain⟨hi,hhi⟩:∃ hi:Nat,hi=b - a:=⟨_,rfl⟩;obtain⟨m,hm⟩:∃ m:Nat,m=(hi - 1) / 2:=⟨_,rfl⟩;have w1:IntKind.i64.wrap ((b:Int) - a)=(hi:Int):=aH _ (by omega) (by omega);have w2:IntKind.i64.wrap ((hi:Int) - 1)=((hi - 1:Nat):Int):=aH _ (by omega) (by omega);have w3:IntKind.i64.wrap (((hi - 1:Nat):Int) / 2)=(m:Int):=aH _ (by omega) (by omega);have hsort:Sort.heapSort ltS d a b=Sort.heapPop ltS a hi (Sort.heapBuild ltS hi a (m+1) d):=by rw[Sort.heapSort,←hhi,←hm]
 simp[c245,c245r0,c245r1,c245r2,c245r3,w1,w2,w3]
 refine W.dO (fun k st=>∃ e:Array Sp,k≤m+1∧Keeps d e∧st.heap=aR h id ver e∧Sort.heapBuild ltS hi a k e=Sort.heapBuild ltS hi a (m+1) d∧n0≤st.nx∧
  st.tmps 0= .one (.ref id ver 0 d.size 2 tight)∧st.tmps 3= .one (.fn 161 [])∧st.tmps 8= .one (.t (I a))∧st.tmps 9= .one (.t (I 0))∧st.tmps 10= .one (.t (I hi))∧st.tmps 11= .one (.t (I ((k:Int) - 1)))) (m+1)
  ⟨d,by omega,.refl _,hd.self.symm,rfl,by simp;omega,by simp,by simp,by simp,by simp,by simp,by simp⟩ ?_
 rintro k st ⟨e,hk,he,hh,hout,hnx,h0,h3,h8,h9,h10,h11⟩;have hdat:Data st.heap id ver e:=by rw[hh];exact bD
 have hok:aF st.heap n0:=by rw[hh];exact aF.put ho hid
 cases k with
 | succ k=>
  have wk:IntKind.i64.wrap ((k:Int) - 1)=(k:Int) - 1:=wrap_i64 (by omega) (by omega);simp[c245b7,c245r4,c245r5,c245r6,h0,h3,h8,h10,h11];have hs:=aAD st.heap (st.nx+2+5) id ver k hi a tight e hdat (aF.more hok (by omega)) (by omega) (by rw[he.1];omega) (by omega) (by rw[he.1];exact hsz) (he.2 hsm);rw[he.1]at hs;refine aD.imp hs ?_;simp[h0,h3,h8,h9,h10,h11,wk];refine⟨k,by omega,by omega,Sort.siftDown ltS hi a k e,he.trans (pC hi a k e (by rw[he.1];omega)),by rw[hh,gR],hout,by omega,rfl⟩
 | zero=>
  have hd2:Sort.heapBuild ltS hi a 0 e=e:=rfl;rw[hd2]at hout;rw[←hout]at hsort;simp[c245b7,c245r4,h10,h11,c245r7,w2];have wm:(((hi - 1:Nat):Int))=(hi:Int) - 1:=by omega
  refine W.dO (fun k st=>∃ e':Array Sp,k≤hi∧Keeps d e'∧st.heap=aR h id ver e'∧Sort.heapPop ltS a k e'=Sort.heapPop ltS a hi e∧n0≤st.nx∧
   st.tmps 0= .one (.ref id ver 0 d.size 2 tight)∧st.tmps 3= .one (.fn 161 [])∧st.tmps 8= .one (.t (I a))∧st.tmps 9= .one (.t (I 0))∧st.tmps 12= .one (.t (I ((k:Int) - 1)))) hi
   ⟨e,by omega,he,by simp[hh],rfl,by simp;omega,by simp[h0],by simp[h3],by simp[h8],by simp[h9],by simp[wm]⟩ ?_
  rintro k st1 ⟨e1,hk1,he1,hh1,aKJ,hnx1,h0,h3,h8,h9,h12⟩;have hdat:Data st1.heap id ver e1:=by rw[hh1];exact bD
  have hok:aF st1.heap n0:=by rw[hh1];exact aF.put ho hid
  cases k with
  | succ k=>
   obtain⟨p,hp⟩:∃ p:Nat,p=a+k:=⟨_,rfl⟩;have wk:IntKind.i64.wrap ((k:Int) - 1)=(k:Int) - 1:=wrap_i64 (by omega) (by omega);have wp:IntKind.i64.wrap ((a:Int)+k)=(p:Int):=aH _ (by omega) (by omega);have q:p<e1.size:=by rw[he1.1];omega
   have q':p<d.size:=by omega
   have q0:a<e1.size:=by rw[he1.1];omega
   have q0':a<d.size:=by omega
   have hln:(st1.heap.rows id).length=e1.size:=by rw[hdat.rows];simp
   have g0:=rowAt hdat q0;have g1:=rowAt hdat q;have c1:(st1.heap.rows id)[a]? =some (cell e1[a]):=by rw[cellAt hdat q0,getElem!_pos e1 a q0]
   have c2:(st1.heap.rows id)[p]? =some (cell e1[p]):=by rw[cellAt hdat q,getElem!_pos e1 p q]
   simp[c245b13,c245r8,c245r9,c245r10,c245r11,h0,h3,h8,h9,h12,wp,hdat.alive,hdat.sz,hdat.open_,hln,g0,g1,q,q',q0,q0',bG,dY];refine⟨bH _,bH _,?_⟩
   have hsw:∀ g:Hp,g=aR h id ver (Sort.swp e1 a p)→ISp prog 275 g (st1.nx+2+20+5) [.one (.ref id ver 0 d.size 2 tight),.one (.t (I ((0:Nat):Int))),.one (.t (I k)),.one (.t (I a)),.one (.fn 161 [])] (.tup []) (aR h id ver (Sort.siftDown ltS k a 0 (Sort.swp e1 a p))):=by
    intro g hg;have hkp:=he1.trans (Keeps.swp q0 q);have:=aAD g (st1.nx+2+20+5) id ver 0 k a tight (Sort.swp e1 a p) (by rw[hg];exact bD) (by rw[hg];exact aF.more (aF.put ho hid) (by omega)) (by omega) (by rw[hkp.1];omega) (by omega) (by rw[hkp.1];exact hsz) (hkp.2 hsm);rw[hkp.1,hg,gR]at this;rw[hg];exact this
   have sh:=dT hh1 q0 q;simp[hln,q]at sh;rw[sh];refine aD.imp (hsw _ rfl) ?_;simp[h0,h3,h8,h9,h12,wk];refine⟨k,by omega,by omega,Sort.siftDown ltS k a 0 (Sort.swp e1 a p),(he1.trans (Keeps.swp q0 q)).trans (pC k a 0 _ (by rw[swp_size,he1.1];omega)),rfl,?_,by omega,rfl⟩;rw[←aKJ,hp];rfl
  | zero=>
   have hd3:Sort.heapPop ltS a 0 e1=e1:=rfl;rw[hd3]at aKJ;simp[c245b13,c245r8,h12];exact eX (.inl rfl) rfl (by rw[hh1,hsort,aKJ]) (aF.put ho hid)
def mR:Sort.Hint→Int
 | .unknown=>0
 | .increasing=>1
 | .decreasing=>2
theorem aKK{d:Array Sp}{a b c s:Nat}:(Sort.median ltS d a b c s).2≤s+3:=by
 simp only[Sort.median];have h1:=pB (d:=d) (a:=a) (b:=b) (s:=s);generalize Sort.order2 ltS d a b s=r1 at*;have h2:=pB (d:=d) (a:=r1.2.1) (b:=c) (s:=r1.2.2);generalize Sort.order2 ltS d r1.2.1 c r1.2.2=r2 at*;have h3:=pB (d:=d) (a:=r1.1) (b:=r2.1) (s:=r2.2.2);generalize Sort.order2 ltS d r1.1 r2.1 r2.2.2=r3 at*;omega
theorem aI3{d:Array Sp}{a b c s m:Nat}(ha:a<m)(hb:b<m)(hc:c<m):(Sort.median ltS d a b c s).1<m:=by
 rcases Sort.median_mem ltS d a b c s with h | h | h<;>omega
theorem aAE{h:Hp}{n0 bx p s nx:Nat}{tm:Nat→D}{hint:Sort.Hint}(hbx:n0≤bx)(ho:aF h n0)(h11:tm 11= .one (.ptr ⟨bx,0,1,0,0⟩))(h13:tm 13= .one (.t (I p)))
  (hh:hint=if s=0 then .increasing else if s=12 then .decreasing else .unknown):
  aY prog 63 (fX [.tmp 8,.tmp 9] (.tup [.one (.t (I p)),.one (.t (I (mR hint)))]) h n0) (.seq (.region 12 false 1 c247r12) (.block 0 (.seq (.region 14 false 2 c247r14) (.cond (X.tmp 57) (.seq (.region 15 false 3 c247r15) .ret) (.seq (.region 16 false 2 c247r16) (.cond (X.tmp 60) (.seq (.region 17 false 3 c247r17) .ret) (.seq (.region 13 false 3 c247r13) .ret))))))) [] ⟨tm,dZ h bx 0 s,nx⟩:=by
 have fin:∀ id,id<n0→dZ h bx 0 s id=h id:=fun id hid=>by simp only[dZ,Hp.set];rw[if_neg (by omega)]
 subst hh
 by_cases s0:s=0
 ·subst s0;simp[c247r12,c247r14,c247r15,h11,h13,dZ,mR];exact⟨.inr rfl,⟨by simp,by simp⟩,by simp,by simp,by simp,fin,ho.above,ho.below⟩
 ·have s0':¬ (s:Int)=0:=by omega
  by_cases s12:s=12
  ·subst s12;simp[c247r12,c247r14,c247r16,c247r17,h11,h13,dZ,mR];exact⟨.inr rfl,⟨by simp,by simp⟩,by simp,by simp,by simp,fin,ho.above,ho.below⟩
  ·have aVZ:¬ (s:Int)=12:=by omega
   simp[c247r12,c247r14,c247r16,c247r13,h11,h13,dZ,mR,s0,s12,aVZ];exact⟨.inr rfl,⟨by simp,by simp⟩,by simp,by simp,by simp,fin,ho.above,ho.below⟩
theorem aBW(h:Hp)(n0 id ver a b:Nat)(tight:Bool)(d:Array Sp)(hd:Data h id ver d)(ho:aF h n0)(hid:id<n0)(hab:a+8≤b)(hb:b≤d.size)(hsz:d.size≤100000)(hsm:∀ x∈d,small x):
  ISp prog 247 h n0 [.one (.ref id ver 0 d.size 2 tight),.one (.t (I a)),.one (.t (I b)),.one (.fn 161 [])] (.tup [.one (.t (I (Sort.choosePivot ltS d a b).1)),.one (.t (I (mR (Sort.choosePivot ltS d a b).2)))]) h:=by
 refine k247.gJ (by simp) ?_;obtain⟨l,hl⟩:∃ l:Nat,l=b - a:=⟨_,rfl⟩;obtain⟨q,hq⟩:∃ q:Nat,q=l / 4:=⟨_,rfl⟩;obtain⟨i,hi⟩:∃ i:Nat,i=a+q:=⟨_,rfl⟩;obtain⟨j,hj⟩:∃ j:Nat,j=a+q*2:=⟨_,rfl⟩;obtain⟨k,hk⟩:∃ k:Nat,k=a+q*3:=⟨_,rfl⟩;have w1:IntKind.i64.wrap ((b:Int) - a)=(l:Int):=aH _ (by omega) (by omega);have w2:IntKind.i64.wrap ((l:Int) / 4)=(q:Int):=aH _ (by omega) (by omega);have w3:IntKind.i64.wrap (q:Int)=(q:Int):=aH _ rfl (by omega);have w4:IntKind.i64.wrap ((q:Int)*2)=((q*2:Nat):Int):=aH _ (by omega) (by omega);have w5:IntKind.i64.wrap ((q:Int)*3)=((q*3:Nat):Int):=aH _ (by omega) (by omega);have w6:IntKind.i64.wrap ((a:Int)+q)=(i:Int):=aH _ (by omega) (by omega);have w7:IntKind.i64.wrap ((a:Int)+q*2)=(j:Int):=aH _ (by omega) (by omega);have w8:IntKind.i64.wrap ((a:Int)+q*3)=(k:Int):=aH _ (by omega) (by omega);have hl8:8≤(l:Int):=by omega
 have hcp:Sort.choosePivot ltS d a b=(let r:=if l≥50 then(let ri:=Sort.medianAdjacent ltS d i 0;let rj:=Sort.medianAdjacent ltS d j ri.2;let rk:=Sort.medianAdjacent ltS d k rj.2;Sort.median ltS d ri.1 rj.1 rk.1 rk.2)else Sort.median ltS d i j k 0;
   (r.1,if r.2=0 then .increasing else if r.2=12 then .decreasing else .unknown)):=by
  rw[Sort.choosePivot,←hl,←hq,hi,hj,hk,if_pos (by omega:l≥8),Nat.mul_one]
 simp[c247,c247r0,c247r1,c247r2,c247r3,c247r4,c247r5,c247r6,c247r7,w1,w2,w3,w4,w5,w6,w7,w8,hl8];have hok:∀ m,n0≤m→aF h m:=fun m hm=>aF.more ho hm
 have mA:∀ (m x s:Nat),n0+6<m→0<x→x+1<b→s≤9→∃p t:Nat,Sort.medianAdjacent ltS d x s=(p,t)∧p<d.size∧t≤s+3∧
   ISp prog 278 (dZ h (n0+6) 0 s) m [.one (.ref id ver 0 d.size 2 tight),.one (.t (I x)),.one (.ptr ⟨n0+6,0,1,0,0⟩),.one (.fn 161 [])] (.one (.t (I p))) (dZ h (n0+6) 0 t):=by
  intro m x s hm hx hx' hs;have c:=uX h m id ver (n0+6) 0 x s tight d hd (by omega) (hok _ (by omega)) hm hx (by omega) hsz (by omega) hsm;have s1:=aKK (d:=d) (a:=x - 1) (b:=x) (c:=x+1) (s:=s);have p1:=aI3 (d:=d) (a:=x - 1) (b:=x) (c:=x+1) (s:=s) (m:=d.size) (by omega) (by omega) (by omega);exact⟨_,_,rfl,p1,s1,c⟩
 have mM:∀ (m x y z s:Nat),n0+6<m→x<d.size→y<d.size→z<d.size→s≤9→∃p t:Nat,Sort.median ltS d x y z s=(p,t)∧
   ISp prog 279 (dZ h (n0+6) 0 s) m [.one (.ref id ver 0 d.size 2 tight),.one (.t (I x)),.one (.t (I y)),.one (.t (I z)),.one (.ptr ⟨n0+6,0,1,0,0⟩),.one (.fn 161 [])] (.one (.t (I p))) (dZ h (n0+6) 0 t):=by
  intro m x y z s hm hx hy hz hs;exact⟨_,_,rfl,aGO h m id ver (n0+6) 0 x y z s tight d hd (by omega) (hok _ (by omega)) hm hx hy hz (by omega) hsm⟩
 constructor
 ·intro h50;have aPR:l≥50:=by omega
  rw[if_pos aPR]at hcp;obtain⟨p1,s1,e1,b1,t1,c1⟩:=mA (n0+2+4+1+6+6+6+2+2+3) i 0 (by omega) (by omega) (by omega) (by omega);obtain⟨p2,s2,e2,b2,t2,c2⟩:=mA (n0+2+4+1+6+6+6+2+2+5+3) j s1 (by omega) (by omega) (by omega) (by omega);obtain⟨p3,s3,e3,b3,t3,c3⟩:=mA (n0+2+4+1+6+6+6+2+2+5+5+3) k s2 (by omega) (by omega) (by omega) (by omega);obtain⟨p4,s4,e4,c4⟩:=mM (n0+2+4+1+6+6+6+2+2+5+5+5+5) p1 p2 p3 s3 (by omega) b1 b2 b3 (by omega);simp only[e1,e2,e3,e4]at hcp;simp[c247r8];refine aD.imp c1 ?_;simp[c247r9];refine aD.imp c2 ?_;simp[c247r10];refine aD.imp c3 ?_;simp[c247r11];refine aD.imp c4 ?_;rw[hcp];simp only[vU];exact aAE (by omega) ho (by first | rfl | (simp;rfl)) (by first | rfl | (simp;rfl)) rfl
 ·intro h50;have aPR:¬ l≥50:=by omega
  rw[if_neg aPR]at hcp;obtain⟨p4,s4,e4,c4⟩:=mM (n0+2+4+1+6+6+6+2+2+5) i j k 0 (by omega) (by omega) (by omega) (by omega) (by omega);simp only[e4]at hcp;simp[c247r11];refine aD.imp c4 ?_;rw[hcp];simp only[vU];exact aAE (by omega) ho (by first | rfl | (simp;rfl)) (by first | rfl | (simp;rfl)) rfl
theorem wrap_u64{n:Int}:IntKind.u64.wrap n=n % 18446744073709551616:=by simp[IntKind.wrap,IntKind.signed,IntKind.bits]
theorem iK{n:Int}(h:0≤n)(h2:n<18446744073709551616):IntKind.u64.wrap n=n:=by rw[wrap_u64];omega
theorem wrap_u8{n:Int}(h:0≤n)(h2:n<256):IntKind.u8.wrap n=n:=by simp[IntKind.wrap,IntKind.signed,IntKind.bits];omega
def aFR:List Nat:=[0,1,2,2,3,3,3,3,4,4,4,4,4,4,4,4]++List.replicate 16 5++List.replicate 32 6++List.replicate 64 7++List.replicate 128 8
theorem uS(n k:Nat)(h:2 ^ k≤n):Sort.bitsLen n=k+Sort.bitsLen (n / 2 ^ k):=by
 apply Nat.le_antisymm
 ·rw[Sort.bitsLen_le_iff];have:=Sort.lt_two_pow_bitsLen (n / 2 ^ k);rw[Nat.pow_add,Nat.mul_comm];exact(Nat.div_lt_iff_lt_mul (Nat.two_pow_pos k)).1 this
 ·have h1:=Sort.lt_two_pow_bitsLen n
  have hk:k<Sort.bitsLen n:=by
   rcases Nat.lt_or_ge k (Sort.bitsLen n)with q | q
   ·exact q
   ·have:=Nat.pow_le_pow_right (show 0<2 by omega) q;omega
  have:Sort.bitsLen (n / 2 ^ k)≤Sort.bitsLen n - k:=by
   rw[Sort.bitsLen_le_iff,Nat.div_lt_iff_lt_mul (Nat.two_pow_pos k),←Nat.pow_add];have:Sort.bitsLen n - k+k=Sort.bitsLen n:=by omega
   rw[this];exact h1
  omega
theorem aI4:∀ n,n<256→((bs aFR).data.toList.getD n 0).toNat=Sort.bitsLen n:=by
 have h:(List.range 256).all (fun n=>((bs aFR).data.toList.getD n 0).toNat==Sort.bitsLen n)=true:=by decide+kernel
 intro n hn;have:=List.all_eq_true.1 h n (List.mem_range.2 hn);simpa using this
def aNI:ByteArray:=bs aFR
theorem aNJ(n:Nat)(h:n<256):(aNI.data.toList.getD n 0).toNat=Sort.bitsLen n:=aI4 n h
theorem aNK:aNI.size=256:=by decide+kernel
theorem c253r10_eq:c253r10=[(Seg.one (aV.mk (some 19) (dG.op (AOp.mv (X.tmp 2))) none)),(Seg.one (aV.mk (some 20) (dG.op (AOp.mv (X.tmp 0))) none)),(Seg.one (aV.mk (some 21) (dG.op (AOp.cT .u8 (X.tmp 20))) none)),(Seg.one (aV.mk (some 22) (dG.op (AOp.ixs (X.con (D.one (A.t (T.str aNI)))) (X.tmp 21))) none)),(Seg.one (aV.mk (some 23) (dG.op (AOp.cT .i64 (X.tmp 22))) none)),(Seg.one (aV.mk (some 24) (dG.op (AOp.bin .add false (X.tmp 19) (X.tmp 23))) none)),(Seg.one (aV.mk (some 2) (dG.op (AOp.mv (X.tmp 24))) none))]:=rfl
theorem aBX{n0 v s nx:Nat}{tm:Nat→D}(h0:tm 0= .one (.t (.int .u64 v)))(h2:tm 2= .one (.t (I s)))(hv:v<256)(hs:s≤100)(he:n0=s+Sort.bitsLen v):
  aY prog 25 (aC [.tmp 2] (.one (.t (I n0)))) (.seq (.region 10 false 7 c253r10) .ret) [] ⟨tm,jA,nx⟩:=by
 have e1:IntKind.u8.wrap (v:Int)=v:=wrap_u8 (by omega) (by omega);have hb:Sort.bitsLen v≤8:=(Sort.bitsLen_le_iff v 8).2 (by omega);have e2:IntKind.i64.wrap (Sort.bitsLen v:Int)=Sort.bitsLen v:=wrap_i64 (by omega) (by omega);have e3:IntKind.i64.wrap ((s:Int)+Sort.bitsLen v)=(n0:Int):=aH _ (by omega) (by omega);have e4:=aNJ v hv;have hv':(v:Int)<256:=by omega
 simp[List.getD_eq_getElem?_getD]at e4;have g4:∀ hh,(aNI.data[v]'hh).toNat=Sort.bitsLen v:=fun hh=>by rw[Array.getElem?_eq_getElem hh]at e4;simpa using e4
 simp[c253r10_eq,h0,h2,D.cT,D.ixs,D.mD,e1,aNK,e2,e3,g4,hv,hv',aC]
theorem aFS(n:Nat)(hn:n≤100000):PSp prog 253 [.one (.t (.int .u64 n))] (.one (.t (I (Sort.bitsLen n)))):=by
 refine k253.aJ (by simp) rfl rfl ?_;have b0:¬ (4294967296:Int)≤n:=by omega
 by_cases h1:65536≤n
 ·have h1':(65536:Int)≤n:=by omega
  obtain⟨q,hq⟩:∃ q:Nat,q=n / 65536:=⟨_,rfl⟩
  have e1:(n:Int).fdiv (2 ^ min 16 IntKind.u64.bits)=(q:Int):=by
   show(n:Int).fdiv 65536=q;rw[Int.fdiv_eq_ediv_of_nonneg _ (by omega)];omega
  have q1:¬ (256:Int)≤q:=by omega
  have:=uS n 16 (by omega);have w16:IntKind.i64.wrap 16=16:=wrap_i64 (by omega) (by omega);simp[c253,c253r0,c253r1,c253r4,c253r5,c253r6,c253r7,b0,h1',e1,q1,w16];exact aBX (v:=q) (s:=16) rfl rfl (by omega) (by omega) (by rw[this,hq])
 ·have h1':¬ (65536:Int)≤n:=by omega
  by_cases h2:256≤n
  ·have h2':(256:Int)≤n:=by omega
   obtain⟨q,hq⟩:∃ q:Nat,q=n / 256:=⟨_,rfl⟩
   have e1:(n:Int).fdiv (2 ^ min 8 IntKind.u64.bits)=(q:Int):=by
    show(n:Int).fdiv 256=q;rw[Int.fdiv_eq_ediv_of_nonneg _ (by omega)];omega
   have:=uS n 8 (by omega);have w8:IntKind.i64.wrap 8=8:=wrap_i64 (by omega) (by omega);simp[c253,c253r0,c253r1,c253r4,c253r7,c253r8,c253r9,b0,h1',h2',e1,w8];exact aBX (v:=q) (s:=8) rfl rfl (by omega) (by omega) (by rw[this,hq])
  ·have h2':¬ (256:Int)≤n:=by omega
   simp[c253,c253r0,c253r1,c253r4,c253r7,b0,h1',h2'];exact aBX (v:=n) (s:=0) rfl rfl (by omega) (by omega) (by omega)
theorem xE(n:Nat)(hn:n≤100000):PSp prog 208 [.one (.t (.int .u64 n))] (.one (.t (I (Sort.bitsLen n)))):=by
 refine k208.aJ (by simp) rfl rfl ?_;simp[c208,c208r0,c208r2];refine aD.pure (aFS n hn) (by simp) (by simp) ?_;simp[aC]
theorem aKL(n:Nat)(hn:n≤100000):PSp prog 276 [.one (.t (I n))] (.one (.t (.int .u64 (1<<< Sort.bitsLen n:Nat)))):=by
 refine k276.aJ (by simp) rfl rfl ?_;have e1:IntKind.u64.wrap (n:Int)=n:=iK (by omega) (by omega);simp[c276,c276r0,c276r1,D.cT,D.isInt,e1];refine aD.pure (xE n hn) (by simp) (by simp) ?_;have hb:Sort.bitsLen n≤17:=(Sort.bitsLen_le_iff n 17).2 (by omega);have hm:min (Sort.bitsLen n) IntKind.u64.bits=Sort.bitsLen n:=by show min _ 64=_;omega
 have hp:(2:Nat) ^ Sort.bitsLen n≤2 ^ 17:=Nat.pow_le_pow_right (by omega) hb
 have e2:IntKind.u64.wrap (2 ^ Sort.bitsLen n:Int)=((1<<< Sort.bitsLen n:Nat):Int):=by
  have e:(2 ^ Sort.bitsLen n:Int)=((2 ^ Sort.bitsLen n:Nat):Int):=by simp
  rw[Nat.shiftLeft_eq,Nat.one_mul,e];generalize 2 ^ Sort.bitsLen n=m at hp;exact iK (by omega) (by omega)
 simp[aC,hm,e2]
def jY(h:Hp)(id ver:Nat)(s:Nat):Hp:=h.set id (.arr ver false 1 [[.t (.int .u64 s)]])
theorem aF.jY{h:Hp}{n id ver s:Nat}(ho:aF h n)(hid:id<n):aF (jY h id ver s) n:=by
 refine⟨fun j hj=>?_,fun j o hj=>?_⟩
 ·simp only[YtdpbobkcbakpfaaGreatDoor.jY,Hp.set];rw[if_neg (by omega)];exact ho.above j hj
 ·simp only[YtdpbobkcbakpfaaGreatDoor.jY,Hp.set]at hj;split at hj
  ·simp only[sI9]at hj;subst hj;simp[O.below,A.below]
  ·exact ho.below j o hj
theorem aPS{x y z:Nat}(hx:x<18446744073709551616)(hy:y<18446744073709551616)(hz:z=x ^^^ y):IntKind.u64.wrap ((x % 2 ^ IntKind.u64.bits ^^^ y % 2 ^ IntKind.u64.bits:Nat):Int)=(z:Int):=by
 have e:∀ z:Nat,z<18446744073709551616→z % 2 ^ IntKind.u64.bits=z:=fun z hz=>Nat.mod_eq_of_lt (show z<2 ^ 64 from hz)
 rw[e x hx,e y hy,hz];have:x ^^^ y<2 ^ 64:=Nat.xor_lt_two_pow hx hy;exact iK (by omega) (by omega)
theorem aSN(h:Hp)(n0 bx ver s:Nat)(ho:aF h n0)(hbx:bx<n0)(hs:s<18446744073709551616):
  ISp prog 277 (jY h bx ver s) n0 [.one (.ptr ⟨bx,ver,1,0,0⟩)] (.one (.t (.int .u64 (Sort.xorNextN s)))) (jY h bx ver (Sort.xorNextN s)):=by
 refine k277.gJ (by simp) ?_;obtain⟨m1,d1⟩:∃ m1:Nat,m1=s*8192 % 18446744073709551616:=⟨_,rfl⟩;obtain⟨x1,e1⟩:∃ x1:Nat,x1=s ^^^ m1:=⟨_,rfl⟩;have b1:x1<18446744073709551616:=by rw[e1];exact Nat.xor_lt_two_pow (n:=64) hs (by omega)
 obtain⟨m2,d2⟩:∃ m2:Nat,m2=x1 / 128:=⟨_,rfl⟩;obtain⟨x2,e2⟩:∃ x2:Nat,x2=x1 ^^^ m2:=⟨_,rfl⟩;have b2:x2<18446744073709551616:=by rw[e2];exact Nat.xor_lt_two_pow (n:=64) b1 (by omega)
 obtain⟨m3,d3⟩:∃ m3:Nat,m3=x2*131072 % 18446744073709551616:=⟨_,rfl⟩;obtain⟨x3,e3⟩:∃ x3:Nat,x3=x2 ^^^ m3:=⟨_,rfl⟩;have hx:Sort.xorNextN s=x3:=by rw[e3,d3,e2,d2,e1,d1];rfl
 have s1:IntKind.u64.wrap ((s:Int)*2 ^ min 13 IntKind.u64.bits)=(m1:Int):=by
  show IntKind.u64.wrap ((s:Int)*8192)=_;rw[wrap_u64];omega
 have s2:(x1:Int).fdiv (2 ^ min 7 IntKind.u64.bits)=(m2:Int):=by
  show(x1:Int).fdiv 128=_;rw[Int.fdiv_eq_ediv_of_nonneg _ (by omega)];omega
 have s3:IntKind.u64.wrap ((x2:Int)*2 ^ min 17 IntKind.u64.bits)=(m3:Int):=by
  show IntKind.u64.wrap ((x2:Int)*131072)=_;rw[wrap_u64];omega
 have y1:=aPS (x:=s) (y:=m1) hs (by omega) e1;have y2:=aPS (x:=x1) (y:=m2) b1 (by omega) e2;have y3:=aPS (x:=x2) (y:=m3) b2 (by omega) e3;rw[hx];simp[c277,c277r0,c277r1,c277r2,c277r3,c277r4,s1,s2,s3,y1,y2,y3,jY];refine⟨.inr rfl,⟨by simp,by simp⟩,by simp,by simp,by simp,fun j hj=>?_,(aF.jY ho hbx).above,(aF.jY ho hbx).below⟩;simp only[Hp.set];split<;>rfl
theorem put_comm{h:Hp}{id ver bx v s:Nat}{e:Array Sp}(hne:id≠bx):aR (jY h bx v s) id ver e=jY (aR h id ver e) bx v s:=funext fun j=>by
 simp only[aR,jY,Hp.set];split<;>split<;>simp_all
def stp(l m i0 a:Nat)(d:Array Sp):Nat→UInt64×Array Sp
 | 0=>(UInt64.ofNat l,d)
 | t+1=>Sort.breakStep a l m (stp l m i0 a d t) (i0+t)
theorem aW0{x y z:Nat}(hx:x<18446744073709551616)(hy:y<18446744073709551616)(hz:z=x&&&y):IntKind.u64.wrap ((((x:Int) % 2 ^ IntKind.u64.bits).toNat&&&((y:Int) % 2 ^ IntKind.u64.bits).toNat:Nat):Int)=(z:Int):=by
 have e:∀ z:Nat,z<18446744073709551616→((z:Int) % 2 ^ IntKind.u64.bits).toNat=z:=fun z hz=>by
  show((z:Int) % 2 ^ 64).toNat=z;omega
 rw[e x hx,e y hy,hz];have:x&&&y≤y:=Nat.and_le_right;exact iK (by omega) (by omega)
theorem xF(h:Hp)(n0 id ver a b:Nat)(tight:Bool)(d:Array Sp)(hd:Data h id ver d)(ho:aF h n0)(hid:id<n0)(hab:a+8≤b)(hb:b≤d.size)(hsz:d.size≤100000)(c:D)(_hc:c.closed=true):
  ISp prog 246 h n0 [.one (.ref id ver 0 d.size 2 tight),.one (.t (I a)),.one (.t (I b)),c] (.tup []) (aR h id ver (Sort.breakPatterns d a b)):=by
 refine k246.gJ (by simp) ?_;obtain⟨l,hl⟩:∃ l:Nat,l=b - a:=⟨_,rfl⟩;obtain⟨q,hq⟩:∃ q:Nat,q=l / 4:=⟨_,rfl⟩;obtain⟨i0,hi0⟩:∃ i:Nat,i=a+q*2 - 1:=⟨_,rfl⟩;obtain⟨mo,hmo⟩:∃ m:Nat,m=1<<< Sort.bitsLen l:=⟨_,rfl⟩
 have hm2:0<mo∧mo≤2*l:=by
  have:=Sort.two_pow_bitsLen_le (n:=l) (by omega);have h2:=Nat.two_pow_pos (Sort.bitsLen l);rw[hmo,Nat.shiftLeft_eq,Nat.one_mul];omega
 have w1:IntKind.i64.wrap ((b:Int) - a)=(l:Int):=aH _ (by omega) (by omega);have w2:IntKind.i64.wrap ((l:Int) / 4)=(q:Int):=aH _ (by omega) (by omega);have w4:IntKind.i64.wrap ((q:Int)*2)=(q:Int)*2:=wrap_i64 (by omega) (by omega);have w5:IntKind.i64.wrap ((a:Int)+q*2)=(a:Int)+q*2:=wrap_i64 (by omega) (by omega);have w6:IntKind.i64.wrap ((a:Int)+q*2 - 1)=(i0:Int):=aH _ (by omega) (by omega);have w7:IntKind.i64.wrap ((a:Int)+q*2+1)=((i0+2:Nat):Int):=aH _ (by omega) (by omega);have w8:IntKind.u64.wrap (l:Int)=(l:Int):=iK (by omega) (by omega);have hl8:8≤(l:Int):=by omega
 have hbp:Sort.breakPatterns d a b=(stp l mo i0 a d 3).2:=by
  rw[Sort.breakPatterns,if_pos (show b - a≥8 by omega),←hl,←hq,←hi0,←hmo];rfl
 have aW1:IntKind.u64.wrap ((mo:Int) - 1)=((mo - 1:Nat):Int):=by rw[iK (by omega) (by omega)];omega
 simp[c246,c246r0,c246r1,c246r2,c246r3,w1,hl8,D.cT,D.isInt,w8];refine aD.pure (aKL l (by omega)) (by simp) (by simp) ?_;rw[←hmo];simp[c246r4,w2,w4,w5,w6];obtain⟨bx,hbx⟩:∃ bx:Nat,bx=n0+4+2+2:=⟨_,rfl⟩;have hne:id≠bx:=by omega
 have hsz':∀ t,t≤3→Keeps d (stp l mo i0 a d t).2:=by
  intro t
  induction t with
  | zero=>exact fun _=> .refl _
  | succ t ih=>
   intro ht;have k:=ih (by omega);refine k.trans ?_;show Keeps _ (Sort.swp _ _ _);refine Keeps.swp (by rw[k.1];omega) ?_;rw[k.1];have hand:(Sort.xorNext (stp l mo i0 a d t).1).toNat&&&(mo - 1)≤mo - 1:=Nat.and_le_right;split<;>omega
 refine W.dO (fun k st=>∃ t:Nat,k=3 - t∧t≤3∧st.heap=aR (jY h bx 0 (stp l mo i0 a d t).1.toNat) id ver (stp l mo i0 a d t).2∧n0+20≤st.nx∧
  st.tmps 0= .one (.ref id ver 0 d.size 2 tight)∧st.tmps 1= .one (.t (I a))∧st.tmps 8= .one (.t (I l))∧st.tmps 9= .one (.ptr ⟨bx,0,1,0,0⟩)∧st.tmps 10= .one (.t (.int .u64 mo))∧st.tmps 11= .one (.t (I ((i0+t:Nat):Int)))) 3
  ⟨0,rfl,by omega,?_,by simp<;>omega,by simp,by simp,by simp,by simp[hbx],by simp,by simp⟩ ?_
 ·have e0:(stp l mo i0 a d 0).1.toNat=l:=by show(UInt64.ofNat l).toNat=l;rw[UInt64.toNat_ofNat'];omega
  rw[put_comm hne,e0];show _=jY (aR h id ver d) bx 0 l;rw[hd.self,←hbx];funext j;simp only[jY,Hp.set];split<;>rfl
 rintro k st ⟨t,hk,ht,hh,hnx,h0,h1,h8,h9,h10,h11⟩
 by_cases h3:t=3
 ·subst h3;have hlt:¬ ((i0+3:Nat):Int)≤((i0+2:Nat):Int):=by omega
  simp only[Int.natCast_add]at hlt w7 h11;simp at hlt w7 h11;simp[c246b11,c246r5,h1,h8,h11,w2,w4,w5,w7]
  have e:∀ j,j<n0→st.heap j=aR h id ver (Sort.breakPatterns d a b) j:=fun j hj=>by
   rw[hh,hbp,put_comm hne];simp only[jY,Hp.set];rw[if_neg (by omega)]
  exact⟨.inl rfl,⟨by simp,by simp⟩,by simp[lK,D.cR],by simp[lK,D.frz],by simp[lK,D.ids],e,(aF.put ho hid).above,(aF.put ho hid).below⟩
 ·have ke:=hsz' t (by omega);have hstep:stp l mo i0 a d (t+1)=Sort.breakStep a l mo (stp l mo i0 a d t) (i0+t):=rfl;generalize stp l mo i0 a d t=re at*;obtain⟨r,e⟩:=re;simp only at hh ke;obtain⟨R,hR⟩:∃ R:Nat,R=Sort.xorNextN r.toNat:=⟨_,rfl⟩;have aSO:r.toNat<18446744073709551616:=r.toNat_lt;have hRb:R<18446744073709551616:=by rw[hR];exact Sort.xorNextN_lt _ aSO
  obtain⟨o1,ho1⟩:∃ o1:Nat,o1=R&&&(mo - 1):=⟨_,rfl⟩;have ho1b:o1≤mo - 1:=by rw[ho1];exact Nat.and_le_right
  obtain⟨o2,ho2⟩:∃ o2:Nat,o2=if o1≥l then o1 - l else o1:=⟨_,rfl⟩
  have ho2b:o2<l:=by rw[ho2];split<;>omega
  obtain⟨ix,hix⟩:∃ ix:Nat,ix=i0+t:=⟨_,rfl⟩;obtain⟨p,hp⟩:∃ p:Nat,p=a+o2:=⟨_,rfl⟩
  have aPT:stp l mo i0 a d (t+1)=(Sort.xorNext r,Sort.swp e ix p):=by
   rw[hstep,Sort.breakStep,hp,ho2,ho1,hR,←hix];simp only[Sort.xorNext_toNat]
  rw[←hix]at h11;have hle:(ix:Int)≤((i0+2:Nat):Int):=by omega
  have hle':(ix:Int)≤(i0:Int)+2:=by omega
  obtain⟨m1,hm1⟩:∃ m1:Nat,m1=mo - 1:=⟨_,rfl⟩;have a1:=aW0 (x:=R) (y:=m1) (z:=o1) hRb (by omega) (by rw[hm1];exact ho1);have wo:IntKind.i64.wrap (o1:Int)=(o1:Int):=wrap_i64 (by omega) (by omega);have hmm:IntKind.u64.wrap ((mo:Int) - 1)=(m1:Int):=by rw[hm1];exact aW1
  have q1:ix<e.size:=by rw[ke.1];omega
  have q2:p<e.size:=by rw[ke.1];omega
  have q1':ix<d.size:=by omega
  have q2':p<d.size:=by omega
  have wi:IntKind.i64.wrap ((ix:Int)+1)=((ix+1:Nat):Int):=aH _ (by omega) (by omega);have wp:IntKind.i64.wrap ((a:Int)+o2)=(p:Int):=aH _ (by omega) (by omega);simp[c246b11,c246r5,h1,h8,h11,w2,w4,w5,w7,hle'];simp[c246r7,h9];have hx:=aSN (aR h id ver e) (st.nx+8) bx 0 r.toNat (aF.more (aF.put ho hid) (by omega)) (by omega) aSO;rw[hh,put_comm hne];refine aD.imp hx ?_;rw[←hR,←put_comm hne];have hg:aR (jY h bx 0 R) id ver e=aR (jY h bx 0 R) id ver e:=rfl;have hdat:Data (aR (jY h bx 0 R) id ver e) id ver e:=bD;have hln:((aR (jY h bx 0 R) id ver e).rows id).length=e.size:=by rw[hdat.rows];simp
  have g1:=rowAt hdat q1;have g2:=rowAt hdat q2;have c1:((aR (jY h bx 0 R) id ver e).rows id)[ix]? =some (cell e[ix]):=by rw[cellAt hdat q1,getElem!_pos e ix q1]
  have c2:((aR (jY h bx 0 R) id ver e).rows id)[p]? =some (cell e[p]):=by rw[cellAt hdat q2,getElem!_pos e p q2]
  have sh:=dT hg q1 q2;simp[hln,q2]at sh;have hRn:(Sort.xorNext r).toNat=R:=by rw[Sort.xorNext_toNat,hR]
  generalize aR (jY h bx 0 R) id ver e=g at*;simp[h8,h10,hmm,a1,wo,c246r8,D.cT]
  have last:∀ (J:St→Prop) (tm:Nat→D) (nx:Nat),st.nx≤nx→tm 0=st.tmps 0→tm 1=st.tmps 1→tm 8=st.tmps 8→tm 9=st.tmps 9→tm 10=st.tmps 10→tm 11=st.tmps 11→tm 12= .one (.t (I o2))→
    (∀st':St,st'.heap=aR (jY h bx 0 (stp l mo i0 a d (t+1)).1.toNat) id ver (stp l mo i0 a d (t+1)).2→n0+20≤st'.nx→st'.tmps 0= .one (.ref id ver 0 d.size 2 tight)→st'.tmps 1= .one (.t (I a))→st'.tmps 8= .one (.t (I l))→
     st'.tmps 9= .one (.ptr ⟨bx,0,1,0,0⟩)→st'.tmps 10= .one (.t (.int .u64 mo))→st'.tmps 11= .one (.t (I ((ix+1:Nat):Int)))→J st')→
    iP prog true nx c246r10 (oQ (kont prog 67 (fX [] (D.tup []) (aR h id ver (Sort.breakPatterns d a b)) n0) [KF.blk 1,KF.thn (aB.region 6 false 3 c246r6),KF.post J,KF.blk 0]) (nx+20)) 0 tm g:=by
   intro J tm nx hnx2 z0 z1 z8 z9 z10 z11 z12 hJ;rw[h0]at z0;rw[h1]at z1;rw[h8]at z8;rw[h9]at z9;rw[h10]at z10;rw[h11]at z11;simp[c246r10,c246r6,z0,z1,z11,z12,wi,wp,hdat.alive,hdat.sz,hdat.open_,hln,g1,g2,q1,q2,q1',q2',bG,dY];refine⟨bH _,bH _,hJ _ ?_ (by simp;omega) (by simp[z0]) (by simp[z1]) (by simp[z8]) (by simp[z9]) (by simp[z10]) (by simp)⟩;rw[sh,aPT,←hRn]
  have xG:∀ st':St,st'.heap=aR (jY h bx 0 (stp l mo i0 a d (t+1)).1.toNat) id ver (stp l mo i0 a d (t+1)).2→n0+20≤st'.nx→st'.tmps 0= .one (.ref id ver 0 d.size 2 tight)→st'.tmps 1= .one (.t (I a))→st'.tmps 8= .one (.t (I l))→
     st'.tmps 9= .one (.ptr ⟨bx,0,1,0,0⟩)→st'.tmps 10= .one (.t (.int .u64 mo))→st'.tmps 11= .one (.t (I ((ix+1:Nat):Int)))→∃k',k'<k∧∃t,k'=3 - t∧t≤3∧st'.heap=aR (jY h bx 0 (stp l mo i0 a d t).1.toNat) id ver (stp l mo i0 a d t).2∧n0+20≤st'.nx∧
     st'.tmps 0= .one (.ref id ver 0 d.size 2 tight)∧st'.tmps 1= .one (.t (I a))∧st'.tmps 8= .one (.t (I l))∧st'.tmps 9= .one (.ptr ⟨bx,0,1,0,0⟩)∧st'.tmps 10= .one (.t (.int .u64 mo))∧st'.tmps 11= .one (.t (I ((i0+t:Nat):Int))):=by
   intro st' y y1 y2 y3 y4 y5 y6 y7;exact⟨3 - (t+1),by omega,t+1,rfl,by omega,y,y1,y2,y3,y4,y5,y6,by rw[y7,hix];rfl⟩
  by_cases hc:l≤o1
  ·have hcI:(l:Int)≤o1:=by omega
   have ws:IntKind.i64.wrap ((o1:Int) - l)=(o2:Int):=aH _ (by rw[ho2,if_pos hc];omega) (by omega);simp[hc,Nat.not_lt.2 hc,c246r9,h8,ws];exact last _ _ _ (by omega) (by simp) (by simp) (by simp) (by simp) (by simp) (by simp) (by simp) (fun st' y y1 y2 y3 y4 y5 y6 y7=>by simpa using xG st' y y1 y2 y3 y4 y5 y6 y7)
  ·have hcI:¬ (l:Int)≤o1:=by omega
   have e2:o2=o1:=by rw[ho2,if_neg hc]
   simp[hc,Nat.not_le.1 hc];exact last _ _ _ (by omega) (by simp) (by simp) (by simp) (by simp) (by simp) (by simp) (by simp[e2]) (fun st' y y1 y2 y3 y4 y5 y6 y7=>by simpa using xG st' y y1 y2 y3 y4 y5 y6 y7)
theorem aPU{n:Nat}{A:Exit→St→Prop}{ks:List KF}(id ver a i j:Nat)(tight:Bool)(h:Hp)(e:Array Sp)(hsz:e.size≤100000)(hse:∀ x∈e,small x)(st:St)(hh:st.heap=aR h id ver e)
  (h0:st.tmps 0= .one (.ref id ver 0 e.size 2 tight)) (h1:st.tmps 1= .one (.t (I a))) (h4:st.tmps 4= .one (.fn 161 [])) (hti:st.tmps 12= .one (.t (I i))) (htj:st.tmps 13= .one (.t (I j))) (ha:a<e.size) (_hai:a<i) (hj:j<e.size) (p:Sp→Bool) (hp:p=(fun x=>ltS x e[a]!))
  (K:∀ st':St,st'.heap=st.heap→st.nx≤st'.nx→st'.tmps 0=st.tmps 0→st'.tmps 1=st.tmps 1→st'.tmps 2=st.tmps 2→st'.tmps 3=st.tmps 3→st'.tmps 4=st.tmps 4→st'.tmps 13=st.tmps 13→st'.tmps 12= .one (.t (I (Sort.scanUp p e j i:Nat)))→cS prog n A ks .normal st'):
  W prog n (.loop c251b5) (kont prog n A (.blk 0::ks)) st:=by
 refine W.dO (fun k st1=>∃ x:Nat,k=j+1 - x∧Sort.scanUp p e j x=Sort.scanUp p e j i∧st1.heap=st.heap∧st.nx≤st1.nx∧st1.tmps 0=st.tmps 0∧st1.tmps 1=st.tmps 1∧st1.tmps 2=st.tmps 2∧st1.tmps 3=st.tmps 3∧st1.tmps 4=st.tmps 4∧st1.tmps 13=st.tmps 13∧st1.tmps 12= .one (.t (I x))) (j+1 - i) ⟨i,rfl,rfl,rfl,Nat.le_refl _,rfl,rfl,rfl,rfl,rfl,rfl,hti⟩ ?_;rintro k st1 ⟨x,hk,hs,hh1,hn1,e0,e1,e2,e3,e4,e13,em⟩;have hdat:Data st1.heap id ver e:=by rw[hh1,hh];exact bD
 rw[h0]at e0;rw[h1]at e1;rw[h4]at e4;rw[htj]at e13
 by_cases hle:x≤j
 ·have hx:x<e.size:=by omega
  have lH:(x:Int)≤j:=by omega
  have hln:(st1.heap.rows id).length=e.size:=by rw[hdat.rows];simp
  have g1:=rowAt hdat hx;have g2:=rowAt hdat ha;have sx:small e[x]:=hse _ (Array.getElem_mem _);have sa:small e[a]:=hse _ (Array.getElem_mem _);have hw:IntKind.i64.wrap ((x:Int)+1)=((x+1:Nat):Int):=aH _ (by omega) (by omega)
  have hstep:Sort.scanUp p e j x=if ltS e[x] e[a]=true then Sort.scanUp p e j (x+1)else x:=by
   rw[Sort.scanUp,hp];simp[hle,getElem!_pos e x hx,getElem!_pos e a ha]
  simp[c251b5,c251r3,e0,e1,e4,e13,em,lH,hdat.alive,hdat.sz,hln,g1,g2,hx,ha,bG];refine⟨161,[],⟨rfl,rfl⟩,cN,?_⟩;refine aD.draw (sJ e[x] e[a] sx sa) (by simp[cell]) (by simp[cell]) (by simp) ?_
  by_cases hlt:ltS e[x] e[a]=true
  ·have hlt':e[x].1 - e[a].1<0:=by simp[ltS]at hlt;omega
   have hnx:Sort.scanUp p e j (x+1)=Sort.scanUp p e j i:=by rw[←hs,hstep];simp[hlt]
   simp[hlt',c251r4,em,hw];exact⟨_,by omega,x+1,rfl,by rw[←hs,hstep];simp[hlt],hh1,by omega,by simp[e0,h0],by simp[e1,h1],by simp[e2],by simp[e3],by simp[e4,h4],by simp[e13,htj],rfl⟩
  ·have hlt':¬ e[x].1 - e[a].1<0:=by simp[ltS]at hlt;omega
   simp[hlt'];exact K _ (by simp[hh1]) (by simp;omega) (by simp[e0,h0]) (by simp[e1,h1]) (by simp[e2]) (by simp[e3]) (by simp[e4,h4]) (by simp[e13,htj]) (by rw[←hs,hstep];simp[em,hlt])
 ·have lH:¬ (x:Int)≤j:=by omega
  have hstop:Sort.scanUp p e j x=x:=by
   rw[Sort.scanUp,if_neg];simp[hle]
  simp[c251b5,c251r3,e0,e1,e4,e13,em,lH];exact K _ (by simp[hh1]) (by simp;omega) (by simp[e0,h0]) (by simp[e1,h1]) (by simp[e2]) (by simp[e3]) (by simp[e4,h4]) (by simp[e13,htj]) (by rw[←hs,hstop];simp[em])
theorem aKM{n:Nat}{A:Exit→St→Prop}{ks:List KF}(id ver a i j:Nat)(tight:Bool)(h:Hp)(e:Array Sp)(hsz:e.size≤100000)(hse:∀ x∈e,small x)(st:St)(hh:st.heap=aR h id ver e)
  (h0:st.tmps 0= .one (.ref id ver 0 e.size 2 tight)) (h1:st.tmps 1= .one (.t (I a))) (h4:st.tmps 4= .one (.fn 161 [])) (hti:st.tmps 12= .one (.t (I i))) (htj:st.tmps 13= .one (.t (I j))) (ha:a<e.size) (hai:a<i) (hj:j<e.size) (p:Sp→Bool) (hp:p=(fun x=> !ltS x e[a]!))
  (K:∀ st':St,st'.heap=st.heap→st.nx≤st'.nx→st'.tmps 0=st.tmps 0→st'.tmps 1=st.tmps 1→st'.tmps 2=st.tmps 2→st'.tmps 3=st.tmps 3→st'.tmps 4=st.tmps 4→st'.tmps 12=st.tmps 12→st'.tmps 13= .one (.t (I (Sort.scanDown p e i j:Nat)))→cS prog n A ks .normal st'):
  W prog n (.loop c251b8) (kont prog n A (.blk 2::ks)) st:=by
 refine W.dO (fun k st1=>∃ x:Nat,k=x+1∧x≤j∧Sort.scanDown p e i x=Sort.scanDown p e i j∧st1.heap=st.heap∧st.nx≤st1.nx∧st1.tmps 0=st.tmps 0∧st1.tmps 1=st.tmps 1∧st1.tmps 2=st.tmps 2∧st1.tmps 3=st.tmps 3∧st1.tmps 4=st.tmps 4∧st1.tmps 12=st.tmps 12∧st1.tmps 13= .one (.t (I x))) (j+1) ⟨j,rfl,Nat.le_refl _,rfl,rfl,Nat.le_refl _,rfl,rfl,rfl,rfl,rfl,rfl,htj⟩ ?_;rintro k st1 ⟨x,hk,hxj,hs,hh1,hn1,e0,e1,e2,e3,e4,e12,em⟩;have hdat:Data st1.heap id ver e:=by rw[hh1,hh];exact bD
 rw[h0]at e0;rw[h1]at e1;rw[h4]at e4;rw[hti]at e12
 by_cases hle:i≤x
 ·have hx:x<e.size:=by omega
  have lH:(i:Int)≤x:=by omega
  have hln:(st1.heap.rows id).length=e.size:=by rw[hdat.rows];simp
  have g1:=rowAt hdat hx;have g2:=rowAt hdat ha;have sx:small e[x]:=hse _ (Array.getElem_mem _);have sa:small e[a]:=hse _ (Array.getElem_mem _);have hw:IntKind.i64.wrap ((x:Int) - 1)=((x - 1:Nat):Int):=aH _ (by omega) (by omega)
  have hstep:Sort.scanDown p e i x=if ¬ltS e[x] e[a]=true then Sort.scanDown p e i (x - 1)else x:=by
   obtain⟨y,rfl⟩:∃ y,x=y+1:=⟨x - 1,by omega⟩;rw[Sort.scanDown,hp];simp[hle,getElem!_pos e (y+1) hx,getElem!_pos e a ha]
  simp[c251b8,c251r5,e0,e1,e4,e12,em,lH,hdat.alive,hdat.sz,hln,g1,g2,hx,ha,bG];refine⟨161,[],⟨rfl,rfl⟩,cN,?_⟩;refine aD.draw (sJ e[x] e[a] sx sa) (by simp[cell]) (by simp[cell]) (by simp) ?_
  by_cases hlt:ltS e[x] e[a]=true
  ·have hlt':e[x].1 - e[a].1<0:=by simp[ltS]at hlt;omega
   simp[hlt'];exact K _ (by simp[hh1]) (by simp;omega) (by simp[e0,h0]) (by simp[e1,h1]) (by simp[e2]) (by simp[e3]) (by simp[e4,h4]) (by simp[e12,hti]) (by rw[←hs,hstep];simp[em,hlt])
  ·have hlt':¬ e[x].1 - e[a].1<0:=by simp[ltS]at hlt;omega
   have hnx:Sort.scanDown p e i (x - 1)=Sort.scanDown p e i j:=by rw[←hs,hstep];simp[hlt]
   simp[hlt',c251r6,em,hw];exact⟨_,by omega,x - 1,rfl,by omega,by rw[←hs,hstep];simp[hlt],hh1,by omega,by simp[e0,h0],by simp[e1,h1],by simp[e2],by simp[e3],by simp[e4,h4],by simp[e12,hti],rfl⟩
 ·have lH:¬ (i:Int)≤x:=by omega
  have hstop:Sort.scanDown p e i x=x:=by
   cases x with
   | zero=>rfl
   | succ y=>rw[Sort.scanDown,if_neg];simp[hle]
  simp[c251b8,c251r5,e0,e1,e4,e12,em,lH];exact K _ (by simp[hh1]) (by simp;omega) (by simp[e0,h0]) (by simp[e1,h1]) (by simp[e2]) (by simp[e3]) (by simp[e4,h4]) (by simp[e12,hti]) (by rw[←hs,hstop];simp[em])
theorem aPV{n:Nat}{A:Exit→St→Prop}{ks:List KF}(id ver a i j:Nat)(tight:Bool)(h:Hp)(e:Array Sp)(hsz:e.size≤100000)(hse:∀ x∈e,small x)(st:St)(hh:st.heap=aR h id ver e)
  (h0:st.tmps 0= .one (.ref id ver 0 e.size 2 tight)) (h1:st.tmps 1= .one (.t (I a))) (h4:st.tmps 4= .one (.fn 161 [])) (hti:st.tmps 12= .one (.t (I i))) (htj:st.tmps 13= .one (.t (I j))) (ha:a<e.size) (_hai:a<i) (hj:j<e.size) (p:Sp→Bool) (hp:p=(fun x=>ltS x e[a]!))
  (K:∀ st':St,st'.heap=st.heap→st.nx≤st'.nx→st'.tmps 0=st.tmps 0→st'.tmps 1=st.tmps 1→st'.tmps 2=st.tmps 2→st'.tmps 3=st.tmps 3→st'.tmps 4=st.tmps 4→st'.tmps 13=st.tmps 13→st'.tmps 12= .one (.t (I (Sort.scanUp p e j i:Nat)))→cS prog n A ks .normal st'):
  W prog n (.loop c251b17) (kont prog n A (.blk 6::ks)) st:=by
 refine W.dO (fun k st1=>∃ x:Nat,k=j+1 - x∧Sort.scanUp p e j x=Sort.scanUp p e j i∧st1.heap=st.heap∧st.nx≤st1.nx∧st1.tmps 0=st.tmps 0∧st1.tmps 1=st.tmps 1∧st1.tmps 2=st.tmps 2∧st1.tmps 3=st.tmps 3∧st1.tmps 4=st.tmps 4∧st1.tmps 13=st.tmps 13∧st1.tmps 12= .one (.t (I x))) (j+1 - i) ⟨i,rfl,rfl,rfl,Nat.le_refl _,rfl,rfl,rfl,rfl,rfl,rfl,hti⟩ ?_;rintro k st1 ⟨x,hk,hs,hh1,hn1,e0,e1,e2,e3,e4,e13,em⟩;have hdat:Data st1.heap id ver e:=by rw[hh1,hh];exact bD
 rw[h0]at e0;rw[h1]at e1;rw[h4]at e4;rw[htj]at e13
 by_cases hle:x≤j
 ·have hx:x<e.size:=by omega
  have lH:(x:Int)≤j:=by omega
  have hln:(st1.heap.rows id).length=e.size:=by rw[hdat.rows];simp
  have g1:=rowAt hdat hx;have g2:=rowAt hdat ha;have sx:small e[x]:=hse _ (Array.getElem_mem _);have sa:small e[a]:=hse _ (Array.getElem_mem _);have hw:IntKind.i64.wrap ((x:Int)+1)=((x+1:Nat):Int):=aH _ (by omega) (by omega)
  have hstep:Sort.scanUp p e j x=if ltS e[x] e[a]=true then Sort.scanUp p e j (x+1)else x:=by
   rw[Sort.scanUp,hp];simp[hle,getElem!_pos e x hx,getElem!_pos e a ha]
  simp[c251b17,c251r13,e0,e1,e4,e13,em,lH,hdat.alive,hdat.sz,hln,g1,g2,hx,ha,bG];refine⟨161,[],⟨rfl,rfl⟩,cN,?_⟩;refine aD.draw (sJ e[x] e[a] sx sa) (by simp[cell]) (by simp[cell]) (by simp) ?_
  by_cases hlt:ltS e[x] e[a]=true
  ·have hlt':e[x].1 - e[a].1<0:=by simp[ltS]at hlt;omega
   have hnx:Sort.scanUp p e j (x+1)=Sort.scanUp p e j i:=by rw[←hs,hstep];simp[hlt]
   simp[hlt',c251r14,em,hw];exact⟨_,by omega,x+1,rfl,by rw[←hs,hstep];simp[hlt],hh1,by omega,by simp[e0,h0],by simp[e1,h1],by simp[e2],by simp[e3],by simp[e4,h4],by simp[e13,htj],rfl⟩
  ·have hlt':¬ e[x].1 - e[a].1<0:=by simp[ltS]at hlt;omega
   simp[hlt'];exact K _ (by simp[hh1]) (by simp;omega) (by simp[e0,h0]) (by simp[e1,h1]) (by simp[e2]) (by simp[e3]) (by simp[e4,h4]) (by simp[e13,htj]) (by rw[←hs,hstep];simp[em,hlt])
 ·have lH:¬ (x:Int)≤j:=by omega
  have hstop:Sort.scanUp p e j x=x:=by
   rw[Sort.scanUp,if_neg];simp[hle]
  simp[c251b17,c251r13,e0,e1,e4,e13,em,lH];exact K _ (by simp[hh1]) (by simp;omega) (by simp[e0,h0]) (by simp[e1,h1]) (by simp[e2]) (by simp[e3]) (by simp[e4,h4]) (by simp[e13,htj]) (by rw[←hs,hstop];simp[em])
theorem aKN{n:Nat}{A:Exit→St→Prop}{ks:List KF}(id ver a i j:Nat)(tight:Bool)(h:Hp)(e:Array Sp)(hsz:e.size≤100000)(hse:∀ x∈e,small x)(st:St)(hh:st.heap=aR h id ver e)
  (h0:st.tmps 0= .one (.ref id ver 0 e.size 2 tight)) (h1:st.tmps 1= .one (.t (I a))) (h4:st.tmps 4= .one (.fn 161 [])) (hti:st.tmps 12= .one (.t (I i))) (htj:st.tmps 13= .one (.t (I j))) (ha:a<e.size) (hai:a<i) (hj:j<e.size) (p:Sp→Bool) (hp:p=(fun x=> !ltS x e[a]!))
  (K:∀ st':St,st'.heap=st.heap→st.nx≤st'.nx→st'.tmps 0=st.tmps 0→st'.tmps 1=st.tmps 1→st'.tmps 2=st.tmps 2→st'.tmps 3=st.tmps 3→st'.tmps 4=st.tmps 4→st'.tmps 12=st.tmps 12→st'.tmps 13= .one (.t (I (Sort.scanDown p e i j:Nat)))→cS prog n A ks .normal st'):
  W prog n (.loop c251b20) (kont prog n A (.blk 8::ks)) st:=by
 refine W.dO (fun k st1=>∃ x:Nat,k=x+1∧x≤j∧Sort.scanDown p e i x=Sort.scanDown p e i j∧st1.heap=st.heap∧st.nx≤st1.nx∧st1.tmps 0=st.tmps 0∧st1.tmps 1=st.tmps 1∧st1.tmps 2=st.tmps 2∧st1.tmps 3=st.tmps 3∧st1.tmps 4=st.tmps 4∧st1.tmps 12=st.tmps 12∧st1.tmps 13= .one (.t (I x))) (j+1) ⟨j,rfl,Nat.le_refl _,rfl,rfl,Nat.le_refl _,rfl,rfl,rfl,rfl,rfl,rfl,htj⟩ ?_;rintro k st1 ⟨x,hk,hxj,hs,hh1,hn1,e0,e1,e2,e3,e4,e12,em⟩;have hdat:Data st1.heap id ver e:=by rw[hh1,hh];exact bD
 rw[h0]at e0;rw[h1]at e1;rw[h4]at e4;rw[hti]at e12
 by_cases hle:i≤x
 ·have hx:x<e.size:=by omega
  have lH:(i:Int)≤x:=by omega
  have hln:(st1.heap.rows id).length=e.size:=by rw[hdat.rows];simp
  have g1:=rowAt hdat hx;have g2:=rowAt hdat ha;have sx:small e[x]:=hse _ (Array.getElem_mem _);have sa:small e[a]:=hse _ (Array.getElem_mem _);have hw:IntKind.i64.wrap ((x:Int) - 1)=((x - 1:Nat):Int):=aH _ (by omega) (by omega)
  have hstep:Sort.scanDown p e i x=if ¬ltS e[x] e[a]=true then Sort.scanDown p e i (x - 1)else x:=by
   obtain⟨y,rfl⟩:∃ y,x=y+1:=⟨x - 1,by omega⟩;rw[Sort.scanDown,hp];simp[hle,getElem!_pos e (y+1) hx,getElem!_pos e a ha]
  simp[c251b20,c251r15,e0,e1,e4,e12,em,lH,hdat.alive,hdat.sz,hln,g1,g2,hx,ha,bG];refine⟨161,[],⟨rfl,rfl⟩,cN,?_⟩;refine aD.draw (sJ e[x] e[a] sx sa) (by simp[cell]) (by simp[cell]) (by simp) ?_
  by_cases hlt:ltS e[x] e[a]=true
  ·have hlt':e[x].1 - e[a].1<0:=by simp[ltS]at hlt;omega
   simp[hlt'];exact K _ (by simp[hh1]) (by simp;omega) (by simp[e0,h0]) (by simp[e1,h1]) (by simp[e2]) (by simp[e3]) (by simp[e4,h4]) (by simp[e12,hti]) (by rw[←hs,hstep];simp[em,hlt])
  ·have hlt':¬ e[x].1 - e[a].1<0:=by simp[ltS]at hlt;omega
   have hnx:Sort.scanDown p e i (x - 1)=Sort.scanDown p e i j:=by rw[←hs,hstep];simp[hlt]
   simp[hlt',c251r16,em,hw];exact⟨_,by omega,x - 1,rfl,by omega,by rw[←hs,hstep];simp[hlt],hh1,by omega,by simp[e0,h0],by simp[e1,h1],by simp[e2],by simp[e3],by simp[e4,h4],by simp[e12,hti],rfl⟩
 ·have lH:¬ (i:Int)≤x:=by omega
  have hstop:Sort.scanDown p e i x=x:=by
   cases x with
   | zero=>rfl
   | succ y=>rw[Sort.scanDown,if_neg];simp[hle]
  simp[c251b20,c251r15,e0,e1,e4,e12,em,lH];exact K _ (by simp[hh1]) (by simp;omega) (by simp[e0,h0]) (by simp[e1,h1]) (by simp[e2]) (by simp[e3]) (by simp[e4,h4]) (by simp[e12,hti]) (by rw[←hs,hstop];simp[em])
theorem aSP{n:Nat}{A:Exit→St→Prop}{ks:List KF}(id ver a i j:Nat)(tight:Bool)(h:Hp)(e:Array Sp)(hsz:e.size≤100000)(hse:∀ x∈e,small x)(st:St)(hh:st.heap=aR h id ver e)
  (h0:st.tmps 0= .one (.ref id ver 0 e.size 2 tight)) (h1:st.tmps 1= .one (.t (I a))) (h4:st.tmps 4= .one (.fn 161 [])) (hti:st.tmps 11= .one (.t (I i))) (htj:st.tmps 12= .one (.t (I j))) (ha:a<e.size) (_hai:a<i) (hj:j<e.size) (p:Sp→Bool) (hp:p=(fun x=> !ltS e[a]! x))
  (K:∀ st':St,st'.heap=st.heap→st.nx≤st'.nx→st'.tmps 0=st.tmps 0→st'.tmps 1=st.tmps 1→st'.tmps 2=st.tmps 2→st'.tmps 3=st.tmps 3→st'.tmps 4=st.tmps 4→st'.tmps 12=st.tmps 12→st'.tmps 11= .one (.t (I (Sort.scanUp p e j i:Nat)))→cS prog n A ks .normal st'):
  W prog n (.loop c250b5) (kont prog n A (.blk 2::ks)) st:=by
 refine W.dO (fun k st1=>∃ x:Nat,k=j+1 - x∧Sort.scanUp p e j x=Sort.scanUp p e j i∧st1.heap=st.heap∧st.nx≤st1.nx∧st1.tmps 0=st.tmps 0∧st1.tmps 1=st.tmps 1∧st1.tmps 2=st.tmps 2∧st1.tmps 3=st.tmps 3∧st1.tmps 4=st.tmps 4∧st1.tmps 12=st.tmps 12∧st1.tmps 11= .one (.t (I x))) (j+1 - i) ⟨i,rfl,rfl,rfl,Nat.le_refl _,rfl,rfl,rfl,rfl,rfl,rfl,hti⟩ ?_;rintro k st1 ⟨x,hk,hs,hh1,hn1,e0,e1,e2,e3,e4,e12,em⟩;have hdat:Data st1.heap id ver e:=by rw[hh1,hh];exact bD
 rw[h0]at e0;rw[h1]at e1;rw[h4]at e4;rw[htj]at e12
 by_cases hle:x≤j
 ·have hx:x<e.size:=by omega
  have lH:(x:Int)≤j:=by omega
  have hln:(st1.heap.rows id).length=e.size:=by rw[hdat.rows];simp
  have g1:=rowAt hdat hx;have g2:=rowAt hdat ha;have sx:small e[x]:=hse _ (Array.getElem_mem _);have sa:small e[a]:=hse _ (Array.getElem_mem _);have hw:IntKind.i64.wrap ((x:Int)+1)=((x+1:Nat):Int):=aH _ (by omega) (by omega)
  have hstep:Sort.scanUp p e j x=if ¬ltS e[a] e[x]=true then Sort.scanUp p e j (x+1)else x:=by
   rw[Sort.scanUp,hp];simp[hle,getElem!_pos e x hx,getElem!_pos e a ha]
  simp[c250b5,c250r3,e0,e1,e4,e12,em,lH,hdat.alive,hdat.sz,hln,g1,g2,hx,ha,bG];refine⟨161,[],⟨rfl,rfl⟩,cN,?_⟩;refine aD.draw (sJ e[a] e[x] sa sx) (by simp[cell]) (by simp[cell]) (by simp) ?_
  by_cases hlt:ltS e[a] e[x]=true
  ·have hlt':e[a].1 - e[x].1<0:=by simp[ltS]at hlt;omega
   simp[hlt'];exact K _ (by simp[hh1]) (by simp;omega) (by simp[e0,h0]) (by simp[e1,h1]) (by simp[e2]) (by simp[e3]) (by simp[e4,h4]) (by simp[e12,htj]) (by rw[←hs,hstep];simp[em,hlt])
  ·have hlt':¬ e[a].1 - e[x].1<0:=by simp[ltS]at hlt;omega
   have hnx:Sort.scanUp p e j (x+1)=Sort.scanUp p e j i:=by rw[←hs,hstep];simp[hlt]
   simp[hlt',c250r4,em,hw];exact⟨_,by omega,x+1,rfl,by rw[←hs,hstep];simp[hlt],hh1,by omega,by simp[e0,h0],by simp[e1,h1],by simp[e2],by simp[e3],by simp[e4,h4],by simp[e12,htj],rfl⟩
 ·have lH:¬ (x:Int)≤j:=by omega
  have hstop:Sort.scanUp p e j x=x:=by
   rw[Sort.scanUp,if_neg];simp[hle]
  simp[c250b5,c250r3,e0,e1,e4,e12,em,lH];exact K _ (by simp[hh1]) (by simp;omega) (by simp[e0,h0]) (by simp[e1,h1]) (by simp[e2]) (by simp[e3]) (by simp[e4,h4]) (by simp[e12,htj]) (by rw[←hs,hstop];simp[em])
theorem aNL{n:Nat}{A:Exit→St→Prop}{ks:List KF}(id ver a i j:Nat)(tight:Bool)(h:Hp)(e:Array Sp)(hsz:e.size≤100000)(hse:∀ x∈e,small x)(st:St)(hh:st.heap=aR h id ver e)
  (h0:st.tmps 0= .one (.ref id ver 0 e.size 2 tight)) (h1:st.tmps 1= .one (.t (I a))) (h4:st.tmps 4= .one (.fn 161 [])) (hti:st.tmps 11= .one (.t (I i))) (htj:st.tmps 12= .one (.t (I j))) (ha:a<e.size) (hai:a<i) (hj:j<e.size) (p:Sp→Bool) (hp:p=(fun x=>ltS e[a]! x))
  (K:∀ st':St,st'.heap=st.heap→st.nx≤st'.nx→st'.tmps 0=st.tmps 0→st'.tmps 1=st.tmps 1→st'.tmps 2=st.tmps 2→st'.tmps 3=st.tmps 3→st'.tmps 4=st.tmps 4→st'.tmps 11=st.tmps 11→st'.tmps 12= .one (.t (I (Sort.scanDown p e i j:Nat)))→cS prog n A ks .normal st'):
  W prog n (.loop c250b8) (kont prog n A (.blk 4::ks)) st:=by
 refine W.dO (fun k st1=>∃ x:Nat,k=x+1∧x≤j∧Sort.scanDown p e i x=Sort.scanDown p e i j∧st1.heap=st.heap∧st.nx≤st1.nx∧st1.tmps 0=st.tmps 0∧st1.tmps 1=st.tmps 1∧st1.tmps 2=st.tmps 2∧st1.tmps 3=st.tmps 3∧st1.tmps 4=st.tmps 4∧st1.tmps 11=st.tmps 11∧st1.tmps 12= .one (.t (I x))) (j+1) ⟨j,rfl,Nat.le_refl _,rfl,rfl,Nat.le_refl _,rfl,rfl,rfl,rfl,rfl,rfl,htj⟩ ?_;rintro k st1 ⟨x,hk,hxj,hs,hh1,hn1,e0,e1,e2,e3,e4,e11,em⟩;have hdat:Data st1.heap id ver e:=by rw[hh1,hh];exact bD
 rw[h0]at e0;rw[h1]at e1;rw[h4]at e4;rw[hti]at e11
 by_cases hle:i≤x
 ·have hx:x<e.size:=by omega
  have lH:(i:Int)≤x:=by omega
  have hln:(st1.heap.rows id).length=e.size:=by rw[hdat.rows];simp
  have g1:=rowAt hdat hx;have g2:=rowAt hdat ha;have sx:small e[x]:=hse _ (Array.getElem_mem _);have sa:small e[a]:=hse _ (Array.getElem_mem _);have hw:IntKind.i64.wrap ((x:Int) - 1)=((x - 1:Nat):Int):=aH _ (by omega) (by omega)
  have hstep:Sort.scanDown p e i x=if ltS e[a] e[x]=true then Sort.scanDown p e i (x - 1)else x:=by
   obtain⟨y,rfl⟩:∃ y,x=y+1:=⟨x - 1,by omega⟩;rw[Sort.scanDown,hp];simp[hle,getElem!_pos e (y+1) hx,getElem!_pos e a ha]
  simp[c250b8,c250r5,e0,e1,e4,e11,em,lH,hdat.alive,hdat.sz,hln,g1,g2,hx,ha,bG];refine⟨161,[],⟨rfl,rfl⟩,cN,?_⟩;refine aD.draw (sJ e[a] e[x] sa sx) (by simp[cell]) (by simp[cell]) (by simp) ?_
  by_cases hlt:ltS e[a] e[x]=true
  ·have hlt':e[a].1 - e[x].1<0:=by simp[ltS]at hlt;omega
   have hnx:Sort.scanDown p e i (x - 1)=Sort.scanDown p e i j:=by rw[←hs,hstep];simp[hlt]
   simp[hlt',c250r6,em,hw];exact⟨_,by omega,x - 1,rfl,by omega,by rw[←hs,hstep];simp[hlt],hh1,by omega,by simp[e0,h0],by simp[e1,h1],by simp[e2],by simp[e3],by simp[e4,h4],by simp[e11,hti],rfl⟩
  ·have hlt':¬ e[a].1 - e[x].1<0:=by simp[ltS]at hlt;omega
   simp[hlt'];exact K _ (by simp[hh1]) (by simp;omega) (by simp[e0,h0]) (by simp[e1,h1]) (by simp[e2]) (by simp[e3]) (by simp[e4,h4]) (by simp[e11,hti]) (by rw[←hs,hstep];simp[em,hlt])
 ·have lH:¬ (i:Int)≤x:=by omega
  have hstop:Sort.scanDown p e i x=x:=by
   cases x with
   | zero=>rfl
   | succ y=>rw[Sort.scanDown,if_neg];simp[hle]
  simp[c250b8,c250r5,e0,e1,e4,e11,em,lH];exact K _ (by simp[hh1]) (by simp;omega) (by simp[e0,h0]) (by simp[e1,h1]) (by simp[e2]) (by simp[e3]) (by simp[e4,h4]) (by simp[e11,hti]) (by rw[←hs,hstop];simp[em])
theorem scans{p q:Sp→Bool}(hq:∀ x,q x= !p x){e:Array Sp}{i j:Nat}(hij:i≤j+1)(hi:0<i):
  i≤Sort.scanUp p e j i∧Sort.scanUp p e j i≤j+1∧Sort.scanDown q e (Sort.scanUp p e j i) j≤j∧Sort.scanUp p e j i≤Sort.scanDown q e (Sort.scanUp p e j i) j+1∧
   (¬Sort.scanUp p e j i>Sort.scanDown q e (Sort.scanUp p e j i) j→Sort.scanUp p e j i<Sort.scanDown q e (Sort.scanUp p e j i) j):=by
 obtain⟨a1,a2,a3,a4⟩:=Sort.scanUp_spec p e j _ i rfl;obtain⟨b1,b2,b3,b4⟩:=Sort.scanDown_spec q e (Sort.scanUp p e j i) j;generalize Sort.scanUp p e j i=i2 at*;generalize Sort.scanDown q e i2 j=j2 at*;refine⟨a1,a2 hij,b1,b2 (a2 hij),fun h=>?_⟩;rcases Nat.lt_or_ge i2 j2 with hlt | hge
 ·exact hlt
 ·have he:i2=j2:=by omega
  subst he;have h1:=a4 (by omega);have h2:=b4 (Nat.le_refl _) (by omega);rw[hq,h1]at h2;cases h2
theorem aNM(h:Hp)(n0 id ver a b pv:Nat)(tight:Bool)(d:Array Sp)(hd:Data h id ver d)(ho:aF h n0)(hid:id<n0)(hab:a<b)(hb:b≤d.size)(hpv:pv<d.size)(hsz:d.size≤100000)(hsm:∀ x∈d,small x):
  ISp prog 250 h n0 [.one (.ref id ver 0 d.size 2 tight),.one (.t (I a)),.one (.t (I b)),.one (.t (I pv)),.one (.fn 161 [])] (.one (.t (I (Sort.partitionEqual ltS d a b pv).1))) (aR h id ver (Sort.partitionEqual ltS d a b pv).2):=by
 refine k250.gJ (by simp) ?_;have qa:a<d.size:=by omega
 have hln:(h.rows id).length=d.size:=by rw[hd.rows];simp
 have g1:=rowAt hd qa;have g2:=rowAt hd hpv;have w1:IntKind.i64.wrap ((a:Int)+1)=((a+1:Nat):Int):=aH _ (by omega) (by omega);have w2:IntKind.i64.wrap ((b:Int) - 1)=((b - 1:Nat):Int):=aH _ (by omega) (by omega);have sh:=dT (h:=h) (g:=h) (d:=d) hd.self.symm qa hpv;simp[hln,hpv]at sh;simp[c250,c250r0,c250r1,c250r2,hd.alive,hd.sz,hd.open_,hln,g1,g2,qa,hpv,w1,w2,bG,dY];refine⟨bH _,bH _,?_⟩;rw[sh];have k0:Keeps d (Sort.swp d a pv):=Keeps.swp qa hpv
 refine W.dO (fun k st=>∃ (i j:Nat) (e:Array Sp),k=j+1 - i∧a<i∧i≤j+1∧j<d.size∧Keeps d e∧st.heap=aR h id ver e∧Sort.partEqLoop ltS a i j e=Sort.partitionEqual ltS d a b pv∧
  st.tmps 0= .one (.ref id ver 0 d.size 2 tight)∧st.tmps 1= .one (.t (I a))∧st.tmps 4= .one (.fn 161 [])∧st.tmps 11= .one (.t (I i))∧st.tmps 12= .one (.t (I j))) (b - 1+1 - (a+1))
  ⟨a+1,b - 1,_,rfl,by omega,by omega,by omega,k0,rfl,rfl,by simp,by simp,by simp,by simp,by simp⟩ ?_
 rintro k st ⟨i,j,e,hk,hai,hij,hjd,he,hh,hout,h0,h1,h4,h11,h12⟩;rw[Sort.partEqLoop_eq]at hout;obtain⟨p,hp⟩:∃ p:Sp→Bool,p=fun x=> !ltS e[a]! x:=⟨_,rfl⟩
 obtain⟨q,hq⟩:∃ q:Sp→Bool,q=fun x=>ltS e[a]! x:=⟨_,rfl⟩
 rw[←hp,←hq]at hout;obtain⟨s1,s2,s3,s4,s5⟩:=scans (p:=p) (q:=q) (e:=e) (i:=i) (j:=j) (fun x=>by rw[hp,hq];simp) hij (by omega);rw[←he.1]at h0;simp[c250b13];refine aSP id ver a i j tight h e (by rw[he.1];exact hsz) (he.2 hsm) _ hh h0 h1 h4 h11 h12 (by rw[he.1];exact qa) hai (by rw[he.1];exact hjd) p hp fun st1 z1 z2 z3 z4 z5 z6 z7 z8 z9=>?_
 obtain⟨i2,hi2⟩:∃ i2:Nat,i2=Sort.scanUp p e j i:=⟨_,rfl⟩;rw[←hi2]at z9 hout s1 s2 s3 s4 s5;simp;refine aNL id ver a i2 j tight h e (by rw[he.1];exact hsz) (he.2 hsm) _ (by rw[z1];exact hh) (by rw[z3];exact h0) (by rw[z4];exact h1) (by rw[z7];exact h4) z9 (by rw[z8];exact h12) (by rw[he.1];exact qa) (by omega) (by rw[he.1];exact hjd) q hq fun st2 y1 y2 y3 y4 y5 y6 y7 y8 y9=>?_
 obtain⟨j2,hj2⟩:∃ j2:Nat,j2=Sort.scanDown q e i2 j:=⟨_,rfl⟩;rw[←hj2]at y9 hout s3 s4 s5;have t0:st2.tmps 0= .one (.ref id ver 0 d.size 2 tight):=by rw[y3,z3,h0,he.1]
 have t1:st2.tmps 1= .one (.t (I a)):=by rw[y4,z4,h1]
 have t4:st2.tmps 4= .one (.fn 161 []):=by rw[y7,z7,h4]
 have t11:st2.tmps 11= .one (.t (I i2)):=by rw[y8,z9]
 have hh2:st2.heap=aR h id ver e:=by rw[y1,z1,hh]
 by_cases hgt:i2>j2
 ·rw[if_pos hgt]at hout;simp[c250r7,t11,y9,hgt,c250r11];rw[←hout];exact⟨.inr rfl,⟨by simp,by simp⟩,by simp,by simp,by simp,fun k hk=>by simp[hh2],(aF.put ho hid).above,(aF.put ho hid).below⟩
 ·rw[if_neg hgt]at hout;have hlt:=s5 hgt;have q1:i2<e.size:=by rw[he.1];omega
  have q2:j2<e.size:=by rw[he.1];omega
  have q1':i2<d.size:=by omega
  have q2':j2<d.size:=by omega
  have hdat:Data st2.heap id ver e:=by rw[hh2];exact bD
  have aDQ:(st2.heap.rows id).length=e.size:=by rw[hdat.rows];simp
  have g1:=rowAt hdat q1;have g2:=rowAt hdat q2;have w3:IntKind.i64.wrap ((i2:Int)+1)=((i2+1:Nat):Int):=aH _ (by omega) (by omega);have w4:IntKind.i64.wrap ((j2:Int) - 1)=((j2 - 1:Nat):Int):=aH _ (by omega) (by omega);have sh:=dT hh2 q1 q2;simp[aDQ,q2]at sh;simp[c250r7,c250r8,c250r9,c250r10,t0,t1,t4,t11,y9,hgt,w3,w4,hdat.alive,hdat.sz,hdat.open_,aDQ,g1,g2,q1,q2,q1',q2',bG,dY];exact⟨bH _,bH _,j2 - 1+1 - (i2+1),by omega,i2+1,j2 - 1,rfl,by omega,by omega,by omega,Sort.swp e i2 j2,he.trans (Keeps.swp q1 q2),sh,hout,rfl,rfl⟩
theorem aSQ(h:Hp)(n0 id ver a b pv:Nat)(tight:Bool)(d:Array Sp)(hd:Data h id ver d)(ho:aF h n0)(hid:id<n0)(hab:a<b)(hb:b≤d.size)(hpv:pv<d.size)(hsz:d.size≤100000)(hsm:∀ x∈d,small x):
  ISp prog 251 h n0 [.one (.ref id ver 0 d.size 2 tight),.one (.t (I a)),.one (.t (I b)),.one (.t (I pv)),.one (.fn 161 [])]
   (.tup [.one (.t (I (Sort.partition ltS d a b pv).1)),.one (.t (.bool (Sort.partition ltS d a b pv).2.1))]) (aR h id ver (Sort.partition ltS d a b pv).2.2):=by
 refine k251.gJ (by simp) ?_;have qa:a<d.size:=by omega
 have hln:(h.rows id).length=d.size:=by rw[hd.rows];simp
 have g1:=rowAt hd qa;have g2:=rowAt hd hpv;have w1:IntKind.i64.wrap ((a:Int)+1)=((a+1:Nat):Int):=aH _ (by omega) (by omega);have w2:IntKind.i64.wrap ((b:Int) - 1)=((b - 1:Nat):Int):=aH _ (by omega) (by omega);have sh:=dT (h:=h) (g:=h) (d:=d) hd.self.symm qa hpv;simp[hln,hpv]at sh;simp[c251,c251r0,c251r1,c251r2,hd.alive,hd.sz,hd.open_,hln,g1,g2,qa,hpv,w1,w2,bG,dY];refine⟨bH _,bH _,?_⟩;rw[sh];have k0:Keeps d (Sort.swp d a pv):=Keeps.swp qa hpv
 have hpart:Sort.partition ltS d a b pv=(if Sort.scanUp (fun x=>ltS x (Sort.swp d a pv)[a]!) (Sort.swp d a pv) (b - 1) (a+1)>Sort.scanDown (fun x=> !ltS x (Sort.swp d a pv)[a]!) (Sort.swp d a pv) (Sort.scanUp (fun x=>ltS x (Sort.swp d a pv)[a]!) (Sort.swp d a pv) (b - 1) (a+1)) (b - 1)
   then(Sort.scanDown (fun x=> !ltS x (Sort.swp d a pv)[a]!) (Sort.swp d a pv) (Sort.scanUp (fun x=>ltS x (Sort.swp d a pv)[a]!) (Sort.swp d a pv) (b - 1) (a+1)) (b - 1),true,Sort.swp (Sort.swp d a pv) (Sort.scanDown (fun x=> !ltS x (Sort.swp d a pv)[a]!) (Sort.swp d a pv) (Sort.scanUp (fun x=>ltS x (Sort.swp d a pv)[a]!) (Sort.swp d a pv) (b - 1) (a+1)) (b - 1)) a)
   else let r:=Sort.partLoop ltS a (Sort.scanUp (fun x=>ltS x (Sort.swp d a pv)[a]!) (Sort.swp d a pv) (b - 1) (a+1)+1) (Sort.scanDown (fun x=> !ltS x (Sort.swp d a pv)[a]!) (Sort.swp d a pv) (Sort.scanUp (fun x=>ltS x (Sort.swp d a pv)[a]!) (Sort.swp d a pv) (b - 1) (a+1)) (b - 1) - 1) (Sort.swp (Sort.swp d a pv) (Sort.scanUp (fun x=>ltS x (Sort.swp d a pv)[a]!) (Sort.swp d a pv) (b - 1) (a+1)) (Sort.scanDown (fun x=> !ltS x (Sort.swp d a pv)[a]!) (Sort.swp d a pv) (Sort.scanUp (fun x=>ltS x (Sort.swp d a pv)[a]!) (Sort.swp d a pv) (b - 1) (a+1)) (b - 1)))
    (r.1,false,Sort.swp r.2 r.1 a)):=rfl
 generalize Sort.swp d a pv=e at*;obtain⟨p,hp⟩:∃ p:Sp→Bool,p=fun x=>ltS x e[a]! :=⟨_,rfl⟩
 obtain⟨q,hq⟩:∃ q:Sp→Bool,q=fun x=> !ltS x e[a]! :=⟨_,rfl⟩
 rw[←hp,←hq]at hpart;obtain⟨s1,s2,s3,s4,s5⟩:=scans (p:=p) (q:=q) (e:=e) (i:=a+1) (j:=b - 1) (fun x=>by rw[hp,hq]) (by omega) (by omega);have hes:d.size=e.size:=k0.1.symm;refine aPU id ver a (a+1) (b - 1) tight h e (by omega) (k0.2 hsm) _ rfl (by simp[hes]) (by simp) (by simp) (by simp) (by simp) (by omega) (by omega) (by omega) p hp fun st1 z1 z2 z3 z4 z5 z6 z7 z8 z9=>?_
 obtain⟨i2,hi2⟩:∃ i2:Nat,i2=Sort.scanUp p e (b - 1) (a+1):=⟨_,rfl⟩;rw[←hi2]at z9 hpart s1 s2 s3 s4 s5;simp at z1 z2 z3 z4 z7 z8;simp;refine aKM id ver a i2 (b - 1) tight h e (by omega) (k0.2 hsm) _ z1 (by rw[z3,hes]) z4 z7 z9 (by rw[z8]) (by omega) (by omega) (by omega) q hq fun st2 y1 y2 y3 y4 y5 y6 y7 y8 y9=>?_
 obtain⟨j2,hj2⟩:∃ j2:Nat,j2=Sort.scanDown q e i2 (b - 1):=⟨_,rfl⟩;rw[←hj2]at y9 hpart s3 s4 s5;have t0:st2.tmps 0= .one (.ref id ver 0 d.size 2 tight):=by rw[y3,z3]
 have t1:st2.tmps 1= .one (.t (I a)):=by rw[y4,z4]
 have t4:st2.tmps 4= .one (.fn 161 []):=by rw[y7,z7]
 have t12:st2.tmps 12= .one (.t (I i2)):=by rw[y8,z9]
 have hh2:st2.heap=aR h id ver e:=by rw[y1,z1]
 have hdat:Data st2.heap id ver e:=by rw[hh2];exact bD
 have aDQ:(st2.heap.rows id).length=e.size:=by rw[hdat.rows];simp
 have qae:a<e.size:=by omega
 have q2:j2<e.size:=by omega
 have q2':j2<d.size:=by omega
 have ga:=rowAt hdat qae;have gj:=rowAt hdat q2;have hnx:n0≤st2.nx:=by omega
 by_cases hgt:i2>j2
 ·rw[if_pos hgt]at hpart;have sh:=dT hh2 q2 qae;simp[aDQ,qae]at sh;simp[c251r7,c251r8,c251r9,t0,t1,t12,y9,hgt,hdat.alive,hdat.sz,hdat.open_,aDQ,ga,gj,q2,q2',qa,qae,bG,dY];rw[sh,hpart];exact⟨bH _,bH _,.inr rfl,⟨by simp,by simp⟩,by simp,by simp,by simp,fun k hk=>rfl,(aF.put ho hid).above,(aF.put ho hid).below⟩
 ·rw[if_neg hgt]at hpart;have hlt:=s5 hgt;have q1:i2<e.size:=by omega
  have q1':i2<d.size:=by omega
  have gi:=rowAt hdat q1;have w3:IntKind.i64.wrap ((i2:Int)+1)=((i2+1:Nat):Int):=aH _ (by omega) (by omega);have w4:IntKind.i64.wrap ((j2:Int) - 1)=((j2 - 1:Nat):Int):=aH _ (by omega) (by omega);have sh:=dT hh2 q1 q2;simp[aDQ,q2]at sh;simp[c251r7,c251r10,c251r11,c251r12,t0,t12,y9,hgt,w3,w4,hdat.alive,hdat.sz,hdat.open_,aDQ,gi,gj,q1,q1',q2,q2',bG,dY];refine⟨bH _,bH _,?_⟩;rw[sh];have kE:Keeps d (Sort.swp e i2 j2):=k0.trans (Keeps.swp q1 q2);generalize Sort.swp e i2 j2=e1 at*;clear hp hq sh gi gj ga hdat aDQ y9 z9 t12 w3 w4
  refine W.dO (fun k st=>∃ (i j:Nat) (f:Array Sp),k=j+1 - i∧a<i∧i≤j+1∧j<d.size∧Keeps d f∧st.heap=aR h id ver f∧n0≤st.nx∧Sort.partLoop ltS a i j f=Sort.partLoop ltS a (i2+1) (j2 - 1) e1∧
   st.tmps 0= .one (.ref id ver 0 d.size 2 tight)∧st.tmps 1= .one (.t (I a))∧st.tmps 4= .one (.fn 161 [])∧st.tmps 12= .one (.t (I i))∧st.tmps 13= .one (.t (I j))) (j2 - 1+1 - (i2+1))
   ⟨i2+1,j2 - 1,e1,rfl,by omega,by omega,by omega,kE,rfl,by simp;omega,rfl,by simp[t0],by simp[t1],by simp[t4],by simp,by simp⟩ ?_
  rintro k st ⟨i,j,f,hk,hai,hij,hjd,he,hh,hnx3,hout,h0,h1,h4,h12,h13⟩;rw[Sort.partLoop_eq]at hout;obtain⟨p,hp⟩:∃ p:Sp→Bool,p=fun x=>ltS x f[a]! :=⟨_,rfl⟩
  obtain⟨q,hq⟩:∃ q:Sp→Bool,q=fun x=> !ltS x f[a]! :=⟨_,rfl⟩
  rw[←hp,←hq]at hout;obtain⟨s1,s2,s3,s4,s5⟩:=scans (p:=p) (q:=q) (e:=f) (i:=i) (j:=j) (fun x=>by rw[hp,hq]) hij (by omega);rw[←he.1]at h0;simp[c251b25];refine aPV id ver a i j tight h f (by rw[he.1];exact hsz) (he.2 hsm) _ hh h0 h1 h4 h12 h13 (by rw[he.1];exact qa) hai (by rw[he.1];exact hjd) p hp fun st3 z1 z2 z3 z4 z5 z6 z7 z8 z9=>?_
  obtain⟨i3,hi3⟩:∃ i3:Nat,i3=Sort.scanUp p f j i:=⟨_,rfl⟩;rw[←hi3]at z9 hout s1 s2 s3 s4 s5;simp;refine aKN id ver a i3 j tight h f (by rw[he.1];exact hsz) (he.2 hsm) _ (by rw[z1];exact hh) (by rw[z3];exact h0) (by rw[z4];exact h1) (by rw[z7];exact h4) z9 (by rw[z8];exact h13) (by rw[he.1];exact qa) (by omega) (by rw[he.1];exact hjd) q hq fun st4 y1 y2 y3 y4 y5 y6 y7 y8 y9=>?_
  obtain⟨j3,hj3⟩:∃ j3:Nat,j3=Sort.scanDown q f i3 j:=⟨_,rfl⟩;rw[←hj3]at y9 hout s3 s4 s5;have t0:st4.tmps 0= .one (.ref id ver 0 d.size 2 tight):=by rw[y3,z3,h0,he.1]
  have t1:st4.tmps 1= .one (.t (I a)):=by rw[y4,z4,h1]
  have t4:st4.tmps 4= .one (.fn 161 []):=by rw[y7,z7,h4]
  have t12:st4.tmps 12= .one (.t (I i3)):=by rw[y8,z9]
  have hh4:st4.heap=aR h id ver f:=by rw[y1,z1,hh]
  have hdat:Data st4.heap id ver f:=by rw[hh4];exact bD
  have aNN:(st4.heap.rows id).length=f.size:=by rw[hdat.rows];simp
  have hfs:f.size=d.size:=he.1;have q2:j3<f.size:=by omega
  have q2':j3<d.size:=by omega
  have qaf:a<f.size:=by omega
  have gj:=rowAt hdat q2
  by_cases hgt:i3>j3
  ·rw[if_pos hgt]at hout;have ga:=rowAt hdat qaf;have sh:=dT hh4 q2 qaf;simp[aNN,qaf]at sh;simp[c251r17,c251r21,c251r22,t0,t1,t12,y9,hgt,hdat.alive,hdat.sz,hdat.open_,aNN,ga,gj,q2,q2',qa,qaf,bG,dY];rw[sh,hpart,←hout];exact⟨bH _,bH _,.inr rfl,⟨by simp,by simp⟩,by simp,by simp,by simp,fun k hk=>rfl,(aF.put ho hid).above,(aF.put ho hid).below⟩
  ·rw[if_neg hgt]at hout;have hlt:=s5 hgt;have q1:i3<f.size:=by omega
   have q1':i3<d.size:=by omega
   have gi:=rowAt hdat q1;have w3:IntKind.i64.wrap ((i3:Int)+1)=((i3+1:Nat):Int):=aH _ (by omega) (by omega);have w4:IntKind.i64.wrap ((j3:Int) - 1)=((j3 - 1:Nat):Int):=aH _ (by omega) (by omega);have sh:=dT hh4 q1 q2;simp[aNN,q2]at sh;simp[c251r17,c251r18,c251r19,c251r20,t0,t1,t4,t12,y9,hgt,w3,w4,hdat.alive,hdat.sz,hdat.open_,aNN,gi,gj,q1,q2,q1',q2',bG,dY];exact⟨bH _,bH _,j3 - 1+1 - (i3+1),by omega,i3+1,j3 - 1,rfl,by omega,by omega,by omega,Sort.swp f i3 j3,he.trans (Keeps.swp q1 q2),sh,by omega,hout,rfl,rfl⟩
structure Kept (st st':St):Prop where
 nx:st.nx≤st'.nx
 t0:st'.tmps 0=st.tmps 0
 t1:st'.tmps 1=st.tmps 1
 t2:st'.tmps 2=st.tmps 2
 t3:st'.tmps 3=st.tmps 3
 t10:st'.tmps 10=st.tmps 10
theorem aFT{n:Nat}{A:Exit→St→Prop}{ks:List KF}(id ver b i:Nat)(tight:Bool)(h:Hp)(e:Array Sp)(hsz:e.size≤100000)(hse:∀ x∈e,small x)(st:St)(hh:st.heap=aR h id ver e)
  (h0:st.tmps 0= .one (.ref id ver 0 e.size 2 tight)) (h2:st.tmps 2= .one (.t (I b))) (h3:st.tmps 3= .one (.fn 161 [])) (h9:st.tmps 9= .one (.t (I i))) (hi:0<i) (hb:b≤e.size) (_hib:i≤b)
  (K:∀ st':St,st'.heap=st.heap→Kept st st'→st'.tmps 9= .one (.t (I (Sort.scanSorted ltS e b i:Nat)))→cS prog n A ks .normal st'):
  W prog n (.loop c249b6) (kont prog n A (.blk 2::ks)) st:=by
 refine W.dO (fun k st1=>∃ x:Nat,k=b - x∧i≤x∧Sort.scanSorted ltS e b x=Sort.scanSorted ltS e b i∧st1.heap=st.heap∧Kept st st1∧st1.tmps 9= .one (.t (I x))) (b - i) ⟨i,rfl,Nat.le_refl _,rfl,rfl,⟨Nat.le_refl _,rfl,rfl,rfl,rfl,rfl⟩,h9⟩ ?_;rintro k st1 ⟨x,hk,hix,hs,hh1,kp,e9⟩;have hdat:Data st1.heap id ver e:=by rw[hh1,hh];exact bD
 have e0:=kp.t0;have e2:=kp.t2;have e3:=kp.t3;rw[h0]at e0;rw[h2]at e2;rw[h3]at e3
 by_cases hlt:x<b
 ·obtain⟨y,hy⟩:∃ y:Nat,y=x - 1:=⟨_,rfl⟩;have hx:x<e.size:=by omega
  have hy':y<e.size:=by omega
  have hln:(st1.heap.rows id).length=e.size:=by rw[hdat.rows];simp
  have g1:=rowAt hdat hx;have g2:=rowAt hdat hy';have sx:small e[x]:=hse _ (Array.getElem_mem _);have sy:small e[y]:=hse _ (Array.getElem_mem _);have hw:IntKind.i64.wrap ((x:Int)+1)=((x+1:Nat):Int):=aH _ (by omega) (by omega);have hw2:IntKind.i64.wrap ((x:Int) - 1)=(y:Int):=aH _ (by omega) (by omega)
  have hstep:Sort.scanSorted ltS e b x=if ¬ltS e[x] e[y]=true then Sort.scanSorted ltS e b (x+1)else x:=by
   rw[Sort.scanSorted];simp[hlt,←hy,getElem!_pos e x hx,getElem!_pos e y hy']
  have gF:(x:Int)<b:=by omega
  simp[c249b6,c249r5,e0,e2,e3,e9,gF,hw2,hdat.alive,hdat.sz,hln,g1,g2,hx,hy',bG];refine⟨161,[],⟨rfl,rfl⟩,cN,?_⟩;refine aD.draw (sJ e[x] e[y] sx sy) (by simp[cell]) (by simp[cell]) (by simp) ?_
  by_cases hl:ltS e[x] e[y]=true
  ·have hl':e[x].1 - e[y].1<0:=by simp[ltS]at hl;omega
   simp[hl'];exact K _ (by simp[hh1]) ⟨by simp;have:=kp.nx;omega,by simp[kp.t0],by simp[kp.t1],by simp[kp.t2],by simp[kp.t3],by simp[kp.t10]⟩ (by rw[←hs,hstep];simp[e9,hl])
  ·have hl':¬ e[x].1 - e[y].1<0:=by simp[ltS]at hl;omega
   simp[hl',c249r6,e9,hw];exact⟨_,by omega,x+1,rfl,by omega,by rw[←hs,hstep];simp[hl],hh1,⟨by simp;have:=kp.nx;omega,by simp[kp.t0],by simp[kp.t1],by simp[kp.t2],by simp[kp.t3],by simp[kp.t10]⟩,rfl⟩
 ·have gF:¬ (x:Int)<b:=by omega
  have hstop:Sort.scanSorted ltS e b x=x:=by rw[Sort.scanSorted,if_neg];simp[hlt]
  simp[c249b6,c249r5,e0,e2,e3,e9,gF];exact K _ (by simp[hh1]) ⟨by simp;have:=kp.nx;omega,by simp[kp.t0],by simp[kp.t1],by simp[kp.t2],by simp[kp.t3],by simp[kp.t10]⟩ (by rw[←hs,hstop];simp[e9])
theorem yF{n:Nat}{A:Exit→St→Prop}{ks:List KF}(id ver j:Nat)(tight:Bool)(h:Hp)(d0:Array Sp)(hsz:d0.size≤100000)(hse:∀ x∈d0,small x)(st:St)(hh:st.heap=aR h id ver d0)
  (h0:st.tmps 0= .one (.ref id ver 0 d0.size 2 tight)) (h3:st.tmps 3= .one (.fn 161 [])) (h11:st.tmps 11= .one (.t (I j))) (hj:j<d0.size)
  (K:∀ st':St,st'.heap=aR h id ver (Sort.shiftDown ltS j d0)→Kept st st'→st'.tmps 9=st.tmps 9→cS prog n A ks .normal st'):
  W prog n (.loop c249b18) (kont prog n A (.blk 4::ks)) st:=by
 refine W.dO (fun k st1=>∃ e:Array Sp,k≤j∧Keeps d0 e∧Sort.shiftDown ltS k e=Sort.shiftDown ltS j d0∧st1.heap=aR h id ver e∧Kept st st1∧st1.tmps 9=st.tmps 9∧st1.tmps 11= .one (.t (I k))) j ⟨d0,Nat.le_refl _,.refl _,rfl,hh,⟨Nat.le_refl _,rfl,rfl,rfl,rfl,rfl⟩,rfl,h11⟩ ?_;rintro k st1 ⟨e,hk,he,hs,hh1,kp,e9,e11⟩;have hdat:Data st1.heap id ver e:=by rw[hh1];exact bD
 have e0:=kp.t0;have e3:=kp.t3;rw[h0]at e0;rw[h3]at e3;cases k with
 | zero=>
  simp[c249b18,c249r14,e11];exact K _ (by rw[←hs];simp[hh1];rfl) ⟨by simp;have:=kp.nx;omega,by simp[kp.t0],by simp[kp.t1],by simp[kp.t2],by simp[kp.t3],by simp[kp.t10]⟩ (by simp[e9])
 | succ y=>
  obtain⟨x,hx0⟩:∃ x:Nat,x=y+1:=⟨_,rfl⟩;have hstep:Sort.shiftDown ltS (y+1) e=if ¬ltS e[x]! e[y]! =true then e else Sort.shiftDown ltS y (Sort.swp e x y):=by rw[Sort.shiftDown,hx0];simp
  rw[←hx0]at e11;have hes:=he.1;have hx:x<e.size:=by omega
  have hy':y<e.size:=by omega
  have hx':x<d0.size:=by omega
  have hy'':y<d0.size:=by omega
  have hln:(st1.heap.rows id).length=e.size:=by rw[hdat.rows];simp
  have g1:=rowAt hdat hx;have g2:=rowAt hdat hy';have sx:small e[x]:=he.2 hse _ (Array.getElem_mem _);have sy:small e[y]:=he.2 hse _ (Array.getElem_mem _);have hw2:IntKind.i64.wrap ((x:Int) - 1)=(y:Int):=aH _ (by omega) (by omega);have h1I:(1:Int)≤x:=by omega
  rw[getElem!_pos e x hx,getElem!_pos e y hy']at hstep;have sh:=dT hh1 hx hy';simp[hln,hy']at sh;simp[c249b18,c249r14,c249r16,e0,e3,e11,h1I,hw2,hdat.alive,hdat.sz,hln,g1,g2,hx,hy',hx',hy'',bG];refine⟨161,[],⟨rfl,rfl⟩,cN,?_⟩;refine aD.draw (sJ e[x] e[y] sx sy) (by simp[cell]) (by simp[cell]) (by simp) ?_
  by_cases hl:ltS e[x] e[y]=true
  ·have hl':e[x].1 - e[y].1<0:=by simp[ltS]at hl;omega
   simp[hl',c249r17,c249r15,e0,e11,hw2,hdat.alive,hdat.sz,hdat.open_,hln,g1,g2,hx,hy',hx',hy'',bG,dY];refine⟨bH _,bH _,y,by omega,by omega,Sort.swp e x y,he.trans (Keeps.swp hx hy'),?_,sh,⟨by simp;have:=kp.nx;omega,by simp[kp.t0],by simp[kp.t1],by simp[kp.t2],by simp[kp.t3],by simp[kp.t10]⟩,e9,rfl⟩;rw[←hs,hstep];simp[hl]
  ·have hl':¬ e[x].1 - e[y].1<0:=by simp[ltS]at hl;omega
   simp[hl'];exact K _ (by rw[←hs,hstep];simp[hh1,hl]) ⟨by simp;have:=kp.nx;omega,by simp[kp.t0],by simp[kp.t1],by simp[kp.t2],by simp[kp.t3],by simp[kp.t10]⟩ (by simp[e9])
theorem aDR{n:Nat}{A:Exit→St→Prop}{ks:List KF}(id ver b j:Nat)(tight:Bool)(h:Hp)(d0:Array Sp)(hsz:d0.size≤100000)(hse:∀ x∈d0,small x)(st:St)(hh:st.heap=aR h id ver d0)
  (h0:st.tmps 0= .one (.ref id ver 0 d0.size 2 tight)) (h2:st.tmps 2= .one (.t (I b))) (h3:st.tmps 3= .one (.fn 161 [])) (h12:st.tmps 12= .one (.t (I j))) (hj:0<j) (hb:b≤d0.size)
  (K:∀ st':St,st'.heap=aR h id ver (Sort.shiftUp ltS b j d0)→Kept st st'→st'.tmps 9=st.tmps 9→cS prog n A ks .normal st'):
  W prog n (.loop c249b25) (kont prog n A (.blk 6::ks)) st:=by
 refine W.dO (fun k st1=>∃ (x:Nat) (e:Array Sp),k=b - x∧0<x∧Keeps d0 e∧Sort.shiftUp ltS b x e=Sort.shiftUp ltS b j d0∧st1.heap=aR h id ver e∧Kept st st1∧st1.tmps 9=st.tmps 9∧st1.tmps 12= .one (.t (I x))) (b - j) ⟨j,d0,rfl,hj,.refl _,rfl,hh,⟨Nat.le_refl _,rfl,rfl,rfl,rfl,rfl⟩,rfl,h12⟩ ?_;rintro k st1 ⟨x,e,hk,hx0,he,hs,hh1,kp,e9,e12⟩;have hdat:Data st1.heap id ver e:=by rw[hh1];exact bD
 have e0:=kp.t0;have e2:=kp.t2;have e3:=kp.t3;rw[h0]at e0;rw[h2]at e2;rw[h3]at e3
 by_cases hlt:x<b
 ·obtain⟨y,hy⟩:∃ y:Nat,y=x - 1:=⟨_,rfl⟩;have hstep:Sort.shiftUp ltS b x e=if ¬ltS e[x]! e[y]! =true then e else Sort.shiftUp ltS b (x+1) (Sort.swp e x y):=by rw[Sort.shiftUp,hy];simp[hlt]
  have hes:=he.1;have hx:x<e.size:=by omega
  have hy':y<e.size:=by omega
  have hx':x<d0.size:=by omega
  have hy'':y<d0.size:=by omega
  have hln:(st1.heap.rows id).length=e.size:=by rw[hdat.rows];simp
  have g1:=rowAt hdat hx;have g2:=rowAt hdat hy';have sx:small e[x]:=he.2 hse _ (Array.getElem_mem _);have sy:small e[y]:=he.2 hse _ (Array.getElem_mem _);have hw2:IntKind.i64.wrap ((x:Int) - 1)=(y:Int):=aH _ (by omega) (by omega);have hw:IntKind.i64.wrap ((x:Int)+1)=((x+1:Nat):Int):=aH _ (by omega) (by omega);have gF:(x:Int)<b:=by omega
  rw[getElem!_pos e x hx,getElem!_pos e y hy']at hstep;have sh:=dT hh1 hx hy';simp[hln,hy']at sh;simp[c249b25,c249r20,c249r22,e0,e2,e3,e12,gF,hw2,hdat.alive,hdat.sz,hln,g1,g2,hx,hy',hx',hy'',bG];refine⟨161,[],⟨rfl,rfl⟩,cN,?_⟩;refine aD.draw (sJ e[x] e[y] sx sy) (by simp[cell]) (by simp[cell]) (by simp) ?_
  by_cases hl:ltS e[x] e[y]=true
  ·have hl':e[x].1 - e[y].1<0:=by simp[ltS]at hl;omega
   simp[hl',c249r23,c249r21,e0,e12,hw,hw2,hdat.alive,hdat.sz,hdat.open_,hln,g1,g2,hx,hy',hx',hy'',bG,dY];refine⟨bH _,bH _,b - (x+1),by omega,x+1,rfl,by omega,Sort.swp e x y,he.trans (Keeps.swp hx hy'),?_,sh,⟨by simp;have:=kp.nx;omega,by simp[kp.t0],by simp[kp.t1],by simp[kp.t2],by simp[kp.t3],by simp[kp.t10]⟩,e9,rfl⟩;rw[←hs,hstep];simp[hl]
  ·have hl':¬ e[x].1 - e[y].1<0:=by simp[ltS]at hl;omega
   simp[hl'];exact K _ (by rw[←hs,hstep];simp[hh1,hl]) ⟨by simp;have:=kp.nx;omega,by simp[kp.t0],by simp[kp.t1],by simp[kp.t2],by simp[kp.t3],by simp[kp.t10]⟩ (by simp[e9])
 ·have gF:¬ (x:Int)<b:=by omega
  have hstop:Sort.shiftUp ltS b x e=e:=by rw[Sort.shiftUp,if_neg hlt]
  simp[c249b25,c249r20,e2,e12,gF];exact K _ (by rw[←hs,hstop];simp[hh1]) ⟨by simp;have:=kp.nx;omega,by simp[kp.t0],by simp[kp.t1],by simp[kp.t2],by simp[kp.t3],by simp[kp.t10]⟩ (by simp[e9])
theorem jF(b:Nat)(e:Array Sp):∀ (k i:Nat),b - i=k→i≤b→i≤Sort.scanSorted ltS e b i∧Sort.scanSorted ltS e b i≤b
 | 0,i,hk,hi=>by rw[Sort.scanSorted,if_neg (by simp;omega)];omega
 | k+1,i,hk,hi=>by
  rw[Sort.scanSorted];split
  ·have:=jF b e k (i+1) (by omega) (by omega);omega
  ·omega
theorem kD:∀ (j:Nat) (d:Array Sp),j<d.size→Keeps d (Sort.shiftDown ltS j d)
 | 0,d,_=> .refl d
 | j+1,d,h=>by
  rw[Sort.shiftDown];split
  ·exact .refl d
  ·exact(Keeps.swp h (by omega)).trans (kD j _ (by rw[swp_size];omega))
theorem mB(b:Nat):∀ (k j:Nat) (d:Array Sp),b - j=k→b≤d.size→Keeps d (Sort.shiftUp ltS b j d)
 | 0,j,d,hk,_=>by rw[Sort.shiftUp,if_neg (by omega)];exact .refl d
 | k+1,j,d,hk,hb=>by
  rw[Sort.shiftUp];split
  ·split
   ·exact .refl d
   ·exact(Keeps.swp (by omega) (by omega)).trans (mB b k (j+1) _ (by omega) (by rw[swp_size];omega))
  ·exact .refl d
theorem aDS(h:Hp)(n0 id ver a b:Nat)(tight:Bool)(d:Array Sp)(hd:Data h id ver d)(ho:aF h n0)(hid:id<n0)(hab:a<b)(hb:b≤d.size)(hsz:d.size≤100000)(hsm:∀ x∈d,small x):
  ISp prog 249 h n0 [.one (.ref id ver 0 d.size 2 tight),.one (.t (I a)),.one (.t (I b)),.one (.fn 161 [])]
   (.one (.t (.bool (Sort.partialInsertionSort ltS d a b).2))) (aR h id ver (Sort.partialInsertionSort ltS d a b).1):=by
 refine k249.gJ (by simp) ?_;have w1:IntKind.i64.wrap ((a:Int)+1)=((a+1:Nat):Int):=aH _ (by omega) (by omega);simp[c249,c249r0,c249r1,c249r2,w1]
 refine W.dO (fun k st=>∃ (i:Nat) (e:Array Sp),k≤5∧a<i∧i≤b∧Keeps d e∧st.heap=aR h id ver e∧n0≤st.nx∧Sort.partialIns ltS a b k i e=Sort.partialInsertionSort ltS d a b∧
  st.tmps 0= .one (.ref id ver 0 d.size 2 tight)∧st.tmps 1= .one (.t (I a))∧st.tmps 2= .one (.t (I b))∧st.tmps 3= .one (.fn 161 [])∧st.tmps 9= .one (.t (I i))∧st.tmps 10= .one (.t (I (5 - (k:Int))))) 5
  ⟨a+1,d,Nat.le_refl _,by omega,by omega,.refl _,hd.self.symm,by simp<;>omega,rfl,by simp,by simp,by simp,by simp,by simp,by simp⟩ ?_
 rintro k st ⟨i,e,hk,hai,hib,he,hh,hnx,hout,h0,h1,h2,h3,h9,h10⟩;cases k with
 | zero=>
  simp[c249b27,c249r3,h10,c249r24];rw[←hout];exact⟨.inr rfl,⟨by simp,by simp⟩,by simp[Sort.partialIns],by simp[Sort.partialIns],by simp,fun j hj=>by simp[hh,Sort.partialIns],(aF.put ho hid).above,(aF.put ho hid).below⟩
 | succ s=>
  have h5:(5:Int) - ((s+1:Nat):Int)<5:=by omega
  have h5':(5:Int) - ((s:Int)+1)<5:=by omega
  have ws:IntKind.i64.wrap ((5:Int) - ((s:Int)+1)+1)=5 - (s:Int):=by rw[wrap_i64 (by omega) (by omega)];omega
  have hes:=he.1
  have fin:∀ (r:Bool) (f:Array Sp) (st':St),(f,r)=Sort.partialInsertionSort ltS d a b→st'.heap=aR h id ver f→st'.tmps 8= .one (.t (.bool r))→fX [.tmp 8] (.one (.t (.bool (Sort.partialInsertionSort ltS d a b).2))) (aR h id ver (Sort.partialInsertionSort ltS d a b).1) n0 .ret st':=by
   intro r f st' e1 e2 e3;rw[←e1];exact⟨.inr rfl,⟨by simp,by simp⟩,by simp[e3],by simp[e3],by simp[e3],fun j hj=>by simp[e2],(aF.put ho hid).above,(aF.put ho hid).below⟩
  rw[Sort.partialIns]at hout;obtain⟨i2,hi2⟩:∃ i2:Nat,i2=Sort.scanSorted ltS e b i:=⟨_,rfl⟩;obtain⟨r1,r2⟩:=jF b e _ i rfl hib;rw[←hi2]at r1 r2;simp only[←hi2]at hout;rw[←hes]at h0;simp[c249b27,c249r3,h10,h5'];refine aFT id ver b i tight h e (by omega) (he.2 hsm) _ (by simp[hh]) (by simp[h0]) (by simp[h2]) (by simp[h3]) (by simp[h9]) (by omega) (by omega) hib fun st1 z1 kp z9=>?_
  rw[←hi2]at z9;have t0:=kp.t0;have t1:=kp.t1;have t2:=kp.t2;have t3:=kp.t3;have t10:=kp.t10;have tn:=kp.nx;simp[h0,h1,h2,h3,h10]at t0 t1 t2 t3 t10 tn;simp[hh]at z1
  by_cases aPW:i2=b
  ·rw[if_pos aPW]at hout;simp[c249r7,z9,t2,aPW,c249r8];exact fin true e _ hout (by simp[z1]) (by simp)
  ·rw[if_neg aPW]at hout;have aSR:¬ (i2:Int)=b:=by omega
   have wl:IntKind.i64.wrap ((b:Int) - a)=((b - a:Nat):Int):=aH _ (by omega) (by omega)
   by_cases h50:b - a<50
   ·rw[if_pos h50]at hout;have aPX:(((b - a:Nat):Int))<50:=by omega
    simp[c249r7,z9,t1,t2,aSR,c249r9,wl,aPX,c249r10];exact fin false e _ hout (by simp[z1]) (by simp)
   ·rw[if_neg h50]at hout;have aPX:¬ (((b - a:Nat):Int))<50:=by omega
    obtain⟨y,hy⟩:∃ y:Nat,y=i2 - 1:=⟨_,rfl⟩;rw[←hy]at hout;have q1:i2<e.size:=by omega
    have q2:y<e.size:=by omega
    have q1':i2<d.size:=by omega
    have q2':y<d.size:=by omega
    have hdat:Data st1.heap id ver e:=by rw[z1];exact bD
    have hln:(st1.heap.rows id).length=e.size:=by rw[hdat.rows];simp
    have g1:=rowAt hdat q1;have g2:=rowAt hdat q2;have wy:IntKind.i64.wrap ((i2:Int) - 1)=(y:Int):=aH _ (by omega) (by omega);have wia:IntKind.i64.wrap ((i2:Int) - a)=((i2 - a:Nat):Int):=aH _ (by omega) (by omega);have wbi:IntKind.i64.wrap ((b:Int) - i2)=((b - i2:Nat):Int):=aH _ (by omega) (by omega);have wi1:IntKind.i64.wrap ((i2:Int)+1)=((i2+1:Nat):Int):=aH _ (by omega) (by omega);have sh:=dT z1 q1 q2;simp[hln,q2]at sh;have k1:Keeps d (Sort.swp e i2 y):=he.trans (Keeps.swp q1 q2);simp[c249r7,z9,t0,t1,t2,aSR,c249r9,wl,aPX,c249r11,wy,hdat.alive,hdat.sz,hdat.open_,hln,g1,g2,q1,q2,bG,dY];refine⟨bH _,bH _,?_⟩;rw[sh];generalize Sort.swp e i2 y=e1 at*
    -- the greater one to the right
    have last:∀ (J:St→Prop) (f:Array Sp) (tm:Nat→D) (nx:Nat) (g:Hp),Keeps d f→g=aR h id ver f→n0≤nx→tm 0= .one (.ref id ver 0 d.size 2 tight)→tm 1= .one (.t (I a))→tm 2= .one (.t (I b))→tm 3= .one (.fn 161 [])→tm 9= .one (.t (I i2))→tm 10= .one (.t (I (5 - ((s:Int)+1))))→
      (∀st':St,st'.heap=aR h id ver (if b - i2≥2 then Sort.shiftUp ltS b (i2+1) f else f)→n0≤st'.nx→st'.tmps 0= .one (.ref id ver 0 d.size 2 tight)→st'.tmps 1= .one (.t (I a))→st'.tmps 2= .one (.t (I b))→st'.tmps 3= .one (.fn 161 [])→st'.tmps 9= .one (.t (I i2))→st'.tmps 10= .one (.t (I (5 - (s:Int))))→J st')→
      aY prog 141 (fX [.tmp 8] (.one (.t (.bool (Sort.partialInsertionSort ltS d a b).2))) (aR h id ver (Sort.partialInsertionSort ltS d a b).1) n0) (.seq (.region 18 false 4 c249r18) (.cond (X.tmp 104) (.seq (.region 19 false 3 c249r19) (.block 6 (.loop c249b25))) .skip)) [.blk 1,.thn (.region 4 false 3 c249r4),.post J,.blk 0,.thn (.seq (.region 24 false 1 c249r24) .ret)] ⟨tm,g,nx⟩:=by
     intro J f tm nx g kf hg hnx' u0 u1 u2 u3 u9 u10 hJ
     by_cases h2b:b - i2≥2
     ·have h2I:(2:Int)≤((b - i2:Nat):Int):=by omega
      rw[←kf.1]at u0;simp[c249r18,u2,u9,wbi,h2I,c249r19,wi1];refine aDR id ver b (i2+1) tight h f (by rw[kf.1];exact hsz) (kf.2 hsm) _ (by simp[hg]) (by simp[u0]) (by simp[u2]) (by simp[u3]) (by simp) (by omega) (by rw[kf.1];exact hb) fun st3 v1 kp3 v9=>?_
      have v0:=kp3.t0;have v1':=kp3.t1;have v2:=kp3.t2;have v3:=kp3.t3;have v10:=kp3.t10;have vn:=kp3.nx;simp[u0,u1,u2,u3,u9,u10]at v0 v1' v2 v3 v9 v10 vn;simp[c249r4,v10,ws];exact hJ _ (by simp[v1,h2b]) (by simp;omega) (by simp[v0,kf.1]) (by simp[v1']) (by simp[v2]) (by simp[v3]) (by simp[v9]) (by simp)
     ·have h2I:¬ (2:Int)≤((b - i2:Nat):Int):=by omega
      simp[c249r18,u2,u9,u10,wbi,h2I,c249r4,ws];exact hJ _ (by simp[hg,h2b]) (by simp;omega) (by simp[u0]) (by simp[u1]) (by simp[u2]) (by simp[u3]) (by simp[u9]) (by simp)
    have xG:∀ (f:Array Sp),Keeps d f→f=(if i2 - a≥2 then Sort.shiftDown ltS y e1 else e1)→∀st':St,st'.heap=aR h id ver (if b - i2≥2 then Sort.shiftUp ltS b (i2+1) f else f)→n0≤st'.nx→st'.tmps 0= .one (.ref id ver 0 d.size 2 tight)→st'.tmps 1= .one (.t (I a))→st'.tmps 2= .one (.t (I b))→st'.tmps 3= .one (.fn 161 [])→st'.tmps 9= .one (.t (I i2))→st'.tmps 10= .one (.t (I (5 - (s:Int))))→
      ∃k',k'<s+1∧∃(i:Nat) (e:Array Sp),k'≤5∧a<i∧i≤b∧Keeps d e∧st'.heap=aR h id ver e∧n0≤st'.nx∧Sort.partialIns ltS a b k' i e=Sort.partialInsertionSort ltS d a b∧
       st'.tmps 0= .one (.ref id ver 0 d.size 2 tight)∧st'.tmps 1= .one (.t (I a))∧st'.tmps 2= .one (.t (I b))∧st'.tmps 3= .one (.fn 161 [])∧st'.tmps 9= .one (.t (I i))∧st'.tmps 10= .one (.t (I (5 - (k':Int)))):=by
     intro f kf hf st' u1 u2 u3 u4 u5 u6 u7 u8;refine⟨s,by omega,i2,_,by omega,by omega,by omega,?_,u1,u2,?_,u3,u4,u5,u6,u7,u8⟩
     ·split
      ·exact kf.trans (mB b _ _ f rfl (by rw[kf.1];exact hb))
      ·exact kf
     ·rw[hf];exact hout
    by_cases h2a:i2 - a≥2
    ·have h2I:(2:Int)≤((i2 - a:Nat):Int):=by omega
     have k2:Keeps d (Sort.shiftDown ltS y e1):=k1.trans (kD y e1 (by rw[k1.1];omega));simp[c249r12,t1,z9,wia,h2I,c249r13,wy];refine yF id ver y tight h e1 (by rw[k1.1];exact hsz) (k1.2 hsm) _ (by simp) (by simp[t0,k1.1,hes]) (by simp[t3]) (by simp) (by rw[k1.1];omega) fun st3 v1 kp3 v9=>?_
     have v0:=kp3.t0;have v1':=kp3.t1;have v2:=kp3.t2;have v3:=kp3.t3;have v10:=kp3.t10;have vn:=kp3.nx;simp[t0,t1,t2,t3,t10,z9]at v0 v1' v2 v3 v9 v10 vn;simp;exact last _ (Sort.shiftDown ltS y e1) _ _ _ k2 v1 (by omega) (by rw[v0,hes]) v1' v2 v3 v9 (by rw[v10]) (fun st' u1 u2 u3 u4 u5 u6 u7 u8=>by simpa using xG _ k2 (by rw[if_pos h2a]) st' u1 u2 u3 u4 u5 u6 u7 u8)
    ·have h2I:¬ (2:Int)≤((i2 - a:Nat):Int):=by omega
     simp[c249r12,t1,z9,wia,h2I];exact last _ e1 _ _ _ k1 rfl (by omega) (by rw[←hes];exact t0) t1 t2 t3 z9 t10 (fun st' u1 u2 u3 u4 u5 u6 u7 u8=>by simpa using xG _ k1 (by rw[if_neg h2a]) st' u1 u2 u3 u4 u5 u6 u7 u8)
theorem sK:Sort.SWO ltS where
 irrefl:=fun x=>by simp[ltS]
 trans:=fun x y z h1 h2=>by simp[ltS]at*; omega
 ntrans:=fun x y z h1 h2=>by simp[ltS]at*; omega
theorem Keeps.tO{d e:Array Sp}{a b:Nat}(hb:b≤d.size)(h:Sort.PermIn a b d e):Keeps d e:=by
 refine⟨h.1,fun hs x hx=>?_⟩;obtain⟨i,hi,rfl⟩:=Array.getElem_of_mem hx;have hget:e[i]=e[i]! :=(getElem!_pos e i hi).symm;rw[hget];have all:∀ k,k<d.size→small d[k]! :=fun k hk=>by rw[getElem!_pos d k hk];exact hs _ (Array.getElem_mem _)
 by_cases hr:a≤i∧i<b
 ·exact Sort.permIn_all d e a b small hb h (fun k _ hk=>all k (by omega)) i hr.1 hr.2
 ·rw[h.2.1 i (by omega)];exact all i (by rw[←h.1];exact hi)
theorem tP(a:Nat):∀ (n i j:Nat) (d:Array Sp),j+1 - i≤n→a<i→i≤j+1→j<d.size→Keeps d (Sort.partEqLoop ltS a i j d).2∧i≤(Sort.partEqLoop ltS a i j d).1∧(Sort.partEqLoop ltS a i j d).1≤j+1:=by
 intro n
 induction n with
 | zero=>
  intro i j d hn ha hij hj;rw[Sort.partEqLoop_eq];obtain⟨s1,s2,s3,s4,s5⟩:=scans (p:=fun x=> !ltS d[a]! x) (q:=fun x=>ltS d[a]! x) (e:=d) (i:=i) (j:=j) (fun x=>by simp) hij (by omega);rw[if_pos (by omega)];exact⟨.refl d,s1,s2⟩
 | succ n ih=>
  intro i j d hn ha hij hj;rw[Sort.partEqLoop_eq];obtain⟨s1,s2,s3,s4,s5⟩:=scans (p:=fun x=> !ltS d[a]! x) (q:=fun x=>ltS d[a]! x) (e:=d) (i:=i) (j:=j) (fun x=>by simp) hij (by omega);split
  ·exact⟨.refl d,s1,s2⟩
  ·rename_i h;have hlt:=s5 h;obtain⟨k1,k2,k3⟩:=ih (Sort.scanUp (fun x=> !ltS d[a]! x) d j i+1) (Sort.scanDown (fun x=>ltS d[a]! x) d (Sort.scanUp (fun x=> !ltS d[a]! x) d j i) j - 1) (Sort.swp d (Sort.scanUp (fun x=> !ltS d[a]! x) d j i) (Sort.scanDown (fun x=>ltS d[a]! x) d (Sort.scanUp (fun x=> !ltS d[a]! x) d j i) j)) (by omega) (by omega) (by omega) (by rw[swp_size];omega);exact⟨(Keeps.swp (by omega) (by omega)).trans k1,by omega,by omega⟩
theorem sL{d:Array Sp}{a b pv:Nat}(hab:a<b)(hb:b≤d.size)(hpv:pv<d.size):Keeps d (Sort.partitionEqual ltS d a b pv).2∧a<(Sort.partitionEqual ltS d a b pv).1∧(Sort.partitionEqual ltS d a b pv).1≤b:=by
 obtain⟨k1,k2,k3⟩:=tP a _ (a+1) (b - 1) (Sort.swp d a pv) (Nat.le_refl _) (by omega) (by omega) (by rw[swp_size];omega);have e:Sort.partitionEqual ltS d a b pv=Sort.partEqLoop ltS a (a+1) (b - 1) (Sort.swp d a pv):=rfl;rw[e];exact⟨(Keeps.swp (by omega) hpv).trans k1,by omega,by omega⟩
theorem xH{d:Array Sp}{a b pv:Nat}(hab:a≤pv)(hpv:pv<b)(hb:b≤d.size):Keeps d (Sort.partition ltS d a b pv).2.2∧a≤(Sort.partition ltS d a b pv).1∧(Sort.partition ltS d a b pv).1<b:=by
 obtain⟨h1,h2,h3,_⟩:=Sort.partition_holds ltS sK d a b pv hab hpv hb;exact⟨.tO hb h3,h1,h2⟩
theorem jG(a b:Nat):∀ (s i:Nat) (d:Array Sp),a<i→i≤b→b≤d.size→Keeps d (Sort.partialIns ltS a b s i d).1
 | 0,i,d,_,_,_=> .refl d
 | s+1,i,d,ha,hi,hb=>by
  obtain⟨r1,r2⟩:=jF b d _ i rfl hi;rw[Sort.partialIns];generalize Sort.scanSorted ltS d b i=i2 at*;simp only;split
  ·exact .refl d
  ·split
   ·exact .refl d
   ·rename_i h1 h2;have k1:Keeps d (Sort.swp d i2 (i2 - 1)):=Keeps.swp (by omega) (by omega);generalize Sort.swp d i2 (i2 - 1)=e1 at*
    have k2:Keeps d (if i2 - a≥2 then Sort.shiftDown ltS (i2 - 1) e1 else e1):=by
     split
     ·exact k1.trans (kD _ _ (by rw[k1.1];omega))
     ·exact k1
    generalize (if i2 - a≥2 then Sort.shiftDown ltS (i2 - 1) e1 else e1)=e2 at*
    have k3:Keeps d (if b - i2≥2 then Sort.shiftUp ltS b (i2+1) e2 else e2):=by
     split
     ·exact k2.trans (mB b _ _ _ rfl (by rw[k2.1];exact hb))
     ·exact k2
    generalize (if b - i2≥2 then Sort.shiftUp ltS b (i2+1) e2 else e2)=e3 at*;exact k3.trans (jG a b s i2 e3 (by omega) (by omega) (by rw[k3.1];exact hb))
def aAF(e:Array Sp)(a b limit pv:Nat)(wb wp:Bool):Array Sp:=
 if a>0&& !ltS e[a - 1]! e[pv]! then
  match Sort.partitionEqual ltS e a b pv with
  | (mid,d4)=>if _h:a<mid∧mid≤b then Sort.pdq ltS d4 mid b limit wb wp else d4
 else
  match Sort.partition ltS e a b pv with
  | (mid,ap,d4)=>
   if _h:a≤mid∧mid<b then
    if mid - a<b - mid then Sort.pdq ltS (Sort.pdq ltS d4 a mid limit true true) (mid+1) b limit (decide (mid - a≥(b - a) / 8)) ap
    else Sort.pdq ltS (Sort.pdq ltS d4 (mid+1) b limit true true) a mid limit (decide (b - mid≥(b - a) / 8)) ap
   else d4
def xI(e:Array Sp)(a b limit pv:Nat)(hint:Sort.Hint)(wb wp:Bool):Array Sp:=
 if wb&&wp&&hint= .increasing then
  if(Sort.partialInsertionSort ltS e a b).2 then(Sort.partialInsertionSort ltS e a b).1 else aAF (Sort.partialInsertionSort ltS e a b).1 a b limit pv wb wp
 else aAF e a b limit pv wb wp
def sM(e:Array Sp)(a b limit pv:Nat)(hint:Sort.Hint)(wb wp:Bool):Array Sp:=
 if hint= .decreasing then xI (Sort.reverseRange e a b) a b limit ((b - 1) - (pv - a)) .increasing wb wp else xI e a b limit pv hint wb wp
def aAG(e:Array Sp)(a b limit:Nat)(wb wp:Bool):Array Sp:=
 let e1:=if !wb then Sort.breakPatterns e a b else e
 sM e1 a b (if !wb then limit - 1 else limit) (Sort.choosePivot ltS e1 a b).1 (Sort.choosePivot ltS e1 a b).2 wb wp
theorem rF(e:Array Sp)(a b limit:Nat)(wb wp:Bool):Sort.pdq ltS e a b limit wb wp=
  if b - a≤12 then Sort.insertionSort ltS e a b else if limit=0 then Sort.heapSort ltS e a b else aAG e a b limit wb wp:=by
 rw[Sort.pdq];split
 ·rfl
 ·split
  ·rfl
  ·unfold aAG sM xI;generalize (if(!wb)=true then Sort.breakPatterns e a b else e)=e1;generalize (if(!wb)=true then limit - 1 else limit)=lim;simp only
   by_cases hd:(Sort.choosePivot ltS e1 a b).2= .decreasing
   ·simp only[if_pos hd];cases wb<;>cases wp<;>rfl
   ·simp only[if_neg hd]
    by_cases hc:(wb&&wp&&decide ((Sort.choosePivot ltS e1 a b).2=Sort.Hint.increasing))=true
    ·simp only[if_pos hc];rfl
    ·simp only[if_neg hc];rfl
theorem kK{e:Array Sp}{a b:Nat}(hab:a≤b)(hb:b≤e.size):Keeps e (Sort.breakPatterns e a b):= .tO hb (Sort.breakPatterns_holds e a b hab hb)
theorem lI{e:Array Sp}{a b:Nat}(hab:a≤b)(hb:b≤e.size):Keeps e (Sort.reverseRange e a b):= .tO hb (Sort.reverseRange_holds e a b hab hb)
theorem aAH:∀ (N:Nat) (e:Array Sp) (a b limit:Nat) (wb wp:Bool),b - a≤N→a≤b→b≤e.size→Keeps e (Sort.pdq ltS e a b limit wb wp):=by
 intro N
 induction N with
 | zero=>
  intro e a b limit wb wp hN hab hb;rw[rF,if_pos (by omega)];exact .tO hb (Sort.insertionSort_holds sK e a b hab hb).1
 | succ N ih=>
  intro e a b limit wb wp hN hab hb;rw[rF];split
  ·exact .tO hb (Sort.insertionSort_holds sK e a b hab hb).1
  ·split
   ·exact .tO hb (Sort.heapSort_holds sK e a b hab hb).1
   ·rename_i h12 h0
    have k6:∀ (f:Array Sp) (lim pv:Nat),Keeps e f→a≤pv→pv<b→Keeps e (aAF f a b lim pv wb wp):=by
     intro f lim pv kf p1 p2;have fs:=kf.1;unfold aAF;split
     ·obtain⟨q1,q2,q3⟩:=sL (d:=f) (a:=a) (b:=b) (pv:=pv) (by omega) (by omega) (by omega);generalize Sort.partitionEqual ltS f a b pv=r at*;obtain⟨mid,d4⟩:=r;simp only at q1 q2 q3 ⊢;rw[dif_pos ⟨q2,q3⟩];exact(kf.trans q1).trans (ih d4 mid b lim wb wp (by omega) (by omega) (by rw[(kf.trans q1).1];exact hb))
     ·obtain⟨q1,q2,q3⟩:=xH (d:=f) (a:=a) (b:=b) (pv:=pv) p1 p2 (by omega);generalize Sort.partition ltS f a b pv=r at*;obtain⟨mid,ap,d4⟩:=r;simp only at q1 q2 q3 ⊢;have k4:=kf.trans q1;rw[dif_pos ⟨q2,q3⟩];split
      ·have k5:=k4.trans (ih d4 a mid lim true true (by omega) (by omega) (by rw[k4.1];omega));exact k5.trans (ih _ (mid+1) b lim _ ap (by omega) (by omega) (by rw[k5.1];exact hb))
      ·have k5:=k4.trans (ih d4 (mid+1) b lim true true (by omega) (by omega) (by rw[k4.1];omega));exact k5.trans (ih _ a mid lim _ ap (by omega) (by omega) (by rw[k5.1];omega))
    have k5:∀ (f:Array Sp) (lim pv:Nat) (hint:Sort.Hint),Keeps e f→a≤pv→pv<b→Keeps e (xI f a b lim pv hint wb wp):=by
     intro f lim pv hint kf p1 p2;have kp:Keeps e (Sort.partialInsertionSort ltS f a b).1:=kf.trans (jG a b 5 (a+1) f (by omega) (by omega) (by rw[kf.1];exact hb));unfold xI;split
     ·split
      ·exact kp
      ·exact k6 _ _ _ kp p1 p2
     ·exact k6 _ _ _ kf p1 p2
    have k4:∀ (f:Array Sp) (lim pv:Nat) (hint:Sort.Hint),Keeps e f→a≤pv→pv<b→Keeps e (sM f a b lim pv hint wb wp):=by
     intro f lim pv hint kf p1 p2;unfold sM;split
     ·exact k5 _ _ _ _ (kf.trans (lI (by omega) (by rw[kf.1];exact hb))) (by omega) (by omega)
     ·exact k5 _ _ _ _ kf p1 p2
    unfold aAG;simp only
    have k1:Keeps e (if(!wb)=true then Sort.breakPatterns e a b else e):=by
     split
     ·exact kK (by omega) hb
     ·exact .refl e
    have pr:=Sort.choosePivot_holds ltS (if(!wb)=true then Sort.breakPatterns e a b else e) a b (by omega);exact k4 _ _ _ _ k1 pr.1 pr.2
def pD(id ver N:Nat)(tight:Bool):Prop:=
 ∀(h:Hp) (n0 a b limit:Nat) (d:Array Sp),b - a<N→Data h id ver d→aF h n0→id<n0→a≤b→b≤d.size→d.size≤100000→limit≤100→(∀x∈d,small x)→
  ISp prog 207 h n0 [.one (.ref id ver 0 d.size 2 tight),.one (.t (I a)),.one (.t (I b)),.one (.t (I limit)),.one (.fn 161 [])] (.tup []) (aR h id ver (Sort.pdq ltS d a b limit true true))
structure PI (h:Hp) (n0 id ver:Nat) (tight:Bool) (d G:Array Sp) (a b limit:Nat) (wb wp:Bool) (e:Array Sp) (st:St):Prop where
 ab:a≤b
 bs:b≤d.size
 lim:limit≤100
 keeps:Keeps d e
 heap:st.heap=aR h id ver e
 nx:n0≤st.nx
 out:Sort.pdq ltS e a b limit wb wp=G
 t0:st.tmps 0= .one (.ref id ver 0 d.size 2 tight)
 t1:st.tmps 1= .one (.t (I a))
 t2:st.tmps 2= .one (.t (I b))
 t3:st.tmps 3= .one (.t (I limit))
 t4:st.tmps 4= .one (.fn 161 [])
 t10:st.tmps 10= .one (.t (.bool wb))
 t11:st.tmps 11= .one (.t (.bool wp))
def c207s8:aB:= .seq (.region 20 false 11 c207r20) (.seq (.region 21 false 2 c207r21) (.seq (.region 22 false 8 c207r22) (.seq (.region 23 false 3 c207r23) (.seq (.region 24 false 3 c207r24) (.cond (X.tmp 125) (.seq (.region 25 false 4 c207r25) (.seq (.region 26 false 6 c207r26) (.region 27 false 3 c207r27))) (.seq (.region 28 false 4 c207r28) (.seq (.region 29 false 7 c207r29) (.region 30 false 2 c207r30))))))))
def c207s6:aB:= .seq (.seq (.region 17 true 17 c207r17) (.cond (X.tmp 97) (.seq (.region 18 false 7 c207r18) (.seq (.region 19 false 2 c207r19) (.exit 1))) .skip)) c207s8
def c207s5:aB:= .seq (.seq (.region 15 false 8 c207r15) (.cond (X.tmp 75) (.seq (.region 16 false 5 c207r16) (.cond (X.tmp 80) .ret .skip)) .skip)) c207s6
def c207s4:aB:= .seq (.seq (.region 11 false 2 c207r11) (.cond (X.tmp 56) (.seq (.region 12 false 5 c207r12) (.seq (.region 13 false 7 c207r13) (.region 14 false 1 c207r14))) .skip)) c207s5
def c207s2:aB:= .seq (.seq (.region 7 false 2 c207r7) (.cond (X.tmp 39) (.seq (.region 8 false 5 c207r8) (.region 9 false 3 c207r9)) .skip)) (.seq (.region 10 false 10 c207r10) c207s4)
theorem c207b31_eq:c207b31= .block 1 (.seq (.region 2 false 4 c207r2) (.seq (.seq (.region 3 false 2 c207r3) (.cond (X.tmp 25) (.seq (.region 4 false 5 c207r4) .ret) .skip)) (.seq (.seq (.region 5 false 2 c207r5) (.cond (X.tmp 32) (.seq (.region 6 false 5 c207r6) .ret) .skip)) c207s2))):=rfl
structure PS (h:Hp) (n0 id ver:Nat) (tight:Bool) (d:Array Sp) (a b limit pv:Nat) (wb wp:Bool) (e:Array Sp) (st:St):Prop where
 ab:a+12<b
 bs:b≤d.size
 lim:limit≤100
 p1:a≤pv
 p2:pv<b
 keeps:Keeps d e
 heap:st.heap=aR h id ver e
 nx:n0≤st.nx
 t0:st.tmps 0= .one (.ref id ver 0 d.size 2 tight)
 t1:st.tmps 1= .one (.t (I a))
 t2:st.tmps 2= .one (.t (I b))
 t3:st.tmps 3= .one (.t (I limit))
 t4:st.tmps 4= .one (.fn 161 [])
 t10:st.tmps 10= .one (.t (.bool wb))
 t11:st.tmps 11= .one (.t (.bool wp))
 t12:st.tmps 12= .one (.t (I ((b - a:Nat):Int)))
 t13:st.tmps 13= .one (.t (I pv))
abbrev aI5 (h:Hp) (n0 id ver:Nat) (G:Array Sp):Exit→St→Prop:=fX [] (.tup []) (aR h id ver G) n0
theorem aKO{h:Hp}{n0 id ver:Nat}{tight:Bool}{d G:Array Sp}{a b limit pv:Nat}{wb wp:Bool}{e:Array Sp}{st:St}{J:St→Prop}(ho:aF h n0)(hid:id<n0)(hsz:d.size≤100000)(hsm:∀ x∈d,small x)
  (ps:PS h n0 id ver tight d a b limit pv wb wp e st) (IH:pD id ver (b - a) tight)
  (hout:(match Sort.partition ltS e a b pv with
  | (mid,ap,d4)=>
   if _h:a≤mid∧mid<b then
    if mid - a<b - mid then Sort.pdq ltS (Sort.pdq ltS d4 a mid limit true true) (mid+1) b limit (decide (mid - a≥(b - a) / 8)) ap
    else Sort.pdq ltS (Sort.pdq ltS d4 (mid+1) b limit true true) a mid limit (decide (b - mid≥(b - a) / 8)) ap
   else d4)=G)
  (hJ:∀ (a' b':Nat) (wb' wp':Bool) (e':Array Sp) (st':St),b' - a'<b - a→PI h n0 id ver tight d G a' b' limit wb' wp' e' st'→J st'):
  aY prog 148 (aI5 h n0 id ver G) c207s8 [.blk 1,.post J,.blk 0] st:=by
 obtain⟨ab,bs,lim,p1,p2,keeps,heap,nx,t0,t1,t2,t3,t4,t10,t11,t12,t13⟩:=ps;have hes:=keeps.1;obtain⟨q1,q2,q3⟩:=xH (d:=e) (a:=a) (b:=b) (pv:=pv) p1 p2 (by omega);have hc:=aSQ st.heap (st.nx+5) id ver a b pv tight e (by rw[heap];exact bD) (by rw[heap];exact aF.more (aF.put ho hid) (by omega)) (by omega) (by omega) (by omega) (by omega) (by omega) (keeps.2 hsm);rw[hes]at hc;simp[c207s8,c207r20,t0,t1,t2,t4,t13];refine aD.imp hc ?_;generalize Sort.partition ltS e a b pv=r at*;obtain⟨mid,ap,d4⟩:=r;simp only at q1 q2 q3 hout ⊢;rw[dif_pos ⟨q2,q3⟩]at hout;have k4:=keeps.trans q1;have w1:IntKind.i64.wrap ((mid:Int) - a)=((mid - a:Nat):Int):=aH _ (by omega) (by omega);have w2:IntKind.i64.wrap ((b:Int) - mid)=((b - mid:Nat):Int):=aH _ (by omega) (by omega);obtain⟨l,hl⟩:∃ l:Nat,l=b - a:=⟨_,rfl⟩;rw[←hl]at t12;have w3:IntKind.i64.wrap ((l:Int) / 8)=((l / 8:Nat):Int):=aH _ (by omega) (by omega);have w4:IntKind.i64.wrap ((mid:Int)+1)=((mid+1:Nat):Int):=aH _ (by omega) (by omega);obtain⟨ma,hma⟩:∃ x:Nat,x=mid - a:=⟨_,rfl⟩;obtain⟨bm,hbm⟩:∃ x:Nat,x=b - mid:=⟨_,rfl⟩;obtain⟨l8,hl8⟩:∃ x:Nat,x=l / 8:=⟨_,rfl⟩;obtain⟨m1,hm1⟩:∃ x:Nat,x=mid+1:=⟨_,rfl⟩;rw[←hma]at w1;rw[←hbm]at w2;rw[←hl8]at w3;rw[←hm1]at w4;rw[←hma,←hbm,←hl,←hl8,←hm1]at hout;have hput:aR st.heap id ver d4=aR h id ver d4:=by rw[heap,gR]
 rw[hput];simp[c207r21,c207r22,c207r23,c207r24,t1,t2,t12,w1,w2,w3];constructor
 ·intro hlt;rw[if_pos hlt]at hout;have hr:=IH (aR h id ver d4) (st.nx+11+2+8+3+3+4+5) a mid limit d4 (by omega) bD (aF.more (aF.put ho hid) (by omega)) (by omega) (by omega) (by rw[k4.1];omega) (by rw[k4.1];exact hsz) lim (k4.2 hsm);rw[k4.1]at hr;have k5:=k4.trans (aAH _ d4 a mid limit true true (Nat.le_refl _) (by omega) (by rw[k4.1];omega));simp[c207r25,c207r26,t0,t1,t3,t4];refine aD.imp hr ?_;rw[gR];simp[c207r27,w4];refine hJ m1 b _ ap (Sort.pdq ltS d4 a mid limit true true) _ (by omega) ⟨by omega,bs,lim,k5,rfl,by simp;omega,hout,by simp[t0],by simp,by simp[t2],by simp[t3],by simp[t4],?_,by simp⟩;simp
 ·intro hge;have hge':¬ ma<bm:=by omega
  rw[if_neg hge']at hout;have hr:=IH (aR h id ver d4) (st.nx+11+2+8+3+3+4+6) m1 b limit d4 (by omega) bD (aF.more (aF.put ho hid) (by omega)) (by omega) (by omega) (by rw[k4.1];omega) (by rw[k4.1];exact hsz) lim (k4.2 hsm);rw[k4.1]at hr;have k5:=k4.trans (aAH _ d4 m1 b limit true true (Nat.le_refl _) (by omega) (by rw[k4.1];omega));simp[c207r28,c207r29,t0,t2,t3,t4,w4];refine aD.imp hr ?_;rw[gR];simp[c207r30];refine hJ a mid _ ap (Sort.pdq ltS d4 m1 b limit true true) _ (by omega) ⟨by omega,by omega,lim,k5,rfl,by simp;omega,hout,by simp[t0],by simp[t1],by simp,by simp[t3],by simp[t4],?_,by simp⟩;simp
theorem aKP{h:Hp}{n0 id ver:Nat}{tight:Bool}{d G:Array Sp}{a b limit pv:Nat}{wb wp:Bool}{e:Array Sp}{st:St}{J:St→Prop}(ho:aF h n0)(hid:id<n0)(hsz:d.size≤100000)(hsm:∀ x∈d,small x)
  (ps:PS h n0 id ver tight d a b limit pv wb wp e st) (IH:pD id ver (b - a) tight) (hout:aAF e a b limit pv wb wp=G)
  (hJ:∀ (a' b':Nat) (wb' wp':Bool) (e':Array Sp) (st':St),b' - a'<b - a→PI h n0 id ver tight d G a' b' limit wb' wp' e' st'→J st'):
  aY prog 148 (aI5 h n0 id ver G) c207s6 [.blk 1,.post J,.blk 0] st:=by
 have ps':=ps;obtain⟨ab,bs,lim,p1,p2,keeps,heap,nx,t0,t1,t2,t3,t4,t10,t11,t12,t13⟩:=ps;have hes:=keeps.1;have hdat:Data st.heap id ver e:=by rw[heap];exact bD
 have hln:(st.heap.rows id).length=e.size:=by rw[hdat.rows];simp
 unfold aAF at hout
 by_cases ha:a>0
 ·have haI:(0:Int)<a:=by omega
  obtain⟨y,hy⟩:∃ y:Nat,y=a - 1:=⟨_,rfl⟩;have q1:y<e.size:=by omega
  have q2:pv<e.size:=by omega
  have q1':y<d.size:=by omega
  have q2':pv<d.size:=by omega
  have g1:=rowAt hdat q1;have g2:=rowAt hdat q2;have s1:small e[y]:=keeps.2 hsm _ (Array.getElem_mem _);have s2:small e[pv]:=keeps.2 hsm _ (Array.getElem_mem _);have wy:IntKind.i64.wrap ((a:Int) - 1)=(y:Int):=aH _ (by omega) (by omega);rw[←hy,getElem!_pos e y q1,getElem!_pos e pv q2]at hout;simp[c207s6,c207r17,t0,t1,t4,t13,ha,wy,hdat.alive,hdat.sz,hln,g1,g2,q1,q2,q1',q2',bG];refine⟨161,[],⟨rfl,rfl⟩,cN,?_⟩;refine aD.draw (sJ e[y] e[pv] s1 s2) (by simp[cell]) (by simp[cell]) (by simp) ?_
  by_cases hl:ltS e[y] e[pv]=true
  ·have hl':e[y].1 - e[pv].1<0:=by simp[ltS]at hl;omega
   rw[if_neg (by simp[hl])]at hout;simp[hl'];exact aKO (wb:=wb) (wp:=wp) ho hid hsz hsm ⟨ab,bs,lim,p1,p2,keeps,by simp[heap],by simp;omega,by simp[t0],by simp[t1],by simp[t2],by simp[t3],by simp[t4],by simp[t10],by simp[t11],by simp[t12],by simp[t13]⟩ IH hout hJ
  ·have hl':¬ e[y].1 - e[pv].1<0:=by simp[ltS]at hl;omega
   rw[if_pos (by simp[hl,ha])]at hout;simp[hl',c207r18,t0,t1,t2,t4,t13];have hc:=aNM st.heap (st.nx+17+5) id ver a b pv tight e hdat (by rw[heap];exact aF.more (aF.put ho hid) (by omega)) (by omega) (by omega) (by omega) q2 (by omega) (keeps.2 hsm);obtain⟨r1,r2,r3⟩:=sL (d:=e) (a:=a) (b:=b) (pv:=pv) (by omega) (by omega) q2;rw[hes]at hc;refine aD.imp hc ?_;generalize Sort.partitionEqual ltS e a b pv=r at*;obtain⟨mid,d4⟩:=r;simp only at r1 r2 r3 hout ⊢;rw[dif_pos ⟨r2,r3⟩]at hout;simp[c207r19];exact hJ mid b wb wp d4 _ (by omega) ⟨r3,bs,lim,keeps.trans r1,by simp[heap,gR],by simp;omega,hout,by simp[t0],by simp,by simp[t2],by simp[t3],by simp[t4],by simp[t10],by simp[t11]⟩
 ·have haI:¬ (0:Int)<a:=by omega
  have ha0:a=0:=by omega
  rw[if_neg (by simp[ha])]at hout;simp[c207s6,c207r17,t0,t1,t4,t13,ha0];exact aKO (wb:=wb) (wp:=wp) ho hid hsz hsm ⟨ab,bs,lim,p1,p2,keeps,by simp[heap],by simp;omega,by simp[t0],by simp[t1],by simp[t2],by simp[t3],by simp[t4],by simp[t10],by simp[t11],by simp[t12],by simp[t13]⟩ IH hout hJ
theorem aKQ{h:Hp}{n0 id ver:Nat}{tight:Bool}{d G:Array Sp}{a b limit pv:Nat}{wb wp:Bool}{e:Array Sp}{st:St}{J:St→Prop}(hint:Sort.Hint)(ho:aF h n0)(hid:id<n0)(hsz:d.size≤100000)(hsm:∀ x∈d,small x)
  (ps:PS h n0 id ver tight d a b limit pv wb wp e st) (t14:st.tmps 14= .one (.t (I (mR hint)))) (IH:pD id ver (b - a) tight) (hout:xI e a b limit pv hint wb wp=G)
  (hJ:∀ (a' b':Nat) (wb' wp':Bool) (e':Array Sp) (st':St),b' - a'<b - a→PI h n0 id ver tight d G a' b' limit wb' wp' e' st'→J st'):
  aY prog 148 (aI5 h n0 id ver G) c207s5 [.blk 1,.post J,.blk 0] st:=by
 have ps':=ps;obtain⟨ab,bs,lim,p1,p2,keeps,heap,nx,t0,t1,t2,t3,t4,t10,t11,t12,t13⟩:=ps;have hes:=keeps.1;have hdat:Data st.heap id ver e:=by rw[heap];exact bD
 have hcond:(wb&&wp&&decide (hint= .increasing))=(wb&&wp&&decide (mR hint=1)):=by cases hint<;>rfl
 unfold xI at hout;rw[hcond]at hout
 by_cases hc:(wb&&wp&&decide (mR hint=1))=true
 ·rw[if_pos hc]at hout;simp at hc;obtain⟨⟨rfl,rfl⟩,h1⟩:=hc;simp[c207s5,c207r15,t0,t1,t2,t4,t10,t11,t14,h1,c207r16];have hp:=aDS st.heap (st.nx+8+4) id ver a b tight e hdat (by rw[heap];exact aF.more (aF.put ho hid) (by omega)) (by omega) (by omega) (by omega) (by omega) (keeps.2 hsm);have kp:Keeps d (Sort.partialInsertionSort ltS e a b).1:=keeps.trans (jG a b 5 (a+1) e (by omega) (by omega) (by omega));rw[hes]at hp;refine aD.imp hp ?_;generalize Sort.partialInsertionSort ltS e a b=r at*;obtain⟨f,ok⟩:=r;simp only at kp hout ⊢;cases ok with
  | true=>
   rw[if_pos rfl]at hout;simp;exact eX (.inr rfl) rfl (by simp[heap,gR,hout]) (aF.put ho hid)
  | false=>
   rw[if_neg (by simp)]at hout;simp;exact aKP ho hid hsz hsm ⟨ab,bs,lim,p1,p2,kp,by simp[heap,gR],by simp;omega,by simp[t0],by simp[t1],by simp[t2],by simp[t3],by simp[t4],by simp[t10],by simp[t11],by simp[t12],by simp[t13]⟩ IH hout hJ
 ·rw[if_neg hc]at hout
  cases wb<;>cases wp<;>simp at hc<;>simp[c207s5,c207r15,t10,t11,t14,hc]<;>
   exact aKP ho hid hsz hsm ⟨ab,bs,lim,p1,p2,keeps,by simp[heap],by simp;omega,by simp[t0],by simp[t1],by simp[t2],by simp[t3],by simp[t4],by simp[t10],by simp[t11],by simp[t12],by simp[t13]⟩ IH hout hJ
theorem aPY{h:Hp}{n0 id ver:Nat}{tight:Bool}{d G:Array Sp}{a b limit pv:Nat}{wb wp:Bool}{e:Array Sp}{st:St}{J:St→Prop}(hint:Sort.Hint)(ho:aF h n0)(hid:id<n0)(hsz:d.size≤100000)(hsm:∀ x∈d,small x)
  (ps:PS h n0 id ver tight d a b limit pv wb wp e st) (t14:st.tmps 14= .one (.t (I (mR hint)))) (IH:pD id ver (b - a) tight) (hout:sM e a b limit pv hint wb wp=G)
  (hJ:∀ (a' b':Nat) (wb' wp':Bool) (e':Array Sp) (st':St),b' - a'<b - a→PI h n0 id ver tight d G a' b' limit wb' wp' e' st'→J st'):
  aY prog 148 (aI5 h n0 id ver G) c207s4 [.blk 1,.post J,.blk 0] st:=by
 have ps':=ps;obtain⟨ab,bs,lim,p1,p2,keeps,heap,nx,t0,t1,t2,t3,t4,t10,t11,t12,t13⟩:=ps;have hes:=keeps.1;have hdat:Data st.heap id ver e:=by rw[heap];exact bD
 unfold sM at hout
 by_cases hd:hint= .decreasing
 ·rw[if_pos hd]at hout;subst hd;obtain⟨pv2,aW2⟩:∃ x:Nat,x=(b - 1) - (pv - a):=⟨_,rfl⟩;obtain⟨b1,hb1⟩:∃ x:Nat,x=b - 1:=⟨_,rfl⟩;obtain⟨pa,hpa⟩:∃ x:Nat,x=pv - a:=⟨_,rfl⟩;have w1:IntKind.i64.wrap ((b:Int) - 1)=(b1:Int):=aH _ (by omega) (by omega);have w2:IntKind.i64.wrap ((pv:Int) - a)=(pa:Int):=aH _ (by omega) (by omega);have w3:IntKind.i64.wrap ((b1:Int) - pa)=(pv2:Int):=aH _ (by omega) (by omega);rw[←aW2]at hout;simp[c207s4,c207r11,c207r12,t0,t1,t2,t4,t14,mR];have hr:=aKI st.heap (st.nx+2+4) id ver a b tight e hdat (by rw[heap];exact aF.more (aF.put ho hid) (by omega)) (by omega) (by omega) (by omega) (by omega) (.one (.fn 161 [])) rfl;rw[hes]at hr;refine aD.imp hr ?_;simp[c207r13,c207r14,t1,t2,t13,w1,w2,w3];exact aKQ .increasing ho hid hsz hsm ⟨ab,bs,lim,by omega,by omega,keeps.trans (lI (by omega) (by omega)),by simp[heap,gR],by simp;omega,by simp[t0],by simp[t1],by simp[t2],by simp[t3],by simp[t4],by simp[t10],by simp[t11],by simp[t12],by simp⟩ (by simp[mR]) IH hout hJ
 ·rw[if_neg hd]at hout;have hne:¬ mR hint=2:=by cases hint<;>simp[mR]at hd ⊢
  simp[c207s4,c207r11,t14,hne];exact aKQ hint ho hid hsz hsm ⟨ab,bs,lim,p1,p2,keeps,by simp[heap],by simp;omega,by simp[t0],by simp[t1],by simp[t2],by simp[t3],by simp[t4],by simp[t10],by simp[t11],by simp[t12],by simp[t13]⟩ (by simp[t14]) IH hout hJ
theorem aKR{h:Hp}{n0 id ver:Nat}{tight:Bool}{d G:Array Sp}{a b limit:Nat}{wb wp:Bool}{e:Array Sp}{st:St}{J:St→Prop}(ho:aF h n0)(hid:id<n0)(hsz:d.size≤100000)(hsm:∀ x∈d,small x)
  (ab:a+12<b) (bs:b≤d.size) (lim:limit≤100) (keeps:Keeps d e) (heap:st.heap=aR h id ver e) (nx:n0≤st.nx)
  (t0:st.tmps 0= .one (.ref id ver 0 d.size 2 tight)) (t1:st.tmps 1= .one (.t (I a))) (t2:st.tmps 2= .one (.t (I b))) (t3:st.tmps 3= .one (.t (I limit))) (t4:st.tmps 4= .one (.fn 161 []))
  (t10:st.tmps 10= .one (.t (.bool wb))) (t11:st.tmps 11= .one (.t (.bool wp))) (t12:st.tmps 12= .one (.t (I ((b - a:Nat):Int))))
  (IH:pD id ver (b - a) tight) (hout:sM e a b limit (Sort.choosePivot ltS e a b).1 (Sort.choosePivot ltS e a b).2 wb wp=G)
  (hJ:∀ (a' b':Nat) (wb' wp':Bool) (e':Array Sp) (st':St),b' - a'<b - a→PI h n0 id ver tight d G a' b' limit wb' wp' e' st'→J st'):
  iP prog false st.nx c207r10 (oQ (kont prog 148 (aI5 h n0 id ver G) [.thn c207s4,.blk 1,.post J,.blk 0]) (st.nx+10)) 0 st.tmps st.heap:=by
 have hes:=keeps.1;have hdat:Data st.heap id ver e:=by rw[heap];exact bD
 have hc:=aBW st.heap (st.nx+4) id ver a b tight e hdat (by rw[heap];exact aF.more (aF.put ho hid) (by omega)) (by omega) (by omega) (by omega) (by omega) (keeps.2 hsm);have pr:=Sort.choosePivot_holds ltS e a b (by omega);rw[hes]at hc;simp[c207r10,t0,t1,t2,t4];refine aD.imp hc ?_;generalize Sort.choosePivot ltS e a b=r at*;obtain⟨pv,hint⟩:=r;simp only at pr hout ⊢;simp;exact aPY hint ho hid hsz hsm ⟨ab,bs,lim,pr.1,pr.2,keeps,by simp[heap],by simp;omega,by simp[t0],by simp[t1],by simp[t2],by simp[t3],by simp[t4],by simp[t10],by simp[t11],by simp[t12],by simp⟩ (by simp) IH hout hJ
theorem aPZ{h:Hp}{n0 id ver:Nat}{tight:Bool}{d G:Array Sp}{a b limit:Nat}{wb wp:Bool}{e:Array Sp}{st:St}{J:St→Prop}(ho:aF h n0)(hid:id<n0)(hsz:d.size≤100000)(hsm:∀ x∈d,small x)
  (ab:a+12<b) (bs:b≤d.size) (lim:limit≤100) (h0:¬ limit=0) (keeps:Keeps d e) (heap:st.heap=aR h id ver e) (nx:n0≤st.nx)
  (t0:st.tmps 0= .one (.ref id ver 0 d.size 2 tight)) (t1:st.tmps 1= .one (.t (I a))) (t2:st.tmps 2= .one (.t (I b))) (t3:st.tmps 3= .one (.t (I limit))) (t4:st.tmps 4= .one (.fn 161 []))
  (t10:st.tmps 10= .one (.t (.bool wb))) (t11:st.tmps 11= .one (.t (.bool wp))) (t12:st.tmps 12= .one (.t (I ((b - a:Nat):Int))))
  (IH:pD id ver (b - a) tight) (hout:aAG e a b limit wb wp=G)
  (hJ:∀ (a' b' limit':Nat) (wb' wp':Bool) (e':Array Sp) (st':St),b' - a'<b - a→PI h n0 id ver tight d G a' b' limit' wb' wp' e' st'→J st'):
  aY prog 148 (aI5 h n0 id ver G) c207s2 [.blk 1,.post J,.blk 0] st:=by
 have hes:=keeps.1;have hdat:Data st.heap id ver e:=by rw[heap];exact bD
 have hok:aF st.heap n0:=by rw[heap];exact aF.put ho hid
 have r2:∀ w:Bool,aAG e a b limit w wp=(match w with | true=>sM e a b limit (Sort.choosePivot ltS e a b).1 (Sort.choosePivot ltS e a b).2 true wp | false=>sM (Sort.breakPatterns e a b) a b (limit - 1) (Sort.choosePivot ltS (Sort.breakPatterns e a b) a b).1 (Sort.choosePivot ltS (Sort.breakPatterns e a b) a b).2 false wp):=fun w=>by cases w<;>simp[aAG]
 rw[r2]at hout;cases wb with
 | true=>
  simp only at hout;simp[c207s2,c207r7,t10];exact aKR (st:=⟨_,_,_⟩) (limit:=limit) (wb:=true) (wp:=wp) ho hid hsz hsm ab bs lim keeps heap (Nat.le_trans nx (by simp<;>omega)) t0 t1 t2 t3 t4 t10 t11 t12 IH hout fun a' b' wb' wp' e' st' hlt hpi=>hJ a' b' limit wb' wp' e' st' hlt hpi
 | false=>
  simp only at hout;have kb:Keeps e (Sort.breakPatterns e a b):=kK (by omega) (by omega);have wl:IntKind.i64.wrap ((limit:Int) - 1)=((limit - 1:Nat):Int):=aH _ (by omega) (by omega);simp[c207s2,c207r7,c207r8,t10,t0,t1,t2,t4];have hbp:=xF st.heap (st.nx+2+4) id ver a b tight e hdat (aF.more hok (by omega)) (by omega) (by omega) (by omega) (by omega) (.one (.fn 161 [])) rfl;rw[hes]at hbp;generalize Sort.breakPatterns e a b=e1 at*;refine aD.imp hbp ?_;simp[c207r9,t3,wl];exact aKR (st:=⟨_,_,_⟩) (limit:=limit - 1) (wb:=false) (wp:=wp) (e:=e1) ho hid hsz hsm ab bs (by omega) (keeps.trans kb) (by rw[heap];exact gR) (Nat.le_trans nx (by simp<;>omega)) t0 t1 t2 rfl t4 t10 t11 t12 IH hout fun a' b' wb' wp' e' st' hlt hpi=>hJ a' b' (limit - 1) wb' wp' e' st' hlt hpi
theorem pD.less{id ver N M:Nat}{tight:Bool}(h:pD id ver N tight)(hm:M≤N):pD id ver M tight:=
 fun h' n0 a b limit d hlt=>h h' n0 a b limit d (by omega)
def PIx(h:Hp)(n0 id ver:Nat)(tight:Bool)(d G:Array Sp)(N k:Nat)(st:St):Prop:=∃ (a b limit:Nat) (wb wp:Bool) (e:Array Sp),k=b - a∧k≤N∧PI h n0 id ver tight d G a b limit wb wp e st
theorem aW3(id ver:Nat)(tight:Bool):∀ N,pD id ver N tight:=by
 intro N
 induction N with
 | zero=>intro h n0 a b limit d hlt;omega
 | succ N IH=>
  intro h n0 a0 b0 aKS d hlt0 hd ho hid aW4 hb0 hsz aSS hsm;refine k207.gJ (by simp) ?_;obtain⟨G,hG⟩:∃ G,G=Sort.pdq ltS d a0 b0 aKS true true:=⟨_,rfl⟩;rw[←hG];simp[c207,c207r0,c207r1]
  refine W.dO (fun k st=>PIx h n0 id ver tight d G N k st) (b0 - a0)
   ⟨a0,b0,aKS,true,true,d,rfl,by omega,⟨aW4,hb0,aSS,.refl d,by simp[hd.self],by simp<;>omega,hG.symm,by simp,by simp,by simp,by simp,by simp,by simp,by simp⟩⟩ ?_
  rintro k st ⟨a,b,limit,wb,wp,e,hk,hkN,pi⟩;obtain⟨ab,bs,lim,keeps,heap,nx,out,t0,t1,t2,t3,t4,t10,t11⟩:=pi;have hes:=keeps.1;have hdat:Data st.heap id ver e:=by rw[heap];exact bD
  have hok:aF st.heap n0:=by rw[heap];exact aF.put ho hid
  obtain⟨l,hl⟩:∃ l:Nat,l=b - a:=⟨_,rfl⟩;have w1:IntKind.i64.wrap ((b:Int) - a)=(l:Int):=aH _ (by omega) (by omega);rw[rF]at out;rw[c207b31_eq]
  by_cases h12:b - a≤12
  ·rw[if_pos h12]at out;have aNO:(l:Int)≤12:=by omega
   simp[c207r2,c207r3,c207r4,t0,t1,t2,t4,w1,aNO];have hi:=aFQ st.heap (st.nx+4+2+4) id ver a b tight e hdat (aF.more hok (by omega)) (by omega) (by omega) (by omega) (by omega) (keeps.2 hsm);rw[hes]at hi;refine aD.imp hi ?_;simp;exact eX (.inr rfl) rfl (by simp[heap,gR,out]) (aF.put ho hid)
  ·rw[if_neg h12]at out;have aNO:¬ (l:Int)≤12:=by omega
   by_cases h0:limit=0
   ·rw[if_pos h0]at out;subst h0;simp[c207r2,c207r3,c207r5,c207r6,t0,t1,t2,t3,t4,w1,aNO];have hi:=aI2 st.heap (st.nx+4+2+2+4) id ver a b tight e hdat (aF.more hok (by omega)) (by omega) (by omega) (by omega) (by omega) (keeps.2 hsm);rw[hes]at hi;refine aD.imp hi ?_;simp;exact eX (.inr rfl) rfl (by simp[heap,gR,out]) (aF.put ho hid)
   ·rw[if_neg h0]at out;have h0I:¬ (limit:Int)=0:=by omega
    have IH':pD id ver (b - a) tight:=IH.less (by omega);simp[c207r2,c207r3,c207r5,t1,t2,t3,w1,aNO,h0];refine aPZ (limit:=limit) (wb:=wb) (wp:=wp) ho hid hsz hsm (by omega) bs lim h0 keeps (by simp[heap]) (by simp;omega) (by simp[t0]) (by simp[t1]) (by simp[t2]) (by simp[t3]) (by simp[t4]) (by simp[t10]) (by simp[t11]) (by simp[hl]) IH' out fun a' b' limit' wb' wp' e' st' hlt hpi=>?_
    exact⟨b' - a',by omega,a',b',limit',wb',wp',e',rfl,by omega,hpi⟩
theorem aI6(h:Hp)(n0 id ver:Nat)(tight:Bool)(d:Array Sp)(hd:Data h id ver d)(ho:aF h n0)(hid:id<n0)(hsz:d.size≤100000)(hsm:∀ x∈d,small x):
  ISp prog 160 h n0 [.one (.ref id ver 0 d.size 2 tight),.one (.fn 161 [])] (.tup []) (aR h id ver (Sort.sort ltS d)):=by
 refine k160.gJ (by simp) ?_;have w:IntKind.u64.wrap (d.size:Int)=(d.size:Int):=iK (by omega) (by omega);have hb:Sort.bitsLen d.size≤17:=(Sort.bitsLen_le_iff d.size 17).2 (by omega);simp[c160,c160r0,c160r1,D.cT,D.isInt,w];refine aD.pure (xE d.size hsz) (by simp) (by simp) ?_;simp;refine aD.imp (aW3 id ver tight (d.size+1) h _ 0 d.size (Sort.bitsLen d.size) d (by omega) hd (aF.more ho (by omega)) (by omega) (by omega) (Nat.le_refl _) hsz (by omega) hsm) ?_;exact eX (.inl rfl) rfl rfl (aF.put ho hid)
theorem aST:PSp prog 244 [.one (.t (spans [])),.one (.t (I 0)),.one (.t (I 0)),.one (.fn 161 [])] (.tup []):=by
 refine k244.aJ (by simp) (by simp[D.closed,A.closed]) rfl ?_;have w:IntKind.i64.wrap 1=1:=wrap_i64 (by omega) (by omega);simp[c244,c244r0,w];refine W.dO (fun _ st=>st.tmps 2= .one (.t (I 0))∧st.tmps 8= .one (.t (I 1))∧st.heap=jA) 0 ⟨by simp,by simp,by simp⟩ ?_;rintro k st ⟨h2,h8,hh⟩;simp[c244b8,c244r1,h2,h8,aC]
theorem aSU:PSp prog 207 [.one (.t (spans [])),.one (.t (I 0)),.one (.t (I 0)),.one (.t (I 0)),.one (.fn 161 [])] (.tup []):=by
 refine k207.aJ (by simp) (by simp[D.closed,A.closed]) rfl ?_;simp[c207,c207r0,c207r1];refine W.dO (fun _ st=>st.tmps 0= .one (.t (spans []))∧st.tmps 1= .one (.t (I 0))∧st.tmps 2= .one (.t (I 0))∧st.tmps 4= .one (.fn 161 [])∧st.heap=jA) 0 ⟨by simp,by simp,by simp,by simp,by simp⟩ ?_;rintro k st ⟨h0,h1,h2,h4,hh⟩;have w:IntKind.i64.wrap 0=0:=wrap_i64 (by omega) (by omega);simp[c207b31,c207r2,c207r3,c207r4,h0,h1,h2,h4,hh,w];refine aD.pure aST (by simp) (by simp) ?_;simp[aC]
theorem aQ0:PSp prog 160 [.one (.t (spans [])),.one (.fn 161 [])] (.tup []):=by
 refine k160.aJ (by simp) (by simp[D.closed,A.closed]) rfl ?_;have w:IntKind.u64.wrap 0=0:=iK (by omega) (by omega);have hb:=xE 0 (by omega);have e:Sort.bitsLen 0=0:=rfl;rw[e]at hb;simp[c160,c160r0,c160r1,D.cT,D.isInt,w,spans];refine aD.pure hb (by simp) (by simp) ?_;simp;refine aD.pure aSU (by simp) (by simp[spans]) ?_;simp[aC]
def bad(x:Sp):Bool:=decide (x.2<x.1)||decide (x.1< -1152921504606846976)||decide (1152921504606846976<x.2)
def lN(n:Int):List Int→List Int
 | []=>[n]
 | x::r=>if x<n then x::lN n r else if x=n then x::r else n::x::r
def dU(l:List Sp):List Int:=l.foldl (fun out x=>lN (x.2+1) (lN x.1 out)) []
def fK(op:Int)(x y:Bool):Bool:=(op==0&&(x||y))||(op==1&&(x&&y))||(op==2&&(x&& !y))
def fV(op:Int)(a b acc:List Sp)(u v:Int):List Sp:=
 if fK op (inS a u) (inS b u)then
  match acc.getLast? with
  | some z=>if z.2+1=u then acc.dropLast++[(z.1,v - 1)] else acc++[(u,v - 1)]
  | none=>[(u,v - 1)]
 else acc
def fJ(op:Int)(a b:List Sp):List Sp→List Int→List Sp
 | acc,u::v::r=>fJ op a b (fV op a b acc u v) (v::r)
 | acc,_=>acc
def aKT(d:D)(h:Hp)(nx:Nat)(acc:List Sp):Prop:=
 (acc=[]∧d= .one (.tt 2 []))∨(acc≠[]∧∃id ver,id<nx∧d= .one (.ref id ver 0 acc.length 2 false)∧alive h id ver∧h.rows id=(acc.map fun x=>(spr x).map .t)∧h.sz id=2∧h.shut id=false)
theorem mS{h:Hp}{id ver sz:Nat}{t:Bool}{rs:List (List T)}(hr:h.rows id=rs.map (·.map .t)):(A.ref id ver 0 rs.length sz t).frz h aT= .rows sz rs:=by
 simp[aT,A.frz,hr,List.take_of_length_le,Function.comp_def]
theorem jZ{h:Hp}{id ver sz:Nat}{t:Bool}{rs:List (List T)}(ha:alive h id ver)(hz:h.sz id=sz)(hr:h.rows id=rs.map (·.map .t)):(A.ref id ver 0 rs.length sz t).cR h aT:=by
 refine⟨ha,hz,by simp[hr],fun r hr' x hx=>?_⟩;rw[hr]at hr';have:=List.mem_of_mem_drop (List.mem_of_mem_take hr');obtain⟨y,_,rfl⟩:=List.mem_map.1 this;obtain⟨z,_,rfl⟩:=List.mem_map.1 hx;simp
theorem aDT{n y:Int}:∀ {l:List Int},y∈lN n l→y=n∨y∈l
 | [],h=>by simpa[lN]using h
 | x::r,h=>by
  unfold lN at h;split at h
  ·rcases List.mem_cons.1 h with h | h
   ·simp[h]
   ·rcases aDT h with h | h<;>simp[h]
  ·split at h
   ·exact .inr h
   ·rcases List.mem_cons.1 h with h | h
    ·exact .inl h
    ·exact .inr h
theorem aKT.mono{d:D}{h:Hp}{nx nx':Nat}{acc:List Sp}(ho:aKT d h nx acc)(hn:nx≤nx'):aKT d h nx' acc:=by
 rcases ho with ho | ⟨h1,id,ver,h2,h3⟩
 ·exact .inl ho
 ·exact .inr ⟨h1,id,ver,by omega,h3⟩
def Gap:List Sp→Prop
 | []=>True
 | x::r=>x.1≤x.2∧(∀y∈r,x.2+1<y.1)∧Gap r
theorem eJ{x:Sp}{l:List Sp}{n:Int}:inS (x::l) n=(decide (x.1≤n∧n≤x.2)||inS l n):=by simp[inS]
theorem gS{n:Int}:inS [] n=false:=rfl
theorem fP{a b:List Sp}{n:Int}:inS (a++b) n=(inS a n||inS b n):=by simp[inS]
theorem eA{l:List Sp}{n:Int}:inS l n=true↔∃x∈l,x.1≤n∧n≤x.2:=by simp[inS]
theorem mT{l:List Sp}{n:Int}:inS l n=false↔∀x∈l,¬(x.1≤n∧n≤x.2):=by
 rw[←Bool.not_eq_true,eA];constructor
 ·intro h x hx hh;exact h ⟨x,hx,hh⟩
 ·rintro h ⟨x,hx,hh⟩;exact h x hx hh
theorem Gap.tail{x:Sp}{l:List Sp}(h:Gap (x::l)):Gap l:=h.2.2
theorem Gap.valid:∀ {l:List Sp},Gap l→∀x∈l,x.1≤x.2
 | [],_,x,hx=>by cases hx
 | y::l,h,x,hx=>by
  rcases List.mem_cons.1 hx with rfl | hx
  ·exact h.1
  ·exact Gap.valid h.2.2 x hx
theorem aAI{x:Sp}{l:List Sp}(h:Gap (x::l)){n:Int}(hn:inS (x::l) n=true):x.1≤n:=by
 obtain⟨y,hy,h1,h2⟩:=eA.1 hn;rcases List.mem_cons.1 hy with rfl | hy
 ·exact h1
 ·have:=h.2.1 y hy;have:=h.1;omega
theorem sN{x:Sp}{l:List Sp}(h:Gap (x::l)):inS (x::l) x.1=true:=eA.2 ⟨x,by simp,by omega,h.1⟩
theorem rG{x:Sp}{l:List Sp}(h:Gap (x::l)){n:Int}(h1:n≤x.2+1):inS l n=false:=mT.2 fun y hy=>by
 have:=h.2.1 y hy;omega
theorem nW:∀ {a b:List Sp},Gap a→Gap b→(∀n,inS a n=inS b n)→a=b
 | [],[],_,_,_=>rfl
 | [],y::b,_,hb,h=>by have:=h y.1;rw[sN hb]at this;simp[inS]at this
 | x::a,[],ha,_,h=>by have:=h x.1;rw[sN ha]at this;simp[inS]at this
 | x::a,y::b,ha,hb,h=>by
  have e1:x.1=y.1:=by
   have h1:=aAI hb (n:=x.1) (by rw[←h];exact sN ha);have h2:=aAI ha (n:=y.1) (by rw[h];exact sN hb);omega
  have side:∀ {x y:Sp} {a b:List Sp},Gap (x::a)→Gap (y::b)→(∀n,inS (x::a) n=inS (y::b) n)→x.1=y.1→y.2≤x.2:=fun{x y a b} ha hb h e=>by
   by_cases hlt:x.2<y.2
   ·have h1:=ha.1;have q1:inS (y::b) (x.2+1)=true:=eA.2 ⟨y,by simp,by omega,by omega⟩;rw[←h,eJ,rG ha (by omega)]at q1;simp at q1;omega
   ·omega
  have e2:x.2=y.2:=by
   have h1:=side ha hb h e1;have h2:=side hb ha (fun n=>(h n).symm) e1.symm;omega
  have exy:x=y:=Prod.ext e1 e2;subst exy
  have:=nW ha.tail hb.tail fun n=>by
   by_cases hlt:x.2+1<n
   ·have:=h n;rw[eJ,eJ]at this;have hd:decide (x.1≤n∧n≤x.2)=false:=by simp;omega
    rw[hd]at this;simpa using this
   ·rw[rG ha (by omega),rG hb (by omega)]
  rw[this]
theorem mU{a:List Sp}{z:Sp}:Gap (a++[z])↔Gap a∧z.1≤z.2∧∀y∈a,y.2+1<z.1:=by
 induction a with
 | nil=>simp[Gap]
 | cons x a ih=>
  simp only[List.cons_append,Gap,ih,List.mem_append,List.mem_cons,List.not_mem_nil,or_false];constructor
  ·rintro⟨h1,h2,h3,h4,h5⟩;refine⟨⟨h1,fun y hy=>h2 y (.inl hy),h3⟩,h4,?_⟩;rintro y (rfl | hy)
   ·exact h2 z (.inr rfl)
   ·exact h5 y hy
  ·rintro⟨⟨h1,h2,h3⟩,h4,h5⟩;refine⟨h1,?_,h3,h4,fun y hy=>h5 y (.inr hy)⟩;rintro y (hy | rfl)
   ·exact h2 y hy
   ·exact h5 x (.inl rfl)
def dD(acc:List Sp)(s:Sp):List Sp:=
 match acc.getLast? with
 | some z=>if s.1≤z.2+1 then acc.dropLast++[(z.1,max z.2 s.2)] else acc++[s]
 | none=>[s]
def mC(l:List Sp):List Sp:=l.foldl dD []
theorem qK{a:List Sp}{z s:Sp}:dD (a++[z]) s=if s.1≤z.2+1 then a++[(z.1,max z.2 s.2)] else a++[z]++[s]:=by simp[dD]
theorem aAJ:∀ (l acc:List Sp),Gap acc→(∀z∈acc,∀s∈l,z.1≤s.1)→l.Pairwise (fun x y=>x.1≤y.1)→(∀x∈l,x.1≤x.2)→Gap (l.foldl dD acc)∧∀n,inS (l.foldl dD acc) n=(inS acc n||inS l n)
 | [],acc,hg,_,_,_=>⟨hg,fun n=>by simp[gS]⟩
 | s::l,acc,hg,hle,hp,hv=>by
  have hs:=hv s (by simp);rw[List.pairwise_cons]at hp
  have step:Gap (dD acc s)∧(∀z∈dD acc s,∀t∈l,z.1≤t.1)∧∀n,inS (dD acc s) n=(inS acc n||decide (s.1≤n∧n≤s.2)):=by
   rcases List.eq_nil_or_concat acc with rfl | ⟨a,z,rfl⟩
   ·refine⟨by simp[dD,Gap,hs],fun z hz t ht=>?_,fun n=>by simp[dD,inS]⟩;simp[dD]at hz;subst hz;exact hp.1 t ht
   ·rw[List.concat_eq_append]at*;rw[qK];obtain⟨g1,g2,g3⟩:=mU.1 hg;have hz:=hle z (by simp) s (by simp);split
    ·rename_i hc;refine⟨mU.2 ⟨g1,by simp;omega,g3⟩,fun y hy t ht=>?_,fun n=>?_⟩
     ·rcases List.mem_append.1 hy with hy | hy
      ·exact hle y (by simp[hy]) t (by simp[ht])
      ·simp at hy;subst hy;exact hle z (by simp) t (by simp[ht])
     ·simp only[fP,eJ,gS,Bool.or_false,Bool.or_assoc];congr 1;rw[←Bool.decide_or];refine decide_eq_decide.2 ⟨fun h=>?_,fun h=>?_⟩
      ·omega
      ·omega
    ·rename_i hc;refine⟨mU.2 ⟨hg,hs,fun y hy=>?_⟩,fun y hy t ht=>?_,fun n=>by simp[fP,eJ,gS,Bool.or_assoc]⟩
     ·rcases List.mem_append.1 hy with hy | hy
      ·have:=g3 y hy;omega
      ·simp at hy;subst hy;omega
     ·rcases List.mem_append.1 hy with hy | hy
      ·exact hle y hy t (by simp[ht])
      ·simp at hy;subst hy;exact hp.1 t ht
  obtain⟨q1,q2⟩:=aAJ l (dD acc s) step.1 step.2.1 hp.2 (fun x hx=>hv x (by simp[hx]));refine⟨q1,fun n=>?_⟩;rw[List.foldl_cons,q2,step.2.2,eJ,Bool.or_assoc]
theorem aFU{l:List Sp}(hp:l.Pairwise fun x y=>x.1≤y.1)(hv:∀ x∈l,x.1≤x.2):Gap (mC l)∧∀n,inS (mC l) n=inS l n:=by
 obtain⟨h1,h2⟩:=aAJ l [] trivial (by simp) hp hv;exact⟨h1,fun n=>by rw[mC,h2];simp[gS]⟩
theorem aKU{l l':List Sp}(h:l.Perm l')(n:Int):inS l n=inS l' n:=by
 rw[Bool.eq_iff_iff,eA,eA];constructor
 ·rintro⟨x,hx,hh⟩;exact⟨x,h.mem_iff.1 hx,hh⟩
 ·rintro⟨x,hx,hh⟩;exact⟨x,h.mem_iff.2 hx,hh⟩
def meet(x y:Sp):List Sp:=if max x.1 y.1≤min x.2 y.2 then[(max x.1 y.1,min x.2 y.2)] else[]
def cI(a b:List Sp):List Sp:=a.flatMap fun x=>b.flatMap fun y=>meet x y
theorem uT{α:Type}{l:List α}{f:α→List Sp}{n:Int}:inS (l.flatMap f) n=l.any fun x=>inS (f x) n:=by
 induction l with
 | nil=>rfl
 | cons x l ih=>simp[fP,ih]
theorem aNP{x y:Sp}{n:Int}:inS (meet x y) n=(decide (x.1≤n∧n≤x.2)&&decide (y.1≤n∧n≤y.2)):=by
 unfold meet;split
 ·rename_i h;rw[eJ,gS,Bool.or_false,←Bool.decide_and];exact decide_eq_decide.2 ⟨fun h=>by simp at h;omega,fun h=>by simp;omega⟩
 ·rename_i h;rw[gS,←Bool.decide_and];symm;simp;omega
theorem aDU{x:Sp}{n:Int}:∀ {b:List Sp},(b.any fun y=>inS (meet x y) n)=(decide (x.1≤n∧n≤x.2)&&inS b n)
 | []=>by simp[gS]
 | y::b=>by rw[List.any_cons,aDU,aNP,eJ,Bool.and_or_distrib_left]
theorem xJ:∀ {a b:List Sp} {n:Int},inS (cI a b) n=(inS a n&&inS b n)
 | [],_,_=>rfl
 | x::a,b,n=>by
  have ih:=xJ (a:=a) (b:=b) (n:=n);unfold cI at*;rw[List.flatMap_cons,fP,ih,uT,aDU,eJ,Bool.and_or_distrib_right]
def iL(y x:Sp):List Sp:=(if x.1<y.1 then[(x.1,min x.2 (y.1 - 1))] else[])++(if y.2<x.2 then[(max x.1 (y.2+1),x.2)] else[])
def iU(a:List Sp)(y:Sp):List Sp:=a.flatMap (iL y)
def bE(a b:List Sp):List Sp:=b.foldl iU a
theorem aKV{x y:Sp}(_hx:x.1≤x.2)(hy:y.1≤y.2){n:Int}:inS (iL y x) n=(decide (x.1≤n∧n≤x.2)&& !decide (y.1≤n∧n≤y.2)):=by
 unfold iL;rw[Bool.eq_iff_iff];simp only[fP,Bool.or_eq_true,Bool.and_eq_true,decide_eq_true_eq,Bool.not_eq_true',decide_eq_false_iff_not];split<;>split<;>simp[eJ,gS]<;>omega
theorem aAK{x y z:Sp}(hx:x.1≤x.2)(_hy:y.1≤y.2)(hz:z∈iL y x):z.1≤z.2∧x.1≤z.1∧z.2≤x.2:=by
 unfold iL at hz;rcases List.mem_append.1 hz with h | h<;>split at h<;>simp at h<;>subst h<;>simp<;>omega
theorem aNQ{a:List Sp}{y:Sp}(ha:∀ x∈a,x.1≤x.2)(hy:y.1≤y.2){n:Int}:inS (iU a y) n=(inS a n&& !decide (y.1≤n∧n≤y.2)):=by
 unfold iU;rw[uT]
 induction a with
 | nil=>rfl
 | cons x a ih=>
  rw[List.any_cons,ih (fun z hz=>ha z (by simp[hz])),aKV (ha x (by simp)) hy,eJ,Bool.and_or_distrib_right]
theorem xK{a:List Sp}{y z:Sp}(ha:∀ x∈a,x.1≤x.2)(hy:y.1≤y.2)(hz:z∈iU a y):z.1≤z.2∧∃x∈a,x.1≤z.1∧z.2≤x.2:=by
 obtain⟨x,hx,h⟩:=List.mem_flatMap.1 hz;obtain⟨h1,h2⟩:=aAK (ha x hx) hy h;exact⟨h1,x,hx,h2⟩
theorem pE:∀ {b a:List Sp},(∀x∈a,x.1≤x.2)→(∀y∈b,y.1≤y.2)→∀{n:Int},inS (bE a b) n=(inS a n&& !inS b n)
 | [],a,_,_,n=>by simp[bE,gS]
 | y::b,a,ha,hb,n=>by
  have:=pE (b:=b) (a:=iU a y) (fun z hz=>(xK ha (hb y (by simp)) hz).1) (fun z hz=>hb z (by simp[hz])) (n:=n);rw[bE]at this;rw[bE,List.foldl_cons,this,aNQ ha (hb y (by simp)),eJ];cases inS a n<;>cases decide (y.1≤n∧n≤y.2)<;>simp
def Asc:List Sp→Prop
 | []=>True
 | x::r=>x.1≤x.2∧(∀y∈r,x.2<y.1)∧Asc r
theorem Gap.asc:∀ {l:List Sp},Gap l→Asc l
 | [],_=>trivial
 | x::l,h=>⟨h.1,fun y hy=>by have:=h.2.1 y hy;omega,Gap.asc h.2.2⟩
theorem Asc.valid:∀ {l:List Sp},Asc l→∀x∈l,x.1≤x.2
 | [],_,x,hx=>by cases hx
 | y::l,h,x,hx=>by
  rcases List.mem_cons.1 hx with rfl | hx
  ·exact h.1
  ·exact Asc.valid h.2.2 x hx
theorem Asc.append:∀ {a b:List Sp},Asc a→Asc b→(∀x∈a,∀y∈b,x.2<y.1)→Asc (a++b)
 | [],_,_,hb,_=>hb
 | x::a,b,ha,hb,h=>⟨ha.1,fun y hy=>by
   rcases List.mem_append.1 hy with hy | hy
   ·exact ha.2.1 y hy
   ·exact h x (by simp) y hy,Asc.append ha.2.2 hb fun z hz y hy=>h z (by simp[hz]) y hy⟩
theorem aI7{x y:Sp}(hx:x.1≤x.2)(hy:y.1≤y.2):Asc (iL y x):=by
 unfold iL;split<;>split<;>simp[Asc]<;>omega
theorem aDV:∀ {a:List Sp} {y:Sp},Asc a→y.1≤y.2→Asc (iU a y)
 | [],_,_,_=>trivial
 | x::a,y,ha,hy=>by
  rw[iU,List.flatMap_cons];refine Asc.append (aI7 ha.1 hy) (aDV ha.2.2 hy) fun z hz t ht=>?_
  have h1:=aAK ha.1 hy hz;obtain⟨h2,x',hx',h3⟩:=xK (Asc.valid ha.2.2) hy ht;have:=ha.2.1 x' hx';omega
theorem xL:∀ {a:List Sp} {y:Sp},(∀x∈a,y.1≤x.1)→(iU a y).length≤a.length
 | [],_,_=>by simp[iU]
 | x::a,y,h=>by
  have h1:=xL (a:=a) (y:=y) fun z hz=>h z (by simp[hz])
  have h2:=h x (by simp);rw[iU]at h1;rw[iU,List.flatMap_cons,List.length_append,List.length_cons]
  have:(iL y x).length≤1:=by
   unfold iL;rw[if_neg (by omega)];split<;>simp
  omega
theorem xM:∀ {a:List Sp} {y:Sp},Asc a→y.1≤y.2→(iU a y).length≤a.length+1
 | [],_,_,_=>by simp[iU]
 | x::a,y,ha,hy=>by
  have h1:=xM ha.2.2 hy;have h2:(x.1<y.1∧y.2<x.2)→(iU a y).length≤a.length:=fun h=>xL fun z hz=>by have:=ha.2.1 z hz;omega
  have h3:(iL y x).length≤2:=by unfold iL;split<;>split<;>simp
  have h4:¬ (x.1<y.1∧y.2<x.2)→(iL y x).length≤1:=fun h=>by
   unfold iL;split<;>split<;>simp;exact h ⟨by assumption,by assumption⟩
  have e:(iU (x::a) y).length=(iL y x).length+(iU a y).length:=by rw[iU,List.flatMap_cons,List.length_append];rfl
  rw[e,List.length_cons]
  by_cases hc:x.1<y.1∧y.2<x.2
  ·have:=h2 hc;omega
  ·have:=h4 hc;omega
theorem gT:∀ {b a:List Sp},Asc a→(∀y∈b,y.1≤y.2)→Asc (bE a b)∧(bE a b).length≤a.length+b.length∧∀z∈bE a b,∃x∈a,x.1≤z.1∧z.2≤x.2
 | [],a,ha,_=>⟨ha,by simp[bE],fun z hz=>⟨z,hz,by omega,by omega⟩⟩
 | y::b,a,ha,hb=>by
  have hy:=hb y (by simp);obtain⟨h1,h2,h3⟩:=gT (b:=b) (a:=iU a y) (aDV ha hy) fun z hz=>hb z (by simp[hz])
  rw[bE]at h1 h2 h3;rw[bE,List.foldl_cons];refine⟨h1,?_,fun z hz=>?_⟩
  ·have:=xM ha hy;simp only[List.length_cons];omega
  ·obtain⟨x,hx,h4⟩:=h3 z hz;obtain⟨_,x',hx',h5⟩:=xK ha.valid hy hx;exact⟨x',hx',by omega,by omega⟩
theorem nX{n y:Int}:∀ {l:List Int},(y=n∨y∈l)→y∈lN n l
 | [],h=>by simpa[lN]using h
 | x::r,h=>by
  unfold lN;split
  ·rcases h with h | h
   ·exact List.mem_cons_of_mem _ (nX (.inl h))
   ·rcases List.mem_cons.1 h with h | h
    ·simp[h]
    ·exact List.mem_cons_of_mem _ (nX (.inr h))
  ·split
   ·rename_i e;rcases h with h | h
    ·simp[h,e]
    ·exact h
   ·rcases h with h | h
    ·simp[h]
    ·exact List.mem_cons_of_mem _ h
theorem pF{n:Int}:∀ {l:List Int},l.Pairwise (· < ·)→(lN n l).Pairwise (· < ·)
 | [],_=>by simp[lN]
 | x::r,h=>by
  rw[List.pairwise_cons]at h;unfold lN;split
  ·refine List.pairwise_cons.2 ⟨fun y hy=>?_,pF h.2⟩;rcases aDT hy with rfl | hy
   ·assumption
   ·exact h.1 y hy
  ·split
   ·exact List.pairwise_cons.2 h
   ·refine List.pairwise_cons.2 ⟨fun y hy=>?_,List.pairwise_cons.2 h⟩;rcases List.mem_cons.1 hy with rfl | hy
    ·omega
    ·have:=h.1 y hy;omega
theorem aBY(l:List Sp):(dU l).Pairwise (· < ·)∧∀x∈l,x.1∈dU l∧x.2+1∈dU l:=by
 have:∀ (l:List Sp) (o:List Int),o.Pairwise (· < ·)→(l.foldl (fun out x=>lN (x.2+1) (lN x.1 out)) o).Pairwise (· < ·)∧(∀y∈o,y∈l.foldl (fun out x=>lN (x.2+1) (lN x.1 out)) o)∧
   ∀x∈l,x.1∈l.foldl (fun out x=>lN (x.2+1) (lN x.1 out)) o∧x.2+1∈l.foldl (fun out x=>lN (x.2+1) (lN x.1 out)) o:=by
  intro l
  induction l with
  | nil=>intro o h;exact⟨h,fun y hy=>hy,by simp⟩
  | cons x r ih=>
   intro o h;obtain⟨h1,h2,h3⟩:=ih (lN (x.2+1) (lN x.1 o)) (pF (pF h));refine⟨h1,fun y hy=>h2 y (nX (.inr (nX (.inr hy)))),fun z hz=>?_⟩;rcases List.mem_cons.1 hz with rfl | hz
   ·exact⟨h2 _ (nX (.inr (nX (.inl rfl)))),h2 _ (nX (.inl rfl))⟩
   ·exact h3 z hz
 obtain⟨h1,_,h3⟩:=this l [] List.Pairwise.nil;exact⟨h1,h3⟩
theorem xN{op:Int}:fK op false false=false:=by simp[fK]
theorem yG{op:Int}{a b acc:List Sp}{z:Sp}{u v:Int}(hs:fK op (inS a u) (inS b u)=true):fV op a b (acc++[z]) u v=if z.2+1=u then acc++[(z.1,v - 1)] else acc++[z]++[(u,v - 1)]:=by simp[fV,hs]
theorem aAL(op:Int)(a b:List Sp):∀ (l:List Int) (acc:List Sp),l.Pairwise (· < ·)→Gap acc→(∀z∈acc,∀e∈l,z.2<e)→(∀n,(∀e∈l,n<e)→inS acc n=fK op (inS a n) (inS b n))→
  (∀x∈a++b,((∀e∈l,x.1<e)∨x.1∈l)∧((∀e∈l,x.2+1<e)∨x.2+1∈l))→Gap (fJ op a b acc l)∧∀n,inS (fJ op a b acc l) n=fK op (inS a n) (inS b n)
 | [],acc,_,hg,_,hacc,_=>⟨hg,fun n=>hacc n (by simp)⟩
 | [u],acc,_,hg,hz,hacc,hE=>by
  refine⟨hg,fun n=>?_⟩;show inS acc n=_
  by_cases hn:n<u
  ·exact hacc n (by simpa using hn)
  ·have h1:inS acc n=false:=mT.2 fun z hz'=>by have:=hz z hz' u (by simp);omega
   have out:∀ c:List Sp,(∀x∈c,x∈a++b)→inS c n=false:=fun c hc=>mT.2 fun x hx=>by
    have:=(hE x (hc x hx)).2;simp at this;omega
   rw[h1,out a (fun x hx=>by simp[hx]),out b (fun x hx=>by simp[hx]),xN]
 | u::v::r,acc,hp,hg,hz,hacc,hE=>by
  rw[List.pairwise_cons]at hp;have huv:u<v:=hp.1 v (by simp);have hvr:=hp.2;rw[List.pairwise_cons]at hvr
  have hvle:∀ e∈v::r,v≤e:=fun e he=>by
   rcases List.mem_cons.1 he with rfl | he
   ·omega
   ·have:=hvr.1 e he;omega
  -- between two edges nothing changes
  have edge:∀ e:Int,((∀e'∈u::v::r,e<e')∨e∈u::v::r)→e≤u∨v≤e:=fun e he=>by
   rcases he with he | he
   ·have:=he u (by simp);omega
   ·rcases List.mem_cons.1 he with rfl | he
    ·omega
    ·have:=hvle e he;omega
  have same:∀ c:List Sp,(∀x∈c,x∈a++b)→∀n,u≤n→n<v→inS c n=inS c u:=fun c hc n h1 h2=>by
   rw[Bool.eq_iff_iff,eA,eA];constructor
   ·rintro⟨x,hx,h3,h4⟩;have e1:=edge _ (hE x (hc x hx)).1;have e2:=edge _ (hE x (hc x hx)).2;exact⟨x,hx,by omega,by omega⟩
   ·rintro⟨x,hx,h3,h4⟩;have e1:=edge _ (hE x (hc x hx)).1;have e2:=edge _ (hE x (hc x hx)).2;exact⟨x,hx,by omega,by omega⟩
  have sa:=same a (fun x hx=>by simp[hx]);have sb:=same b (fun x hx=>by simp[hx]);have hzu:∀ z∈acc,z.2<u:=fun z hz'=>hz z hz' u (by simp)
  have haccu:∀ n,n<u→inS acc n=fK op (inS a n) (inS b n):=fun n hn=>hacc n fun e he=>by
   rcases List.mem_cons.1 he with rfl | he
   ·exact hn
   ·have:=hvle e he;omega
  have haccn:∀ n,u≤n→inS acc n=false:=fun n hn=>mT.2 fun z hz'=>by have:=hzu z hz';omega
  have step:Gap (fV op a b acc u v)∧(∀z∈fV op a b acc u v,z.2<v)∧∀n,n<v→inS (fV op a b acc u v) n=fK op (inS a n) (inS b n):=by
   cases hs:fK op (inS a u) (inS b u)with
   | false=>
    have e:fV op a b acc u v=acc:=by simp[fV,hs]
    rw[e];refine⟨hg,fun z hz'=>by have:=hzu z hz';omega,fun n hn=>?_⟩
    by_cases h:n<u
    ·exact haccu n h
    ·rw[haccn n (by omega),sa n (by omega) hn,sb n (by omega) hn,hs]
   | true=>
    have val:∀ n,n<v→(inS acc n||decide (u≤n∧n≤v - 1))=fK op (inS a n) (inS b n):=fun n hn=>by
     by_cases h:n<u
     ·have:decide (u≤n∧n≤v - 1)=false:=by simp;omega
      rw[this,Bool.or_false,haccu n h]
     ·have:decide (u≤n∧n≤v - 1)=true:=by simp;omega
      rw[this,Bool.or_true,sa n (by omega) hn,sb n (by omega) hn,hs]
    rcases List.eq_nil_or_concat acc with rfl | ⟨acc',z,rfl⟩
    ·have e:fV op a b [] u v=[(u,v - 1)]:=by simp[fV,hs]
     rw[e];refine⟨by simp[Gap];omega,fun z hz'=>by simp at hz';subst hz';simp;omega,fun n hn=>?_⟩;rw[←val n hn,eJ,gS,Bool.or_false,Bool.false_or]
    ·rw[List.concat_eq_append]at*;obtain⟨g1,g2,g3⟩:=mU.1 hg;have hz2:=hzu z (by simp);rw[yG hs];split
     ·rename_i hc;refine⟨mU.2 ⟨g1,by simp;omega,g3⟩,fun y hy=>?_,fun n hn=>?_⟩
      ·rcases List.mem_append.1 hy with hy | hy
       ·have:=hzu y (by simp[hy]);omega
       ·simp at hy;subst hy;simp;omega
      ·rw[←val n hn];simp only[fP,eJ,gS,Bool.or_false,Bool.or_assoc];congr 1;rw[←Bool.decide_or];exact decide_eq_decide.2 ⟨fun h=>by omega,fun h=>by omega⟩
     ·rename_i hc;refine⟨mU.2 ⟨hg,by simp;omega,fun y hy=>?_⟩,fun y hy=>?_,fun n hn=>?_⟩
      ·rcases List.mem_append.1 hy with hy | hy
       ·have:=g3 y hy;simp;omega
       ·simp at hy;subst hy;simp;omega
      ·rcases List.mem_append.1 hy with hy | hy
       ·have:=hzu y hy;omega
       ·simp at hy;subst hy;simp;omega
      ·rw[←val n hn,fP,eJ,gS,Bool.or_false]
  show Gap (fJ op a b (fV op a b acc u v) (v::r))∧∀n,inS (fJ op a b (fV op a b acc u v) (v::r)) n=_;refine aAL op a b (v::r) _ hp.2 step.1 (fun z hz' e he=>by have:=step.2.1 z hz';have:=hvle e he;omega) (fun n hn=>step.2.2 n (hn v (by simp))) fun x hx=>?_
  have tail:∀ e:Int,((∀e'∈u::v::r,e<e')∨e∈u::v::r)→(∀e'∈v::r,e<e')∨e∈v::r:=fun e he=>by
   rcases he with he | he
   ·exact .inl fun e' he'=>he e' (List.mem_cons_of_mem _ he')
   ·rcases List.mem_cons.1 he with rfl | he
    ·exact .inl fun e' he'=>hp.1 e' he'
    ·exact .inr he
  exact⟨tail _ (hE x hx).1,tail _ (hE x hx).2⟩
theorem gU(op:Int)(a b:List Sp):Gap (fJ op a b [] (dU (a++b)))∧∀n,inS (fJ op a b [] (dU (a++b))) n=fK op (inS a n) (inS b n):=by
 obtain⟨h1,h2⟩:=aBY (a++b);refine aAL op a b _ [] h1 trivial (by simp) (fun n hn=>?_) fun x hx=>⟨.inr (h2 x hx).1,.inr (h2 x hx).2⟩
 have out:∀ c:List Sp,(∀x∈c,x∈a++b)→inS c n=false:=fun c hc=>mT.2 fun x hx=>by
  have:=hn _ (h2 x (hc x hx)).1;omega
 rw[out a (fun x hx=>by simp[hx]),out b (fun x hx=>by simp[hx]),xN,gS]
theorem aQ1(l:List Sp)(hne:l≠[])(hl:l.length≤100000)(h:Hp)(n0:Nat)(ho:aF h n0):
  ISp prog 159 h n0 [.one (.t (spans l))] (.one (.ref n0 0 0 l.length 2 false)) (aR h n0 0 l.toArray):=by
 refine k159.aOP (by simp) ?_;obtain⟨x,r,rfl⟩:∃ x r,l=x::r:=by cases l with | nil=>exact absurd rfl hne | cons x r=>exact⟨x,r,rfl⟩
 simp[c159,c159r0,c159r1,c159r3,spans,D.notNil];have hcell:(fun y=>List.map A.t (spr y))=cell:=by funext y;rfl
 refine⟨by simp at hl;omega,n0+1+2+2,.inr rfl,⟨by simp,by simp⟩,⟨.ref (n0+1+2+2) 0 0 (r.length+1) 2 false,rfl,by simp[A.only],by simp[A.ren,rY]⟩,by omega,fun id hid=>?_,?_,⟨.arr 0 false 2 (List.map A.t (spr x)::List.map ((fun x=>List.map A.t x)∘spr) r),by simp[Hp.set]⟩,fun id hid=>?_,fun id o hid=>?_⟩
 ·simp only[aR,Hp.set];rw[if_neg (by omega),if_neg (by omega)]
 ·simp only[aR,Hp.set,if_true];simp only[List.map_cons,←hcell];rfl
 ·simp only[aR,Hp.set];rw[if_neg (by omega)];exact ho.above id (by omega)
 ·simp only[aR,Hp.set]at hid;split at hid
  ·simp only[sI9]at hid;subst hid;simp[O.below,cell,A.below]
  ·exact ho.below id o hid
theorem aI8:PSp prog 159 [.one (.t (spans []))] (.one (.t (spans []))):=by
 refine k159.psp (by simp) rfl rfl ?_;unfold c159;refine W.seq (W.gY _ _ _ ?_);simp[awp,c159r0,oQ,rR];refine W.seq (W.seq (W.aM0 (sz:=2) rfl fun b=>?_))
 have last:∀ st':St,st'.tmps 0= .one (.t (spans []))→st'.heap=jA→W prog 8 (.seq (.region 3 false 4 c159r3) .ret) (aC [.tmp 2] (.one (.t (spans [])))) st':=fun st' e0 e1=>by
  refine W.gY _ _ _ ?_;simp[awp,c159r3,oQ,rR,e0,e1,spans,aC]
 show W _ _ _ _ _;refine W.gY _ _ _ ?_;cases b
 ·simp[awp,rR];exact last _ rfl rfl
 ·simp[awp,c159r2,oQ,rR,spans,aC]
def sO(l:List Sp):List Sp:=(Sort.sort ltS l.toArray).toList
theorem pZ(l:List Sp):(sO l).Perm l∧(sO l).Pairwise fun x y=>x.1≤y.1:=by
 obtain⟨h1,h2⟩:=Sort.sort_sorts ltS sK l.toArray;unfold sO;generalize Sort.sort ltS l.toArray=e at*;obtain⟨s,_,p⟩:=h1;have e1:(e.extract 0 l.toArray.size).toList=e.toList:=by rw[←s];simp
 have e2:(l.toArray.extract 0 l.toArray.size).toList=l:=by simp
 rw[e1,e2]at p;refine⟨p,?_⟩;rw[List.pairwise_iff_getElem];intro i j hi hj hij;have hi':i<e.size:=by simpa using hi
 have hj':j<e.size:=by simpa using hj
 have:=h2 i j (Nat.zero_le _) hij (by rw[←s];exact hj');rw[getElem!_pos e i hi',getElem!_pos e j hj']at this;simp[ltS]at this;simpa using this
theorem aAM(l:List Sp):(sO l).length=l.length:=(pZ l).1.length_eq
def bK(l:List Sp):List Sp:=mC (sO l)
theorem gK{l:List Sp}(hv:∀ x∈l,x.1≤x.2):Gap (bK l)∧∀n,inS (bK l) n=inS l n:=by
 obtain⟨h1,h2⟩:=pZ l;obtain⟨g1,g2⟩:=aFU h2 fun x hx=>hv x (h1.mem_iff.1 hx)
 exact⟨g1,fun n=>by rw[bK,g2,aKU h1]⟩
theorem aI9(x:Sp):∀ y∈cell x,y.nC=true:=fun y hy=>by simp[cell]at hy;rcases hy with rfl | rfl<;>rfl
def tQ(d:D)(h:Hp)(nx:Nat)(acc:List Sp)(did:Nat):Prop:=
 (acc=[]∧d= .one (.tt 2 []))∨(acc≠[]∧∃id ver,id<nx∧id≠did∧d= .one (.ref id ver 0 acc.length 2 false)∧alive h id ver∧h.rows id=acc.map cell∧h.sz id=2∧h.shut id=false)
theorem Data.set{h:Hp}{id ver j:Nat}{d:Array Sp}{o:O}(hd:Data h id ver d)(hne:id≠j):Data (h.set j o) id ver d:=by
 obtain⟨a,b,c,e⟩:=hd;refine⟨?_,?_,?_,?_⟩
 ·unfold Ab.alive Hp.set at*; rw[if_neg hne];exact a
 ·unfold Hp.rows Hp.set at*; rw[if_neg hne];exact b
 ·unfold Hp.sz Hp.set at*; rw[if_neg hne];exact c
 ·unfold Hp.shut Hp.set at*; rw[if_neg hne];exact e
theorem vH(l:List Sp)(hl:l.length≤100000)(hok:∀ x∈l,bad x=false):PSp prog 130 [.one (.t (spans l))] (.one (.t (spans (bK l)))):=by
 by_cases hne:l=[]
 ·subst hne
  have e:bK []=[]:=by
   have:=(pZ []).1;have:sO []=[]:=List.Perm.eq_nil this;rw[bK,this];rfl
  rw[e];refine k130.aJ (by simp) rfl rfl ?_;simp[c130,c130r0,c130r1];refine aD.pure aI8 (by simp) (by simp) ?_;simp[c130r2,spans];refine aD.pure aQ0 (by simp[D.cR]) (by simp[D.frz,spans]) ?_;simp[c130r3,c130r4];refine W.dO (fun _ st=>st.tmps 3= .one (.tt 2 [])∧st.tmps 12= .one (.t (I 0))∧st.tmps 13= .one (.t (I 0))) 0 ⟨by simp,by simp,by simp⟩ ?_;rintro k st ⟨h3,h12,h13⟩;simp[c130b12,c130r5,h3,h12,h13,c130r12,aC]
 obtain⟨S,hS⟩:∃ S,S=sO l:=⟨_,rfl⟩;have hSl:S.length=l.length:=by rw[hS];exact aAM l
 have aW5:∀ x∈S,bad x=false:=fun x hx=>hok x ((pZ l).1.mem_iff.1 (by rw[←hS];exact hx))
 have e:bK l=mC S:=by rw[hS];rfl
 have hsort:(Sort.sort ltS l.toArray)=S.toArray:=by rw[hS];simp[sO]
 rw[e];refine k130.aJ (by simp) rfl rfl ?_;simp[c130,c130r0,c130r1];have ho0:∀ n,aF jA n:=fun n=>⟨fun _ _=>rfl,fun id o h=>by cases h⟩
 refine aD.imp (aQ1 l hne (by omega) jA _ (ho0 _)) ?_;simp[c130r2]
 have hsm:∀ x∈l.toArray,small x:=fun x hx=>by
  have:=hok x (by simpa using hx);simp[bad]at this;simp[small];omega
 have hsf:=aI6 (aR jA 2 0 l.toArray) 5 2 0 false l.toArray bD (aF.more (aF.put (ho0 3) (by omega)) (by omega)) (by omega) (by simpa using hl) hsm;rw[gR,hsort]at hsf;simp only[List.size_toArray]at hsf;refine aD.imp hsf ?_;have aSV:Data (aR jA 2 0 S.toArray) 2 0 S.toArray:=bD;generalize aR jA 2 0 S.toArray=g at*;simp[c130r3,c130r4]
 refine W.dO (fun k st=>∃ (i:Nat) (acc:List Sp),k=S.length - i∧i≤S.length∧st.tmps 11= .one (.ref 2 0 0 S.length 2 false)∧st.tmps 12= .one (.t (I S.length))∧st.tmps 13= .one (.t (I i))∧3≤st.nx∧Data st.heap 2 0 S.toArray∧
  tQ (st.tmps 3) st.heap st.nx acc 2∧(S.drop i).foldl dD acc=mC S∧acc.length≤i∧∀z∈acc,-1152921504606846976≤z.2∧z.2≤1152921504606846976) S.length
  ⟨0,[],by simp,by simp,by simp[hSl],by simp[hSl],by simp,by simp,by simp[aSV],by simp[tQ],by simp[mC],by simp,by simp⟩ ?_
 rintro k st ⟨i,acc,hk,hi,h11,h12,h13,hnx,hdat,h3,hout,hacc,hbd⟩;rcases Nat.lt_or_ge i S.length with hlt | hge
 ·have gF:(i:Int)<S.length:=by omega
  have hia:i<S.toArray.size:=by simpa using hlt
  have hsi:=aW5 S[i] (gL9 hlt);simp[bad]at hsi;have hw:IntKind.i64.wrap ((i:Int)+1)=((i+1:Nat):Int):=aH _ (by omega) (by omega);have hln:(st.heap.rows 2).length=S.length:=by rw[hdat.rows];simp
  have g1:∀ hh,(st.heap.rows 2)[i]'hh=cell S[i]:=fun hh=>by have:=rowAt hdat hia hh;simpa using this
  have hfold:(S.drop (i+1)).foldl dD (dD acc S[i])=mC S:=by
   rw[←hout,List.drop_eq_getElem_cons hlt];rfl
  have hd2:∀ c,¬(2=st.nx+c):=fun c=>by omega
  have hd2':¬ (2=st.nx):=by omega
  simp[c130b12,c130r5,c130r6,c130r7,h11,h12,h13,hlt,gF,hdat.alive,hdat.sz,hln,g1,bG];rcases h3 with⟨rfl,h3⟩ | ⟨hne',id,ver,hid,aSW,h3,q1,q2,q3,q4⟩
  ·simp[h3,c130r8,c130r10,c130r11,h11,h12,h13,hw,dY];refine⟨bH _,⟨bH _,aI9 _⟩,S.length - (i+1),by omega,i+1,rfl,by omega,by omega,((hdat.set (by omega)).set (by omega)).set (by omega),[S[i]],.inr ⟨by simp,_,0,?_,?_,rfl,by simp,?_,by simp,by simp⟩,hfold,by simp,fun a b hab=>by rw[List.mem_singleton]at hab;rw[←hab]at hsi;simp at hsi;omega⟩
   ·omega
   ·omega
   ·rw[dW,if_pos rfl];rfl
  ·obtain⟨acc',z,rfl⟩:∃ acc' z,acc=acc'++[z]:=by
    rcases List.eq_nil_or_concat acc with e | ⟨x,y,e⟩
    ·exact absurd e hne'
    ·exact⟨x,y,by simpa using e⟩
   have hz:=hbd z (by simp);have hlen:acc'.length+1≤i:=by simpa using hacc
   have hw3:IntKind.i64.wrap (acc'.length:Int)=acc'.length:=wrap_i64 (by omega) (by omega);have hw4:IntKind.i64.wrap (z.2+1)=z.2+1:=wrap_i64 (by omega) (by omega);have hgE:∀ hh:acc'.length<(st.heap.rows id).length,(st.heap.rows id)[acc'.length]'hh=cell z:=fun hh=>by simp[q2]
   have xO:(st.heap.rows id).length=acc'.length+1:=by rw[q2];simp
   have hidn:∀ c,¬id=st.nx+c:=fun c=>by omega
   have hidn':¬ id=st.nx:=by omega
   rw[qK]at hfold;have aDW:¬ id=st.nx+1+2:=by omega
   have hn2:¬ st.nx+1+2=id:=by omega
   simp[h3,c130r8,hw3,hw4,q1,q3,hgE,xO,aDW,cell];refine⟨by omega,fun hle=>?_,fun hgt=>?_⟩
   ·rw[if_pos hle]at hfold;simp[c130r9,c130r11,h3,h11,h12,h13,hw,hw3,q1,q3,q4,hgE,xO,aDW,cell];have hmax:(if z.2<S[i].2 then S[i].2 else z.2)=max z.2 S[i].2:=by rw[Int.max_def];split<;>split<;>omega
    rw[hmax];refine⟨by omega,S.length - (i+1),by omega,i+1,rfl,by omega,by omega,((hdat.set (by omega)).set (by omega)).set (by omega),acc'++[(z.1,max z.2 S[i].2)],.inr ⟨by simp,id,ver,by omega,aSW,by simp,by simp,?_,by simp,by simp⟩,hfold,by simp;omega,fun a b hab=>?_⟩
    ·rw[dW,if_pos rfl,q2];simp[cell]
    ·rcases List.mem_append.1 hab with h | h
     ·exact hbd (a,b) (by simp[h])
     ·simp at h;omega
   ·have hng:¬ S[i].1≤z.2+1:=by omega
    rw[if_neg hng]at hfold;simp[c130r10,c130r11,h3,h11,h12,h13,hw,q1,q3,q4,xO,aDW];refine⟨by omega,S.length - (i+1),by omega,i+1,rfl,by omega,by omega,((hdat.set (by omega)).set (by omega)).set (by omega),acc'++[z]++[S[i]],.inr ⟨by simp,id,ver+1,by omega,aSW,by simp,by simp,?_,by simp,by simp⟩,hfold,by simp;omega,fun a b hab=>?_⟩
    ·rw[dW,if_pos rfl,q2];simp[cell]
    ·rcases List.mem_append.1 hab with h | h
     ·exact hbd (a,b) h
     ·rw[List.mem_singleton]at h;rw[←h]at hsi;simp at hsi;omega
 ·have hi':i=S.length:=by omega
  subst hi';have gF:¬ (S.length:Int)<S.length:=by omega
  simp at hout;rw[←hout];simp[c130b12,c130r5,h12,h13,c130r12,aC];rcases h3 with⟨rfl,h3⟩ | ⟨_,id,ver,_,_,h3,q1,q2,q3,q4⟩
  ·simp[h3,spans]
  ·have e1:(acc.map spr).length=acc.length:=by simp
   rw[h3,←e1];have q2':st.heap.rows id=(acc.map spr).map (·.map .t):=by rw[q2,List.map_map];rfl
   refine⟨jZ q1 q3 q2',?_⟩;simp only[mS q2',spans]
end Go.Proofs.YtdpbobkcbakpfaaGreatDoor
