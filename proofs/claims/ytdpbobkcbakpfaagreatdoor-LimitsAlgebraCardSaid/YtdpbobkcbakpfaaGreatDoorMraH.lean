/- Texts of this proof. -/
import Derived.Test.YtdpbobkcbakpfaaGreatDoorProg
import Derived.Sort.AssemblyPlain
import Derived.Sort.LotD5
import Derived.Test.YtdpbobkcbakpfaaGreatDoorMraG
namespace Go.Proofs.YtdpbobkcbakpfaaGreatDoor
open Go Go.Ab
open Go.Proofs.Tryz
set_option maxRecDepth 100000
set_option maxHeartbeats 4000000
def b72:List Seg:=[zX 2 2 0,zX 3 2 1,zM 4 0]
def b73:List Seg:=[zf 5 0 2,zl 6 5,zf 7 0 3,zl 8 7,zB 9 .sub 6 8,zv 4 9]
def c161:aB:=zs 0 3 b72 (zs 1 6 b73 .ret)
theorem k161:Compiled prog 161 10 [.tmp 4] c161:=kMk [] func161
def b2k:List Seg:=[zv 5 0,zL 6 5,zv 4 6]
def b2l:List Seg:=[zv 7 0,zv 8 4,zv 9 4,zo 10 (.dO .u64 (.tmp 9)),zq 11 208 [10],zv 12 1,zc 13 207 [.tmp 7,zi 0,.tmp 8,.tmp 11,.tmp 12]]
def c160:aB:=zs 0 3 b2k (zr 1 7 b2l)
theorem k160:Compiled prog 160 14 [] c160:=kMk [] func160
def b2m:List Seg:=[zW 10 true]
def b2n:List Seg:=[zW 11 true]
def a3i:List Seg:=[zv 21 2,zv 22 1,zB 23 .sub 21 22,zv 12 23]
def a3j:List Seg:=[zv 24 12,zK 25 .leq 24 12]
def a6X:List Seg:=[zv 26 0,zv 27 1,zv 28 2,zv 29 4,zq 30 244 [26,27,28,29]]
def a6Y:List Seg:=[zv 31 3,zK 32 .eql 31 0]
def b2o:List Seg:=[zv 33 0,zv 34 1,zv 35 2,zv 36 4,zq 37 245 [33,34,35,36]]
def a6Z:List Seg:=[zv 38 10,zN 39 38]
def b2p:List Seg:=[zv 40 0,zv 41 1,zv 42 2,zv 43 4,zq 44 246 [40,41,42,43]]
def b2q:List Seg:=[zv 45 3,zK 46 .sub 45 1,zv 3 46]
def a61:List Seg:=[zv 48 0,zv 49 1,zv 50 2,zv 51 4,zq 52 247 [48,49,50,51],zv 47 52,zE 53 0 47,zE 54 1 47,zv 13 53,zv 14 54]
def a62:List Seg:=[zv 55 14,zK 56 .eql 55 2]
def b2r:List Seg:=[zv 57 0,zv 58 1,zv 59 2,zv 60 4,zq 61 248 [57,58,59,60]]
def b2s:List Seg:=[zv 62 2,zK 63 .sub 62 1,zv 64 13,zv 65 1,zB 66 .sub 64 65,zB 67 .sub 63 66,zv 13 67]
def b2t:List Seg:=[zM 14 1]
def a63:List Seg:=[zv 68 10,zv 69 68,.grp 69 true [zg 70 (zm 11) 69 true],zP 71 69 70,zv 72 71,.grp 72 true [zg 73 (zm 14) 72 true,zg 74 (zU .eql 73 1) 72 true],zP 75 72 74]
def b2u:List Seg:=[zv 76 0,zv 77 1,zv 78 2,zv 79 4,zq 80 249 [76,77,78,79]]
def a65:List Seg:=[zv 81 1,zK 82 .gtr 81 0,zv 83 82,.br 83 true [zg 84 (zm 4) 83 true,zg 85 (zm 0) 83 true,zg 86 (zm 1) 83 true,zg 87 (zU .sub 86 1) 83 true,zg 88 (.ia 2 (.tmp 85) (.tmp 87)) 83 true,zg 89 (zt 2 88) 83 true,zg 90 (zm 0) 83 true,zg 91 (zm 13) 83 true,zg 92 (.ia 2 (.tmp 90) (.tmp 91)) 83 true,zg 93 (zt 2 92) 83 true,.mk (some 94) (.callv (.tmp 84) [.tmp 89,.tmp 93]) (some (83,true)),zg 95 (zU .lss 94 0) 83 true,zg 96 (zV 95) 83 true],zP 97 83 96]
def b2v:List Seg:=[zv 98 0,zv 99 1,zv 100 2,zv 101 13,zv 102 4,zq 103 250 [98,99,100,101,102],zv 15 103]
def b2w:List Seg:=[zv 104 15,zv 1 104]
def b2x:List Seg:=[zv 106 0,zv 107 1,zv 108 2,zv 109 13,zv 110 4,zq 111 251 [106,107,108,109,110],zv 105 111,zE 112 0 105,zE 113 1 105,zv 16 112,zv 17 113]
def b2y:List Seg:=[zv 114 17,zv 11 114]
def b2z:List Seg:=[zv 115 16,zv 116 1,zB 117 .sub 115 116,zv 118 2,zv 119 16,zB 120 .sub 118 119,zv 18 117,zv 19 120]
def b2A:List Seg:=[zv 121 12,zK 122 .quo 121 8,zv 20 122]
def b2B:List Seg:=[zv 123 18,zv 124 19,zB 125 .lss 123 124]
def b2C:List Seg:=[zv 126 18,zv 127 20,zB 128 .geq 126 127,zv 10 128]
def b2D:List Seg:=[zv 129 0,zv 130 1,zv 131 16,zv 132 3,zv 133 4,zq 134 207 [129,130,131,132,133]]
def b2E:List Seg:=[zv 135 16,zK 136 .add 135 1,zv 1 136]
def b2F:List Seg:=[zv 137 19,zv 138 20,zB 139 .geq 137 138,zv 10 139]
def b2G:List Seg:=[zv 140 0,zv 141 16,zK 142 .add 141 1,zv 143 2,zv 144 3,zv 145 4,zq 146 207 [140,142,143,144,145]]
def b2H:List Seg:=[zv 147 16,zv 2 147]
def b2I:aB:= .block 1 (zs 2 4 a3i (.seq (zs 3 2 a3j (zd 25 (zs 4 5 a6X .ret) .skip)) (.seq (zs 5 2 a6Y (zd 32 (zs 6 5 b2o .ret) .skip)) (.seq (zs 7 2 a6Z (zd 39 (zs 8 5 b2p (zr 9 3 b2q)) .skip)) (zs 10 10 a61 (.seq (zs 11 2 a62 (zd 56 (zs 12 5 b2r (zs 13 7 b2s (zr 14 1 b2t))) .skip)) (.seq (zs 15 8 a63 (zd 75 (zs 16 5 b2u (zd 80 .ret .skip)) .skip)) (.seq (.seq (.region 17 true 17 a65) (zd 97 (zs 18 7 b2v (zs 19 2 b2w (.exit 1))) .skip)) (zs 20 11 b2x (zs 21 2 b2y (zs 22 8 b2z (zs 23 3 b2A (zs 24 3 b2B (zd 125 (zs 25 4 b2C (zs 26 6 b2D (zr 27 3 b2E))) (zs 28 4 b2F (zs 29 7 b2G (zr 30 2 b2H)))))))))))))))))
def c207:aB:=zs 0 1 b2m (zs 1 1 b2n (.block 0 (.loop b2I)))
theorem k207:Compiled prog 207 148 [] c207:=kMk [] func207
def b2J:List Seg:=[zv 10 1,zK 11 .add 10 1,zv 8 11]
def a68:List Seg:=[zv 12 8,zv 13 2,zB 14 .lss 12 13]
def b74:List Seg:=[zv 17 8,zv 9 17]
def b2K:List Seg:=[zv 18 9,zv 19 1,zB 20 .gtr 18 19,zv 21 20,.br 21 true [zg 22 (zm 3) 21 true,zg 23 (zm 0) 21 true,zg 24 (zm 9) 21 true,zg 25 (.ia 2 (.tmp 23) (.tmp 24)) 21 true,zg 26 (zt 2 25) 21 true,zg 27 (zm 0) 21 true,zg 28 (zm 9) 21 true,zg 29 (zU .sub 28 1) 21 true,zg 30 (.ia 2 (.tmp 27) (.tmp 29)) 21 true,zg 31 (zt 2 30) 21 true,.mk (some 32) (.callv (.tmp 22) [.tmp 26,.tmp 31]) (some (21,true)),zg 33 (zU .lss 32 0) 21 true],zP 34 21 33]
def b75:List Seg:=[zv 37 0,zv 38 9,zv 39 0,zv 40 9,zK 41 .sub 40 1,zv 42 0,zv 43 9,zK 44 .sub 43 1,zI 45 2 42 44,zA 46 2 45,zv 47 0,zv 48 9,zI 49 2 47 48,zA 50 2 49,zI 51 2 37 38,zS 2 51 46,zI 52 2 39 41,zS 2 52 50]
def b76:List Seg:=[zv 35 9,zK 36 .sub 35 1,zv 9 36]
def a69:aB:= .seq (.seq (.region 4 true 17 b2K) (zd 34 .skip (.exit 2))) (.seq (.block 3 (.region 6 true 18 b75)) (zr 5 3 b76))
def b77:List Seg:=[zv 15 8,zK 16 .add 15 1,zv 8 16]
def a7a:aB:= .seq (zs 1 3 a68 (zd 14 .skip (.exit 0))) (.seq (.block 1 (zs 3 2 b74 (.block 2 (.loop a69)))) (zr 2 3 b77))
def c244:aB:=zs 0 3 b2J (.block 0 (.loop a7a))
theorem k244:Compiled prog 244 53 [] c244:=kMk [] func244
def b78:List Seg:=[zv 13 1,zv 8 13]
def b79:List Seg:=[zM 9 0]
def b8a:List Seg:=[zv 14 2,zv 15 1,zB 16 .sub 14 15,zv 10 16]
def b8b:List Seg:=[zv 17 10,zK 18 .sub 17 1,zK 19 .quo 18 2,zv 11 19]
def b2L:List Seg:=[zv 20 11,zK 21 .geq 20 0]
def b8c:List Seg:=[zv 24 0,zv 25 11,zv 26 10,zv 27 8,zv 28 3,zq 29 275 [24,25,26,27,28]]
def b8d:List Seg:=[zv 22 11,zK 23 .sub 22 1,zv 11 23]
def b2M:aB:= .seq (zs 4 2 b2L (zd 21 .skip (.exit 0))) (.seq (.block 1 (zr 6 6 b8c)) (zr 5 3 b8d))
def b8e:List Seg:=[zv 30 10,zK 31 .sub 30 1,zv 12 31]
def b2N:List Seg:=[zv 32 12,zK 33 .geq 32 0]
def b8f:List Seg:=[zv 36 0,zv 37 8,zv 38 0,zv 39 8,zv 40 12,zB 41 .add 39 40,zv 42 0,zv 43 8,zv 44 12,zB 45 .add 43 44,zI 46 2 42 45,zA 47 2 46,zv 48 0,zv 49 8,zI 50 2 48 49,zA 51 2 50,zI 52 2 36 37,zS 2 52 47,zI 53 2 38 41,zS 2 53 51]
def b8g:List Seg:=[zv 54 0,zv 55 9,zv 56 12,zv 57 8,zv 58 3,zq 59 275 [54,55,56,57,58]]
def b8h:List Seg:=[zv 34 12,zK 35 .sub 34 1,zv 12 35]
def b2O:aB:= .seq (zs 8 2 b2N (zd 33 .skip (.exit 2))) (.seq (.block 3 (.seq (.region 10 true 20 b8f) (zr 11 6 b8g))) (zr 9 3 b8h))
def c245:aB:=zs 0 2 b78 (zs 1 1 b79 (zs 2 4 b8a (.seq (zs 3 4 b8b (.block 0 (.loop b2M))) (zs 7 3 b8e (.block 2 (.loop b2O))))))
theorem k245:Compiled prog 245 60 [] c245:=kMk [] func245
def b8i:List Seg:=[zv 13 2,zv 14 1,zB 15 .sub 13 14,zv 8 15]
def b8j:List Seg:=[zv 16 8,zK 17 .geq 16 8]
def b8k:List Seg:=[zv 18 8,zo 19 (.dO .u64 (.tmp 18)),zo 9 (.alloc [.t (.int .u64 0)]),zS 1 9 19]
def b8l:List Seg:=[zv 20 8,zq 21 276 [20],zv 10 21]
def b8m:List Seg:=[zv 22 1,zv 23 8,zK 24 .quo 23 4,zK 25 .mul 24 2,zB 26 .add 22 25,zK 27 .sub 26 1,zv 11 27]
def b2P:List Seg:=[zv 28 11,zv 29 1,zv 30 8,zK 31 .quo 30 4,zK 32 .mul 31 2,zB 33 .add 29 32,zK 34 .add 33 1,zB 35 .leq 28 34]
def b8n:List Seg:=[zq 38 277 [9],zv 39 10,zo 40 (.bin .sub false (.tmp 39) (.con (.one (.t (.int .u64 1))))),zB 41 .and 38 40,zo 42 (.dO .i64 (.tmp 41)),zv 12 42]
def b8o:List Seg:=[zv 43 12,zv 44 8,zB 45 .geq 43 44]
def b8p:List Seg:=[zv 46 12,zv 47 8,zB 48 .sub 46 47,zv 12 48]
def b2Q:List Seg:=[zv 49 0,zv 50 11,zv 51 0,zv 52 1,zv 53 12,zB 54 .add 52 53,zv 55 0,zv 56 1,zv 57 12,zB 58 .add 56 57,zI 59 2 55 58,zA 60 2 59,zv 61 0,zv 62 11,zI 63 2 61 62,zA 64 2 63,zI 65 2 49 50,zS 2 65 60,zI 66 2 51 54,zS 2 66 64]
def b2R:List Seg:=[zv 36 11,zK 37 .add 36 1,zv 11 37]
def b2S:aB:= .seq (zs 5 8 b2P (zd 35 .skip (.exit 0))) (.seq (.block 1 (zs 7 6 b8n (.seq (zs 8 3 b8o (zd 45 (zr 9 4 b8p) .skip)) (.region 10 true 20 b2Q)))) (zr 6 3 b2R))
def c246:aB:=zs 0 4 b8i (zs 1 2 b8j (zd 17 (zs 2 4 b8k (zs 3 3 b8l (zs 4 7 b8m (.block 0 (.loop b2S))))) .skip))
theorem k246:Compiled prog 246 67 [] c246:=kMk [] func246
def b8q:List Seg:=[zM 8 0,zM 9 0]
def b8r:List Seg:=[zv 15 2,zv 16 1,zB 17 .sub 15 16,zv 10 17]
def b8s:List Seg:=[zo 11 (.alloc [za])]
def b8t:List Seg:=[zv 18 1,zv 19 10,zK 20 .quo 19 4,zK 21 .mul 20 1,zB 22 .add 18 21,zv 12 22]
def b8u:List Seg:=[zv 23 1,zv 24 10,zK 25 .quo 24 4,zK 26 .mul 25 2,zB 27 .add 23 26,zv 13 27]
def b8v:List Seg:=[zv 28 1,zv 29 10,zK 30 .quo 29 4,zK 31 .mul 30 3,zB 32 .add 28 31,zv 14 32]
def b8w:List Seg:=[zv 33 10,zK 34 .geq 33 8]
def b8x:List Seg:=[zv 35 10,zK 36 .geq 35 50]
def b8y:List Seg:=[zv 37 0,zv 38 12,zv 39 3,zq 40 278 [37,38,11,39],zv 12 40]
def b8z:List Seg:=[zv 41 0,zv 42 13,zv 43 3,zq 44 278 [41,42,11,43],zv 13 44]
def b8A:List Seg:=[zv 45 0,zv 46 14,zv 47 3,zq 48 278 [45,46,11,47],zv 14 48]
def b2T:List Seg:=[zv 49 0,zv 50 12,zv 51 13,zv 52 14,zv 53 3,zq 54 279 [49,50,51,52,11,53],zv 13 54]
def a5r:List Seg:=[zl 55 11]
def a5s:List Seg:=[zK 58 .eql 55 0,zv 57 58]
def b2U:List Seg:=[zv 59 13,zv 8 59,zM 9 1]
def a7b:List Seg:=[zK 61 .eql 55 12,zv 60 61]
def b2V:List Seg:=[zv 62 13,zv 8 62,zM 9 2]
def b2W:List Seg:=[zv 56 13,zv 8 56,zM 9 0]
def c247:aB:=zs 0 2 b8q (zs 1 4 b8r (zs 2 1 b8s (zs 3 6 b8t (zs 4 6 b8u (zs 5 6 b8v (.seq (zs 6 2 b8w (zd 34 (.seq (zs 7 2 b8x (zd 36 (zs 8 5 b8y (zs 9 5 b8z (zr 10 5 b8A))) .skip)) (zr 11 7 b2T)) .skip)) (zs 12 1 a5r (.block 0 (zs 14 2 a5s (zd 57 (zs 15 3 b2U .ret) (zs 16 2 a7b (zd 60 (zs 17 3 b2V .ret) (zs 13 3 b2W .ret)))))))))))))
theorem k247:Compiled prog 247 63 [.tmp 8,.tmp 9] c247:=kMk [] func247
def b8B:List Seg:=[zv 10 1,zv 8 10]
def b8C:List Seg:=[zv 11 2,zK 12 .sub 11 1,zv 9 12]
def b2X:List Seg:=[zv 13 8,zv 14 9,zB 15 .lss 13 14]
def b8D:List Seg:=[zv 16 0,zv 17 8,zv 18 0,zv 19 9,zv 20 0,zv 21 9,zI 22 2 20 21,zA 23 2 22,zv 24 0,zv 25 8,zI 26 2 24 25,zA 27 2 26,zI 28 2 16 17,zS 2 28 23,zI 29 2 18 19,zS 2 29 27]
def b8E:List Seg:=[zv 30 8,zK 31 .add 30 1,zv 8 31]
def b8F:List Seg:=[zv 32 9,zK 33 .sub 32 1,zv 9 33]
def b2Y:aB:= .seq (zs 2 3 b2X (zd 15 .skip (.exit 0))) (.block 1 (.seq (.region 3 true 16 b8D) (zs 4 3 b8E (zr 5 3 b8F))))
def c248:aB:=zs 0 2 b8B (zs 1 3 b8C (.block 0 (.loop b2Y)))
theorem k248:Compiled prog 248 34 [] c248:=kMk [] func248
def b8G:List Seg:=[zW 8 false]
def b8H:List Seg:=[zv 13 1,zK 14 .add 13 1,zv 9 14]
def b8I:List Seg:=[zM 10 0]
def b2Z:List Seg:=[zv 15 10,zK 16 .lss 15 5]
def b20:List Seg:=[zv 19 9,zv 20 2,zB 21 .lss 19 20,zv 22 21,.br 22 true [zg 23 (zm 3) 22 true,zg 24 (zm 0) 22 true,zg 25 (zm 9) 22 true,zg 26 (.ia 2 (.tmp 24) (.tmp 25)) 22 true,zg 27 (zt 2 26) 22 true,zg 28 (zm 0) 22 true,zg 29 (zm 9) 22 true,zg 30 (zU .sub 29 1) 22 true,zg 31 (.ia 2 (.tmp 28) (.tmp 30)) 22 true,zg 32 (zt 2 31) 22 true,.mk (some 33) (.callv (.tmp 23) [.tmp 27,.tmp 32]) (some (22,true)),zg 34 (zU .lss 33 0) 22 true,zg 35 (zV 34) 22 true],zP 36 22 35]
def b8J:List Seg:=[zv 37 9,zK 38 .add 37 1,zv 9 38]
def a7c:aB:= .seq (.seq (.region 5 true 18 b20) (zd 36 .skip (.exit 2))) (.block 3 (zr 6 3 b8J))
def a7d:List Seg:=[zv 39 9,zv 40 2,zB 41 .eql 39 40]
def b8K:List Seg:=[zW 8 true]
def b21:List Seg:=[zv 42 2,zv 43 1,zB 44 .sub 42 43,zK 45 .lss 44 50]
def b8L:List Seg:=[zW 8 false]
def b8M:List Seg:=[zv 46 0,zv 47 9,zv 48 0,zv 49 9,zK 50 .sub 49 1,zv 51 0,zv 52 9,zK 53 .sub 52 1,zI 54 2 51 53,zA 55 2 54,zv 56 0,zv 57 9,zI 58 2 56 57,zA 59 2 58,zI 60 2 46 47,zS 2 60 55,zI 61 2 48 50,zS 2 61 59]
def b22:List Seg:=[zv 62 9,zv 63 1,zB 64 .sub 62 63,zK 65 .geq 64 2]
def b8N:List Seg:=[zv 66 9,zK 67 .sub 66 1,zv 11 67]
def b23:List Seg:=[zv 68 11,zK 69 .geq 68 1]
def b8O:List Seg:=[zv 72 3,zv 73 0,zv 74 11,zI 75 2 73 74,zA 76 2 75,zv 77 0,zv 78 11,zK 79 .sub 78 1,zI 80 2 77 79,zA 81 2 80,.one (.mk (some 82) (.callv (.tmp 72) [.tmp 76,.tmp 81]) none),zK 83 .lss 82 0,zN 84 83]
def b8P:List Seg:=[zv 85 0,zv 86 11,zv 87 0,zv 88 11,zK 89 .sub 88 1,zv 90 0,zv 91 11,zK 92 .sub 91 1,zI 93 2 90 92,zA 94 2 93,zv 95 0,zv 96 11,zI 97 2 95 96,zA 98 2 97,zI 99 2 85 86,zS 2 99 94,zI 100 2 87 89,zS 2 100 98]
def b8Q:List Seg:=[zv 70 11,zK 71 .sub 70 1,zv 11 71]
def a7e:aB:= .seq (zs 14 2 b23 (zd 69 .skip (.exit 4))) (.seq (.block 5 (.seq (.seq (.region 16 true 13 b8O) (zd 84 (.exit 4) .skip)) (.region 17 true 18 b8P))) (zr 15 3 b8Q))
def a7f:List Seg:=[zv 101 2,zv 102 9,zB 103 .sub 101 102,zK 104 .geq 103 2]
def b24:List Seg:=[zv 105 9,zK 106 .add 105 1,zv 12 106]
def b25:List Seg:=[zv 107 12,zv 108 2,zB 109 .lss 107 108]
def b8R:List Seg:=[zv 112 3,zv 113 0,zv 114 12,zI 115 2 113 114,zA 116 2 115,zv 117 0,zv 118 12,zK 119 .sub 118 1,zI 120 2 117 119,zA 121 2 120,.one (.mk (some 122) (.callv (.tmp 112) [.tmp 116,.tmp 121]) none),zK 123 .lss 122 0,zN 124 123]
def b8S:List Seg:=[zv 125 0,zv 126 12,zv 127 0,zv 128 12,zK 129 .sub 128 1,zv 130 0,zv 131 12,zK 132 .sub 131 1,zI 133 2 130 132,zA 134 2 133,zv 135 0,zv 136 12,zI 137 2 135 136,zA 138 2 137,zI 139 2 125 126,zS 2 139 134,zI 140 2 127 129,zS 2 140 138]
def b8T:List Seg:=[zv 110 12,zK 111 .add 110 1,zv 12 111]
def a5t:aB:= .seq (zs 20 3 b25 (zd 109 .skip (.exit 6))) (.seq (.block 7 (.seq (.seq (.region 22 true 13 b8R) (zd 124 (.exit 6) .skip)) (.region 23 true 18 b8S))) (zr 21 3 b8T))
def a7g:List Seg:=[zv 17 10,zK 18 .add 17 1,zv 10 18]
def b26:aB:= .seq (zs 3 2 b2Z (zd 16 .skip (.exit 0))) (.seq (.block 1 (.seq (.block 2 (.loop a7c)) (.seq (zs 7 3 a7d (zd 41 (zs 8 1 b8K .ret) .skip)) (.seq (zs 9 4 b21 (zd 45 (zs 10 1 b8L .ret) .skip)) (.seq (.region 11 true 18 b8M) (.seq (zs 12 4 b22 (zd 65 (zs 13 3 b8N (.block 4 (.loop a7e))) .skip)) (zs 18 4 a7f (zd 104 (zs 19 3 b24 (.block 6 (.loop a5t))) .skip)))))))) (zr 4 3 a7g))
def b27:List Seg:=[zW 8 false]
def c249:aB:=zs 0 1 b8G (zs 1 3 b8H (.seq (zs 2 1 b8I (.block 0 (.loop b26))) (zs 24 1 b27 .ret)))
theorem k249:Compiled prog 249 141 [.tmp 8] c249:=kMk [] func249
def b8U:List Seg:=[zM 10 0]
def b8V:List Seg:=[zv 13 0,zv 14 1,zv 15 0,zv 16 3,zv 17 0,zv 18 3,zI 19 2 17 18,zA 20 2 19,zv 21 0,zv 22 1,zI 23 2 21 22,zA 24 2 23,zI 25 2 13 14,zS 2 25 20,zI 26 2 15 16,zS 2 26 24]
def b8W:List Seg:=[zv 27 1,zK 28 .add 27 1,zv 29 2,zK 30 .sub 29 1,zv 11 28,zv 12 30]
def b28:List Seg:=[zv 31 11,zv 32 12,zB 33 .leq 31 32,zv 34 33,.br 34 true [zg 35 (zm 4) 34 true,zg 36 (zm 0) 34 true,zg 37 (zm 1) 34 true,zg 38 (.ia 2 (.tmp 36) (.tmp 37)) 34 true,zg 39 (zt 2 38) 34 true,zg 40 (zm 0) 34 true,zg 41 (zm 11) 34 true,zg 42 (.ia 2 (.tmp 40) (.tmp 41)) 34 true,zg 43 (zt 2 42) 34 true,.mk (some 44) (.callv (.tmp 35) [.tmp 39,.tmp 43]) (some (34,true)),zg 45 (zU .lss 44 0) 34 true,zg 46 (zV 45) 34 true],zP 47 34 46]
def b8X:List Seg:=[zv 48 11,zK 49 .add 48 1,zv 11 49]
def a7h:aB:= .seq (.seq (.region 3 true 17 b28) (zd 47 .skip (.exit 2))) (.block 3 (zr 4 3 b8X))
def b29:List Seg:=[zv 50 11,zv 51 12,zB 52 .leq 50 51,zv 53 52,.br 53 true [zg 54 (zm 4) 53 true,zg 55 (zm 0) 53 true,zg 56 (zm 1) 53 true,zg 57 (.ia 2 (.tmp 55) (.tmp 56)) 53 true,zg 58 (zt 2 57) 53 true,zg 59 (zm 0) 53 true,zg 60 (zm 12) 53 true,zg 61 (.ia 2 (.tmp 59) (.tmp 60)) 53 true,zg 62 (zt 2 61) 53 true,.mk (some 63) (.callv (.tmp 54) [.tmp 58,.tmp 62]) (some (53,true)),zg 64 (zU .lss 63 0) 53 true],zP 65 53 64]
def b8Y:List Seg:=[zv 66 12,zK 67 .sub 66 1,zv 12 67]
def a7i:aB:= .seq (.seq (.region 5 true 16 b29) (zd 65 .skip (.exit 4))) (.block 5 (zr 6 3 b8Y))
def b3a:List Seg:=[zv 68 11,zv 69 12,zB 70 .gtr 68 69]
def b8Z:List Seg:=[zv 71 0,zv 72 11,zv 73 0,zv 74 12,zv 75 0,zv 76 12,zI 77 2 75 76,zA 78 2 77,zv 79 0,zv 80 11,zI 81 2 79 80,zA 82 2 81,zI 83 2 71 72,zS 2 83 78,zI 84 2 73 74,zS 2 84 82]
def b80:List Seg:=[zv 85 11,zK 86 .add 85 1,zv 11 86]
def b81:List Seg:=[zv 87 12,zK 88 .sub 87 1,zv 12 88]
def b82:aB:= .block 1 (.seq (.block 2 (.loop a7h)) (.seq (.block 4 (.loop a7i)) (.seq (zs 7 3 b3a (zd 70 (.exit 0) .skip)) (.seq (.region 8 true 16 b8Z) (zs 9 3 b80 (zr 10 3 b81))))))
def b83:List Seg:=[zv 89 11,zv 10 89]
def c250:aB:=zs 0 1 b8U (.seq (.region 1 true 16 b8V) (zs 2 6 b8W (.seq (.block 0 (.loop b82)) (zs 11 2 b83 .ret))))
theorem k250:Compiled prog 250 90 [.tmp 10] c250:=kMk [] func250
def b84:List Seg:=[zM 10 0,zW 11 false]
def b85:List Seg:=[zv 14 0,zv 15 1,zv 16 0,zv 17 3,zv 18 0,zv 19 3,zI 20 2 18 19,zA 21 2 20,zv 22 0,zv 23 1,zI 24 2 22 23,zA 25 2 24,zI 26 2 14 15,zS 2 26 21,zI 27 2 16 17,zS 2 27 25]
def b86:List Seg:=[zv 28 1,zK 29 .add 28 1,zv 30 2,zK 31 .sub 30 1,zv 12 29,zv 13 31]
def b3b:List Seg:=[zv 32 12,zv 33 13,zB 34 .leq 32 33,zv 35 34,.br 35 true [zg 36 (zm 4) 35 true,zg 37 (zm 0) 35 true,zg 38 (zm 12) 35 true,zg 39 (.ia 2 (.tmp 37) (.tmp 38)) 35 true,zg 40 (zt 2 39) 35 true,zg 41 (zm 0) 35 true,zg 42 (zm 1) 35 true,zg 43 (.ia 2 (.tmp 41) (.tmp 42)) 35 true,zg 44 (zt 2 43) 35 true,.mk (some 45) (.callv (.tmp 36) [.tmp 40,.tmp 44]) (some (35,true)),zg 46 (zU .lss 45 0) 35 true],zP 47 35 46]
def b87:List Seg:=[zv 48 12,zK 49 .add 48 1,zv 12 49]
def a7j:aB:= .seq (.seq (.region 3 true 16 b3b) (zd 47 .skip (.exit 0))) (.block 1 (zr 4 3 b87))
def b3c:List Seg:=[zv 50 12,zv 51 13,zB 52 .leq 50 51,zv 53 52,.br 53 true [zg 54 (zm 4) 53 true,zg 55 (zm 0) 53 true,zg 56 (zm 13) 53 true,zg 57 (.ia 2 (.tmp 55) (.tmp 56)) 53 true,zg 58 (zt 2 57) 53 true,zg 59 (zm 0) 53 true,zg 60 (zm 1) 53 true,zg 61 (.ia 2 (.tmp 59) (.tmp 60)) 53 true,zg 62 (zt 2 61) 53 true,.mk (some 63) (.callv (.tmp 54) [.tmp 58,.tmp 62]) (some (53,true)),zg 64 (zU .lss 63 0) 53 true,zg 65 (zV 64) 53 true],zP 66 53 65]
def b88:List Seg:=[zv 67 13,zK 68 .sub 67 1,zv 13 68]
def a7k:aB:= .seq (.seq (.region 5 true 17 b3c) (zd 66 .skip (.exit 2))) (.block 3 (zr 6 3 b88))
def b3d:List Seg:=[zv 69 12,zv 70 13,zB 71 .gtr 69 70]
def b89:List Seg:=[zv 72 0,zv 73 13,zv 74 0,zv 75 1,zv 76 0,zv 77 1,zI 78 2 76 77,zA 79 2 78,zv 80 0,zv 81 13,zI 82 2 80 81,zA 83 2 82,zI 84 2 72 73,zS 2 84 79,zI 85 2 74 75,zS 2 85 83]
def b9a:List Seg:=[zv 86 13,zv 10 86,zW 11 true]
def b9b:List Seg:=[zv 87 0,zv 88 12,zv 89 0,zv 90 13,zv 91 0,zv 92 13,zI 93 2 91 92,zA 94 2 93,zv 95 0,zv 96 12,zI 97 2 95 96,zA 98 2 97,zI 99 2 87 88,zS 2 99 94,zI 100 2 89 90,zS 2 100 98]
def b9c:List Seg:=[zv 101 12,zK 102 .add 101 1,zv 12 102]
def b9d:List Seg:=[zv 103 13,zK 104 .sub 103 1,zv 13 104]
def b3e:List Seg:=[zv 105 12,zv 106 13,zB 107 .leq 105 106,zv 108 107,.br 108 true [zg 109 (zm 4) 108 true,zg 110 (zm 0) 108 true,zg 111 (zm 12) 108 true,zg 112 (.ia 2 (.tmp 110) (.tmp 111)) 108 true,zg 113 (zt 2 112) 108 true,zg 114 (zm 0) 108 true,zg 115 (zm 1) 108 true,zg 116 (.ia 2 (.tmp 114) (.tmp 115)) 108 true,zg 117 (zt 2 116) 108 true,.mk (some 118) (.callv (.tmp 109) [.tmp 113,.tmp 117]) (some (108,true)),zg 119 (zU .lss 118 0) 108 true],zP 120 108 119]
def b9e:List Seg:=[zv 121 12,zK 122 .add 121 1,zv 12 122]
def a7l:aB:= .seq (.seq (.region 13 true 16 b3e) (zd 120 .skip (.exit 6))) (.block 7 (zr 14 3 b9e))
def b3f:List Seg:=[zv 123 12,zv 124 13,zB 125 .leq 123 124,zv 126 125,.br 126 true [zg 127 (zm 4) 126 true,zg 128 (zm 0) 126 true,zg 129 (zm 13) 126 true,zg 130 (.ia 2 (.tmp 128) (.tmp 129)) 126 true,zg 131 (zt 2 130) 126 true,zg 132 (zm 0) 126 true,zg 133 (zm 1) 126 true,zg 134 (.ia 2 (.tmp 132) (.tmp 133)) 126 true,zg 135 (zt 2 134) 126 true,.mk (some 136) (.callv (.tmp 127) [.tmp 131,.tmp 135]) (some (126,true)),zg 137 (zU .lss 136 0) 126 true,zg 138 (zV 137) 126 true],zP 139 126 138]
def b9f:List Seg:=[zv 140 13,zK 141 .sub 140 1,zv 13 141]
def a7m:aB:= .seq (.seq (.region 15 true 17 b3f) (zd 139 .skip (.exit 8))) (.block 9 (zr 16 3 b9f))
def b3g:List Seg:=[zv 142 12,zv 143 13,zB 144 .gtr 142 143]
def b9g:List Seg:=[zv 145 0,zv 146 12,zv 147 0,zv 148 13,zv 149 0,zv 150 13,zI 151 2 149 150,zA 152 2 151,zv 153 0,zv 154 12,zI 155 2 153 154,zA 156 2 155,zI 157 2 145 146,zS 2 157 152,zI 158 2 147 148,zS 2 158 156]
def b9h:List Seg:=[zv 159 12,zK 160 .add 159 1,zv 12 160]
def b9i:List Seg:=[zv 161 13,zK 162 .sub 161 1,zv 13 162]
def b9j:aB:= .block 5 (.seq (.block 6 (.loop a7l)) (.seq (.block 8 (.loop a7m)) (.seq (zs 17 3 b3g (zd 144 (.exit 4) .skip)) (.seq (.region 18 true 16 b9g) (zs 19 3 b9h (zr 20 3 b9i))))))
def b9k:List Seg:=[zv 163 0,zv 164 13,zv 165 0,zv 166 1,zv 167 0,zv 168 1,zI 169 2 167 168,zA 170 2 169,zv 171 0,zv 172 13,zI 173 2 171 172,zA 174 2 173,zI 175 2 163 164,zS 2 175 170,zI 176 2 165 166,zS 2 176 174]
def b9l:List Seg:=[zv 177 13,zv 10 177,zW 11 false]
def c251:aB:=zs 0 2 b84 (.seq (.region 1 true 16 b85) (zs 2 6 b86 (.seq (.block 0 (.loop a7j)) (.seq (.block 2 (.loop a7k)) (.seq (zs 7 3 b3d (zd 71 (.seq (.region 8 true 16 b89) (zs 9 3 b9a .ret)) .skip)) (.seq (.region 10 true 16 b9b) (zs 11 3 b9c (zs 12 3 b9d (.seq (.block 4 (.loop b9j)) (.seq (.region 21 true 16 b9k) (zs 22 3 b9l .ret)))))))))))
theorem k251:Compiled prog 251 178 [.tmp 10,.tmp 11] c251:=kMk [] func251
def b9m:List Seg:=[zv 12 1,zv 10 12]
def b9n:List Seg:=[zv 13 10,zo 14 (.bin .mul false (zi 2) (.tmp 13)),zK 15 .add 14 1,zv 11 15]
def b3h:List Seg:=[zv 16 11,zv 17 2,zB 18 .geq 16 17]
def b3i:List Seg:=[zv 19 11,zK 20 .add 19 1,zv 21 2,zB 22 .lss 20 21,zv 23 22,.br 23 true [zg 24 (zm 4) 23 true,zg 25 (zm 0) 23 true,zg 26 (zm 3) 23 true,zg 27 (zm 11) 23 true,zg 28 (zO .add 26 27) 23 true,zg 29 (.ia 2 (.tmp 25) (.tmp 28)) 23 true,zg 30 (zt 2 29) 23 true,zg 31 (zm 0) 23 true,zg 32 (zm 3) 23 true,zg 33 (zm 11) 23 true,zg 34 (zO .add 32 33) 23 true,zg 35 (zU .add 34 1) 23 true,zg 36 (.ia 2 (.tmp 31) (.tmp 35)) 23 true,zg 37 (zt 2 36) 23 true,.mk (some 38) (.callv (.tmp 24) [.tmp 30,.tmp 37]) (some (23,true)),zg 39 (zU .lss 38 0) 23 true],zP 40 23 39]
def b9o:List Seg:=[zv 41 11,zK 42 .add 41 1,zv 11 42]
def b3j:List Seg:=[zv 43 4,zv 44 0,zv 45 3,zv 46 10,zB 47 .add 45 46,zI 48 2 44 47,zA 49 2 48,zv 50 0,zv 51 3,zv 52 11,zB 53 .add 51 52,zI 54 2 50 53,zA 55 2 54,.one (.mk (some 56) (.callv (.tmp 43) [.tmp 49,.tmp 55]) none),zK 57 .lss 56 0,zN 58 57]
def b3k:List Seg:=[zv 59 0,zv 60 3,zv 61 10,zB 62 .add 60 61,zv 63 0,zv 64 3,zv 65 11,zB 66 .add 64 65,zv 67 0,zv 68 3,zv 69 11,zB 70 .add 68 69,zI 71 2 67 70,zA 72 2 71,zv 73 0,zv 74 3,zv 75 10,zB 76 .add 74 75,zI 77 2 73 76,zA 78 2 77,zI 79 2 59 62,zS 2 79 72,zI 80 2 63 66,zS 2 80 78]
def b3l:List Seg:=[zv 81 11,zv 10 81]
def b9p:aB:= .block 1 (zs 1 4 b9n (.seq (zs 2 3 b3h (zd 18 (.exit 0) .skip)) (.seq (.seq (.region 3 true 22 b3i) (zd 40 (zr 4 3 b9o) .skip)) (.seq (.seq (.region 5 true 16 b3j) (zd 58 .ret .skip)) (.seq (.region 6 true 24 b3k) (zr 7 2 b3l))))))
def c275:aB:=zs 0 2 b9m (.block 0 (.loop b9p))
theorem k275:Compiled prog 275 82 [] c275:=kMk [] func275
def b9q:List Seg:=[zM 8 0]
def b9r:List Seg:=[zv 9 0,zv 10 1,zK 11 .sub 10 1,zv 12 1,zv 13 1,zK 14 .add 13 1,zv 15 2,zv 16 3,zq 17 279 [9,11,12,14,15,16],zv 8 17]
def c278:aB:=zs 0 1 b9q (zs 1 10 b9r .ret)
theorem k278:Compiled prog 278 18 [.tmp 8] c278:=kMk [] func278
def b9s:List Seg:=[zM 12 0]
def b9t:List Seg:=[zv 14 0,zv 15 1,zv 16 2,zv 17 4,zv 18 5,zq 19 291 [14,15,16,17,18],zv 13 19,zE 20 0 13,zE 21 1 13,zv 1 20,zv 2 21]
def b9u:List Seg:=[zv 23 0,zv 24 2,zv 25 3,zv 26 4,zv 27 5,zq 28 291 [23,24,25,26,27],zv 22 28,zE 29 0 22,zE 30 1 22,zv 2 29,zv 3 30]
def b9v:List Seg:=[zv 32 0,zv 33 1,zv 34 2,zv 35 4,zv 36 5,zq 37 291 [32,33,34,35,36],zv 31 37,zE 38 0 31,zE 39 1 31,zv 1 38,zv 2 39]
def b9w:List Seg:=[zv 40 2,zv 12 40]
def c279:aB:=zs 0 1 b9s (zs 1 11 b9t (zs 2 11 b9u (zs 3 11 b9v (zs 4 2 b9w .ret))))
theorem k279:Compiled prog 279 41 [.tmp 12] c279:=kMk [] func279
def b9x:List Seg:=[zM 10 0,zM 11 0]
def b9y:List Seg:=[zv 12 4,zv 13 0,zv 14 2,zI 15 2 13 14,zA 16 2 15,zv 17 0,zv 18 1,zI 19 2 17 18,zA 20 2 19,.one (.mk (some 21) (.callv (.tmp 12) [.tmp 16,.tmp 20]) none),zK 22 .lss 21 0]
def b9z:List Seg:=[zv 23 3,zC 24 23,zl 25 24,zK 26 .add 25 1,zC 27 23,zS 1 27 26]
def b9A:List Seg:=[zv 28 2,zv 29 1,zv 10 28,zv 11 29]
def b9B:List Seg:=[zv 30 1,zv 31 2,zv 10 30,zv 11 31]
def c291:aB:=zs 0 2 b9x (.seq (.seq (.region 1 true 11 b9y) (zd 22 (zs 2 6 b9z (zs 3 4 b9A .ret)) .skip)) (zs 4 4 b9B .ret))
theorem k291:Compiled prog 291 32 [.tmp 10,.tmp 11] c291:=kMk [] func291
def b9C:List Seg:=[zM 2 0]
def d0X:List Seg:=[zv 3 0,zo 4 (.dO .u32 (.tmp 3)),zq 5 252 [4],zv 2 5]
def b9D:List Seg:=[zv 6 0,zq 7 253 [6],zv 2 7]
def c208:aB:=zs 0 1 b9C (.seq (.cond (zb false) (zs 1 4 d0X .ret) .skip) (zs 2 3 b9D .ret))
theorem k208:Compiled prog 208 8 [.tmp 2] c208:=kMk [] func208
def a7n:List Seg:=[zM 2 0]
def a7o:List Seg:=[zv 3 0,zo 4 (.bin .geq false (.tmp 3) (.con (.one (.t (.int .u64 4294967296)))))]
def d0Y:List Seg:=[zv 5 0,zo 6 (.bin .shr false (.tmp 5) (.con (.one (.t (.int .u64 32))))),zv 0 6]
def d0Z:List Seg:=[zM 2 32]
def a7p:List Seg:=[zv 7 0,zo 8 (.bin .geq false (.tmp 7) (.con (.one (.t (.int .u64 65536)))))]
def b9E:List Seg:=[zv 9 0,zo 10 (.bin .shr false (.tmp 9) (.con (.one (.t (.int .u64 16))))),zv 0 10]
def b9F:List Seg:=[zv 11 2,zK 12 .add 11 16,zv 2 12]
def a7q:List Seg:=[zv 13 0,zo 14 (.bin .geq false (.tmp 13) (.con (.one (.t (.int .u64 256)))))]
def b9G:List Seg:=[zv 15 0,zo 16 (.bin .shr false (.tmp 15) (.con (.one (.t (.int .u64 8))))),zv 0 16]
def b9H:List Seg:=[zv 17 2,zK 18 .add 17 8,zv 2 18]
def b3m:List Seg:=[zv 19 2,zv 20 0,zo 21 (.dO .u8 (.tmp 20)),zo 22 (.ixs (.con (.one (.t (.str (bs [0,1,2,2,3,3,3,3,4,4,4,4,4,4,4,4,5,5,5,5,5,5,5,5,5,5,5,5,5,5,5,5,6,6,6,6,6,6,6,6,6,6,6,6,6,6,6,6,6,6,6,6,6,6,6,6,6,6,6,6,6,6,6,6,7,7,7,7,7,7,7,7,7,7,7,7,7,7,7,7,7,7,7,7,7,7,7,7,7,7,7,7,7,7,7,7,7,7,7,7,7,7,7,7,7,7,7,7,7,7,7,7,7,7,7,7,7,7,7,7,7,7,7,7,7,7,7,7,8,8,8,8,8,8,8,8,8,8,8,8,8,8,8,8,8,8,8,8,8,8,8,8,8,8,8,8,8,8,8,8,8,8,8,8,8,8,8,8,8,8,8,8,8,8,8,8,8,8,8,8,8,8,8,8,8,8,8,8,8,8,8,8,8,8,8,8,8,8,8,8,8,8,8,8,8,8,8,8,8,8,8,8,8,8,8,8,8,8,8,8,8,8,8,8,8,8,8,8,8,8,8,8,8,8,8,8,8,8,8,8,8,8,8,8,8,8,8,8,8,8,8,8,8,8,8,8]))))) (.tmp 21)),zo 23 (.dO .i64 (.tmp 22)),zB 24 .add 19 23,zv 2 24]
def c253:aB:=zs 0 1 a7n (.seq (zs 1 2 a7o (zd 4 (zs 2 3 d0Y (zr 3 1 d0Z)) .skip)) (.seq (zs 4 2 a7p (zd 8 (zs 5 3 b9E (zr 6 3 b9F)) .skip)) (.seq (zs 7 2 a7q (zd 14 (zs 8 3 b9G (zr 9 3 b9H)) .skip)) (zs 10 7 b3m .ret))))
theorem k253:Compiled prog 253 25 [.tmp 2] c253:=kMk [] func253
def b9I:List Seg:=[zo 2 (.mv (.con (.one (.t (.int .u64 0)))))]
def b9J:List Seg:=[zv 3 0,zo 4 (.dO .u64 (.tmp 3)),zq 5 208 [4],zo 6 (.bin .shl false (.con (.one (.t (.int .u64 1)))) (.tmp 5)),zv 2 6]
def c276:aB:=zs 0 1 b9I (zs 1 5 b9J .ret)
theorem k276:Compiled prog 276 7 [.tmp 2] c276:=kMk [] func276
def b9K:List Seg:=[zo 2 (.mv (.con (.one (.t (.int .u64 0)))))]
def b9L:List Seg:=[zv 3 0,zC 4 3,zl 5 4,zv 6 0,zC 7 6,zl 8 7,zo 9 (.bin .shl false (.tmp 8) (.con (.one (.t (.int .u64 13))))),zB 10 .xor 5 9,zC 11 3,zS 1 11 10]
def b9M:List Seg:=[zv 12 0,zC 13 12,zl 14 13,zv 15 0,zC 16 15,zl 17 16,zo 18 (.bin .shr false (.tmp 17) (.con (.one (.t (.int .u64 7))))),zB 19 .xor 14 18,zC 20 12,zS 1 20 19]
def b9N:List Seg:=[zv 21 0,zC 22 21,zl 23 22,zv 24 0,zC 25 24,zl 26 25,zo 27 (.bin .shl false (.tmp 26) (.con (.one (.t (.int .u64 17))))),zB 28 .xor 23 27,zC 29 21,zS 1 29 28]
def b9O:List Seg:=[zv 30 0,zC 31 30,zl 32 31,zv 2 32]
def c277:aB:=zs 0 1 b9K (.seq (.region 1 true 10 b9L) (.seq (.region 2 true 10 b9M) (.seq (.region 3 true 10 b9N) (zs 4 4 b9O .ret))))
theorem k277:Compiled prog 277 33 [.tmp 2] c277:=kMk [] func277
def cell(x:Sp):List A:=[.t (I x.1),.t (I x.2)]
def ltS(x y:Sp):Bool:=decide (x.1<y.1)
def small(x:Sp):Prop:= -2305843009213693952≤x.1∧x.1≤2305843009213693952
theorem sP(x y:Sp)(hx:small x)(hy:small y):PSp prog 161 [.agg (cell x),.agg (cell y)] (.one (.t (I (x.1 - y.1)))):=by
 refine k161.aI (by simp) rfl rfl ?_;have hw:IntKind.i64.wrap (x.1 - y.1)=x.1 - y.1:=wrap_i64 (by have:=hx.1;have:=hy.2;omega) (by have:=hx.2;have:=hy.1;omega);simp[c161,b72,b73,cell,aC,hw]
structure Data (h:Hp) (id ver:Nat) (d:Array Sp):Prop where
 alive:alive h id ver
 rows:h.rows id=d.toList.map cell
 sz:h.sz id=2
 open_:h.shut id=false
def aS(h:Hp)(id ver:Nat)(d:Array Sp):Hp:=h.set id (.arr ver false 2 (d.toList.map cell))
theorem bH{h:Hp}{id ver:Nat}{d:Array Sp}:Data (aS h id ver d) id ver d:=⟨by simp[aS],by simp[aS],by simp[aS],by simp[aS]⟩
theorem hU{h:Hp}{id ver:Nat}{d e:Array Sp}:aS (aS h id ver d) id ver e=aS h id ver e:=funext fun j=>by
 simp only[aS,Hp.set];split<;>rfl
theorem aF.put{h:Hp}{n id ver:Nat}{d:Array Sp}(ho:aF h n)(hid:id<n):aF (aS h id ver d) n:=by
 refine⟨fun j hj=>?_,fun j o hj=>?_⟩
 ·simp only[aS,Hp.set];rw[if_neg (by omega)];exact ho.above j hj
 ·simp only[aS,Hp.set]at hj;split at hj
  ·simp only[sI9]at hj;subst hj;simp[O.below,cell,A.below]
  ·exact ho.below j o hj
theorem Data.self{h:Hp}{id ver:Nat}{d:Array Sp}(hd:Data h id ver d):aS h id ver d=h:=funext fun j=>by
 simp only[aS,Hp.set];split
 ·rename_i e;subst e;have h1:=hd.alive;have h2:=hd.rows;have h3:=hd.sz;have h4:=hd.open_;unfold Ab.alive at h1;unfold Hp.rows at h2;unfold Hp.sz at h3;unfold Hp.shut at h4;cases hh:h j with
  | none=>rw[hh]at h1;exact h1.elim
  | some o=>cases o with
   | arr v s sz rs=>rw[hh]at h1 h2 h3 h4;simp only at h1 h2 h3 h4;subst h1;subst h2;subst h3;subst h4;rfl
 ·rfl
theorem cW:callable prog 161=true:=by kernel_rfl
theorem cellAt{h:Hp}{id ver:Nat}{d:Array Sp}{j:Nat}(hd:Data h id ver d)(hj:j<d.size):(h.rows id)[j]? =some (cell d[j]!):=by
 rw[hd.rows];simp[hj]
theorem bI(x:Sp):List.take 2 (cell x)=cell x:=rfl
theorem eQ(x:Sp):(cell x).length=2:=rfl
theorem aCE{n:Nat}{A:Exit→St→Prop}{ks:List KF}(h:Hp)(id ver a i:Nat)(tight:Bool)(d0:Array Sp)(hi:i<d0.size)(hsz:d0.size≤100000)(hsm:∀ x∈d0,small x)
  (st:St) (hh:st.heap=aS h id ver d0) (h0:st.tmps 0= .one (.ref id ver 0 d0.size 2 tight)) (h1:st.tmps 1= .one (.t (I a))) (h3:st.tmps 3= .one (.fn 161 [])) (h9:st.tmps 9= .one (.t (I i)))
  (K:∀ st':St,st'.heap=aS h id ver (Sort.insInner ltS a i d0)→st'.tmps 0=st.tmps 0→st'.tmps 1=st.tmps 1→st'.tmps 2=st.tmps 2→st'.tmps 3=st.tmps 3→st'.tmps 8=st.tmps 8→cX prog n A ks .normal st'):
  W prog n (.loop a69) (kont prog n A (.blk 2::ks)) st:=by
 refine W.cU (fun k st1=>∃ (j:Nat) (d:Array Sp),k=j∧j≤i∧d.size=d0.size∧(∀x∈d,small x)∧st1.heap=aS h id ver d∧Sort.insInner ltS a j d=Sort.insInner ltS a i d0∧st1.tmps 9= .one (.t (I j))∧st1.tmps 0=st.tmps 0∧st1.tmps 1=st.tmps 1∧st1.tmps 2=st.tmps 2∧st1.tmps 3=st.tmps 3∧st1.tmps 8=st.tmps 8) i ⟨i,d0,rfl,Nat.le_refl _,rfl,hsm,hh,rfl,h9,rfl,rfl,rfl,rfl,rfl⟩ ?_;rintro k st1 ⟨j,d,hk,hj,hd,hsm',hh1,hins,e9,e0,e1,e2,e3,e8⟩;have hdat:Data st1.heap id ver d:=by rw[hh1];exact bH
 rcases Nat.lt_or_ge a j with haj | haj
 ·have hj1:j<d.size:=by omega
  have hj2:j - 1<d.size:=by omega
  have c1:(st1.heap.rows id)[j]? =some (cell d[j]):=by rw[cellAt hdat hj1,getElem!_pos d j hj1]
  have c2:(st1.heap.rows id)[j - 1]? =some (cell d[j - 1]):=by rw[cellAt hdat hj2,getElem!_pos d (j - 1) hj2]
  have hw:IntKind.i64.wrap ((j:Int) - 1)=((j - 1:Nat):Int):=by rw[wrap_i64 (by omega) (by omega)];omega
  have g1:∀ hh,(st1.heap.rows id)[j]'hh=cell d[j]:=fun hh=>by rw[gE9 hh]at c1;simpa using c1
  have s1:small d[j]:=hsm' _ (Array.getElem_mem _);have s2:small d[j - 1]:=hsm' _ (Array.getElem_mem _);have hln:(st1.heap.rows id).length=d.size:=by rw[hdat.rows];simp
  have hstep:Sort.insInner ltS a j d=if ltS d[j] d[j - 1] then Sort.insInner ltS a (j - 1) ((d.setIfInBounds j d[j - 1]).setIfInBounds (j - 1) d[j])else d:=by
   rw[←getElem!_pos d j hj1,←getElem!_pos d (j - 1) hj2];obtain⟨m,rfl⟩:∃ m,j=m+1:=⟨j - 1,by omega⟩;rw[Sort.insInner];have:m+1>a:=haj;simp[this,Sort.swp]
  simp[a69,b2K,e9,e0,e1,e3,h0,h1,h3,haj,hdat.alive,hdat.sz,hln,hw,hj1,g1,c2,bI];refine⟨by omega,by omega,by omega,161,[],⟨rfl,rfl⟩,cW,?_⟩;refine aD.draw (sP d[j] d[j - 1] s1 s2) (by simp[cell]) (by simp[cell]) (by simp) ?_
  by_cases hlt:ltS d[j] d[j - 1]=true
  ·have hlt':d[j].1 - d[j - 1].1<0:=by simp[ltS]at hlt;omega
   simp[hlt'];have hst:=bH (h:=h) (id:=id) (ver:=ver) (d:=d);simp[b75,b76,e9,e0,e1,e2,e3,h0,h1,h3,hdat.alive,hdat.sz,hdat.open_,hln,hw,hj1,g1,c2,bI,eQ];have good:∀ y:Sp,∀x∈cell y,(match x with | Ab.A.undef=>false | x=>true)=true:=fun y x hx=>by simp[cell]at hx;rcases hx with rfl | rfl<;>rfl
   refine⟨by omega,hj2,by omega,good _,by omega,⟨hj2,good _⟩,j - 1,by omega,by omega,(d.setIfInBounds j d[j - 1]).setIfInBounds (j - 1) d[j],by simp[hd],fun x y hxy=>?_,?_,by rw[←hins,hstep,if_pos hlt],rfl,e8⟩
   ·rcases Array.mem_or_eq_of_mem_setIfInBounds hxy with h1 | h1
    ·rcases Array.mem_or_eq_of_mem_setIfInBounds h1 with h2 | h2
     ·exact hsm' _ h2
     ·rw[h2];exact s2
    ·rw[h1];exact s1
   ·have hne:¬ j=j - 1:=by omega
    have e1':(((st1.heap.rows id).set j (cell d[j - 1]++List.drop 2 (cell d[j]))).set (j - 1) (cell d[j]++List.drop 2 (((st1.heap.rows id).set j (cell d[j - 1]++List.drop 2 (cell d[j])))[j - 1]?.getD [])))=((d.setIfInBounds j d[j - 1]).setIfInBounds (j - 1) d[j]).toList.map cell:=by
     rw[List.getElem?_set_ne hne,c2,hdat.rows];simp[List.map_set,show ∀x,List.drop 2 (cell x)=[] from fun _=>rfl]
    rw[e1',hh1];funext q;simp only[aS,Hp.set];split<;>rfl
  ·have hlt':¬ d[j].1 - d[j - 1].1<0:=by simp[ltS]at hlt;omega
   simp[hlt'];exact K _ (by simp[hh1,←hins,hstep,hlt]) (by simp[e0]) (by simp[e1]) (by simp[e2]) (by simp[e3]) (by simp[e8])
 ·have hja:¬ (a:Int)<j:=by omega
  have hend:Sort.insInner ltS a j d=d:=by
   cases j with
   | zero=>rfl
   | succ j=>rw[Sort.insInner];simp;omega
  simp[a69,b2K,e9,e0,e1,e3,h0,h1,h3,hja];exact K _ (by simp[hh1,←hins,hend]) (by simp[e0]) (by simp[e1]) (by simp[e2]) (by simp[e3]) (by simp[e8])
theorem qP(a:Nat):∀ (j:Nat) (d:Array Sp),(∀x∈d,small x)→j<d.size→(Sort.insInner ltS a j d).size=d.size∧∀x∈Sort.insInner ltS a j d,small x
 | 0,d,h,_=>⟨rfl,h⟩
 | j+1,d,h,hj=>by
  rw[Sort.insInner];split
  ·have hs:(Sort.swp d (j+1) j).size=d.size:=by simp[Sort.swp]
   have hm:∀ x∈Sort.swp d (j+1) j,small x:=by
    intro x hx;have m1:d[j]! ∈d:=by rw[getElem!_pos d j (by omega)];exact Array.getElem_mem _
    have m2:d[j+1]! ∈d:=by rw[getElem!_pos d (j+1) hj];exact Array.getElem_mem _
    rcases Array.mem_or_eq_of_mem_setIfInBounds hx with h1 | h1
    ·rcases Array.mem_or_eq_of_mem_setIfInBounds h1 with h2 | h2
     ·exact h _ h2
     ·rw[h2];exact h _ m1
    ·rw[h1];exact h _ m2
   obtain⟨q1,q2⟩:=qP a j (Sort.swp d (j+1) j) hm (by rw[hs];omega);exact⟨by rw[q1,hs],q2⟩
  ·exact⟨rfl,h⟩
theorem aGG(h:Hp)(n0 id ver a b:Nat)(tight:Bool)(d:Array Sp)(hd:Data h id ver d)(ho:aF h n0)(hid:id<n0)(hb:b≤d.size)(hsz:d.size≤100000)(ha:a≤100000)(hsm:∀ x∈d,small x):
  ISp prog 244 h n0 [.one (.ref id ver 0 d.size 2 tight),.one (.t (I a)),.one (.t (I b)),.one (.fn 161 [])] (.tup []) (aS h id ver (Sort.insertionSort ltS d a b)):=by
 refine k244.gQ (by simp) ?_;have hw:IntKind.i64.wrap ((a:Int)+1)=((a+1:Nat):Int):=by rw[wrap_i64 (by omega) (by omega)];omega
 simp[c244,b2J,hw]
 refine W.cU (fun k st=>∃ (i:Nat) (e:Array Sp),k=b - i∧e.size=d.size∧(∀x∈e,small x)∧st.heap=aS h id ver e∧Sort.insOuter ltS a b i e=Sort.insertionSort ltS d a b∧i≤100001∧
  st.tmps 0= .one (.ref id ver 0 d.size 2 tight)∧st.tmps 1= .one (.t (I a))∧st.tmps 2= .one (.t (I b))∧st.tmps 3= .one (.fn 161 [])∧st.tmps 8= .one (.t (I i))) (b - (a+1)) ⟨a+1,d,rfl,rfl,hsm,hd.self.symm,rfl,by omega,by simp,by simp,by simp,by simp,by simp⟩ ?_
 rintro k st ⟨i,e,hk,he,hse,hh,hout,hi,h0,h1,h2,h3,h8⟩;rcases Nat.lt_or_ge i b with hlt | hge
 ·have hstep:Sort.insOuter ltS a b i e=Sort.insOuter ltS a b (i+1) (Sort.insInner ltS a i e):=by rw[Sort.insOuter,if_pos hlt]
  obtain⟨q1,q2⟩:=qP a i e hse (by omega);have hw2:IntKind.i64.wrap ((i:Int)+1)=((i+1:Nat):Int):=by rw[wrap_i64 (by omega) (by omega)];omega
  simp[a7a,a68,b74,h2,h8,hlt];refine aCE h id ver a i tight e (by omega) (by omega) hse _ hh (by simp[h0,he]) (by simp[h1]) (by simp[h3]) (by simp) fun st' r1 r2 r3 r4 r5 r6=>?_
  simp[h0,h1,h2,h3,h8]at r2 r3 r4 r5 r6;simp[b77,r1,r2,r3,r4,r5,r6,hw2];exact⟨b - (i+1),by omega,i+1,rfl,Sort.insInner ltS a i e,by omega,by intro x y hxy;exact q2 _ hxy,rfl,by rw[←hout,hstep],by omega,rfl⟩
 ·have hge':¬ i<b:=by omega
  have hend:Sort.insOuter ltS a b i e=e:=by rw[Sort.insOuter,if_neg hge']
  simp[a7a,a68,h2,h8,hge'];exact fJ (.inl rfl) rfl (by rw[hh,←hout,hend]) (aF.put ho hid)
structure Box (h:Hp) (id ver:Nat) (s:Int):Prop where
 alive:alive h id ver
 rows:h.rows id=[[.t (I s)]]
 sz:h.sz id=1
 open_:h.shut id=false
def eT(h:Hp)(id ver:Nat)(s:Int):Hp:=h.set id (.arr ver false 1 [[.t (I s)]])
theorem aF.eT{h:Hp}{n id ver:Nat}{s:Int}(ho:aF h n)(hid:id<n):aF (eT h id ver s) n:=by
 refine⟨fun j hj=>?_,fun j o hj=>?_⟩
 ·simp only[YtdpbobkcbakpfaaGreatDoor.eT,Hp.set];rw[if_neg (by omega)];exact ho.above j hj
 ·simp only[YtdpbobkcbakpfaaGreatDoor.eT,Hp.set]at hj;split at hj
  ·simp only[sI9]at hj;subst hj;simp[O.below,A.below]
  ·exact ho.below j o hj
theorem aOI(h:Hp)(n0 id ver sw vs a b s:Nat)(tight:Bool)(d:Array Sp)(hd:Data h id ver d)(hb:Box h sw vs s)(ho:aF h n0)(hsw:sw<n0)(ha':a<d.size)(hb':b<d.size)(hs:s≤100)(hsm:∀ x∈d,small x):
  ISp prog 291 h n0 [.one (.ref id ver 0 d.size 2 tight),.one (.t (I a)),.one (.t (I b)),.one (.ptr ⟨sw,vs,1,0,0⟩),.one (.fn 161 [])]
   (.tup [.one (.t (I (Sort.order2 ltS d a b s).1)),.one (.t (I (Sort.order2 ltS d a b s).2.1))]) (if ltS d[b] d[a] then eT h sw vs ((s:Int)+1)else h):=by
 refine k291.gQ (by simp) ?_;have c1:(h.rows id)[a]? =some (cell d[a]):=by rw[cellAt hd ha',getElem!_pos d a ha']
 have c2:(h.rows id)[b]? =some (cell d[b]):=by rw[cellAt hd hb',getElem!_pos d b hb']
 have g1:∀ hh,(h.rows id)[a]'hh=cell d[a]:=fun hh=>by rw[gE9 hh]at c1;simpa using c1
 have g2:∀ hh,(h.rows id)[b]'hh=cell d[b]:=fun hh=>by rw[gE9 hh]at c2;simpa using c2
 have hln:(h.rows id).length=d.size:=by rw[hd.rows];simp
 have hw:IntKind.i64.wrap ((s:Int)+1)=(s:Int)+1:=wrap_i64 (by omega) (by omega);have s1:small d[a]:=hsm _ (Array.getElem_mem _);have s2:small d[b]:=hsm _ (Array.getElem_mem _)
 have ho2:Sort.order2 ltS d a b s=if ltS d[b] d[a] then(b,a,s+1)else(a,b,s):=by
  rw[Sort.order2,getElem!_pos d a ha',getElem!_pos d b hb']
 simp[c291,b9x,b9y,hd.alive,hd.sz,hln,g1,g2,ha',hb',bI];refine⟨161,[],⟨rfl,rfl⟩,cW,?_⟩;refine aD.draw (sP d[b] d[a] s2 s1) (by simp[cell]) (by simp[cell]) (by simp) ?_
 by_cases hlt:ltS d[b] d[a]=true
 ·have hlt':d[b].1 - d[a].1<0:=by simp[ltS]at hlt;omega
  simp[hlt',b9z,b9A,hb.alive,hb.rows,hb.sz,hb.open_,hw,ho2,hlt];refine⟨.inr rfl,⟨by simp,by simp⟩,by simp,by simp,by simp,fun j hj=>by simp[eT],(aF.eT ho hsw).above,(aF.eT ho hsw).below⟩
 ·have hlt':¬ d[b].1 - d[a].1<0:=by simp[ltS]at hlt;omega
  simp[hlt',b9B,ho2,hlt];exact⟨.inr rfl,⟨by simp,by simp⟩,by simp,by simp,by simp,fun j hj=>rfl,ho.above,ho.below⟩
theorem aOJ{h:Hp}{id ver:Nat}{s:Int}:Box (eT h id ver s) id ver s:=⟨by simp[eT],by simp[eT],by simp[eT],by simp[eT]⟩
theorem aJ1{h:Hp}{id ver:Nat}{s t:Int}:eT (eT h id ver s) id ver t=eT h id ver t:=funext fun j=>by
 simp only[eT,Hp.set];split<;>rfl
theorem Data.eT{h:Hp}{id ver sw vs:Nat}{d:Array Sp}{s:Int}(hd:Data h id ver d)(hne:id≠sw):Data (eT h sw vs s) id ver d:=
 ⟨by simp[YtdpbobkcbakpfaaGreatDoor.eT,hne,hd.alive],by simp[YtdpbobkcbakpfaaGreatDoor.eT,hne,hd.rows],by simp[YtdpbobkcbakpfaaGreatDoor.eT,hne,hd.sz],by simp[YtdpbobkcbakpfaaGreatDoor.eT,hne,hd.open_]⟩
theorem aAR{d:Array Sp}{a b s:Nat}:(Sort.order2 ltS d a b s).1=a∧(Sort.order2 ltS d a b s).2.1=b∨(Sort.order2 ltS d a b s).1=b∧(Sort.order2 ltS d a b s).2.1=a:=by
 rw[Sort.order2];split<;>simp
theorem pH{d:Array Sp}{a b s:Nat}:(Sort.order2 ltS d a b s).2.2≤s+1:=by
 rw[Sort.order2];split<;>simp
theorem aCF(h:Hp)(n0 id ver sw vs a b s:Nat)(tight:Bool)(d:Array Sp)(hd:Data h id ver d)(hne:id≠sw)(ho:aF h n0)(hsw:sw<n0)(ha':a<d.size)(hb':b<d.size)(hs:s≤100)(hsm:∀ x∈d,small x):
  ISp prog 291 (eT h sw vs s) n0 [.one (.ref id ver 0 d.size 2 tight),.one (.t (I a)),.one (.t (I b)),.one (.ptr ⟨sw,vs,1,0,0⟩),.one (.fn 161 [])]
   (.tup [.one (.t (I (Sort.order2 ltS d a b s).1)),.one (.t (I (Sort.order2 ltS d a b s).2.1))]) (eT h sw vs (Sort.order2 ltS d a b s).2.2):=by
 have:=aOI (eT h sw vs s) n0 id ver sw vs a b s tight d (hd.eT hne) aOJ (aF.eT ho hsw) hsw ha' hb' hs hsm
 have e:(if ltS d[b] d[a] then eT (eT h sw vs s) sw vs ((s:Int)+1)else eT h sw vs s)=eT h sw vs (Sort.order2 ltS d a b s).2.2:=by
  rw[Sort.order2,getElem!_pos d a ha',getElem!_pos d b hb',aJ1];split<;>simp
 rw[e]at this;exact this
theorem aHK(h:Hp)(n0 id ver sw vs a b c s:Nat)(tight:Bool)(d:Array Sp)(hd:Data h id ver d)(hne:id≠sw)(ho:aF h n0)(hsw:sw<n0)(ha':a<d.size)(hb':b<d.size)(hc':c<d.size)(hs:s≤50)(hsm:∀ x∈d,small x):
  ISp prog 279 (eT h sw vs s) n0 [.one (.ref id ver 0 d.size 2 tight),.one (.t (I a)),.one (.t (I b)),.one (.t (I c)),.one (.ptr ⟨sw,vs,1,0,0⟩),.one (.fn 161 [])]
   (.one (.t (I (Sort.median ltS d a b c s).1))) (eT h sw vs (Sort.median ltS d a b c s).2):=by
 refine k279.gQ (by simp) ?_;simp[c279,b9s,b9t];refine aD.imp (aCF h _ id ver sw vs a b s tight d hd hne (aF.more ho (by omega)) (by omega) ha' hb' (by omega) hsm) ?_;have p1:=aAR (d:=d) (a:=a) (b:=b) (s:=s);have q1:=pH (d:=d) (a:=a) (b:=b) (s:=s);simp[Sort.median];generalize Sort.order2 ltS d a b s=r1 at*;obtain⟨x1,y1,s1⟩:=r1;simp at p1 q1;simp[b9u];refine aD.imp (aCF h _ id ver sw vs y1 c s1 tight d hd hne (aF.more ho (by omega)) (by omega) (by omega) hc' (by omega) hsm) ?_;have p2:=aAR (d:=d) (a:=y1) (b:=c) (s:=s1);have q2:=pH (d:=d) (a:=y1) (b:=c) (s:=s1);generalize Sort.order2 ltS d y1 c s1=r2 at*;obtain⟨x2,y2,s2⟩:=r2;simp at p2 q2;simp[b9v];refine aD.imp (aCF h _ id ver sw vs x1 x2 s2 tight d hd hne (aF.more ho (by omega)) (by omega) (by omega) (by omega) (by omega) hsm) ?_;simp[b9w];exact⟨.inr rfl,⟨by simp,by simp⟩,by simp,by simp,by simp,fun j hj=>rfl,(aF.eT ho hsw).above,(aF.eT ho hsw).below⟩
theorem vH(h:Hp)(n0 id ver sw vs a s:Nat)(tight:Bool)(d:Array Sp)(hd:Data h id ver d)(hne:id≠sw)(ho:aF h n0)(hsw:sw<n0)(ha:0<a)(ha':a+1<d.size)(hsz:d.size≤100000)(hs:s≤50)(hsm:∀ x∈d,small x):
  ISp prog 278 (eT h sw vs s) n0 [.one (.ref id ver 0 d.size 2 tight),.one (.t (I a)),.one (.ptr ⟨sw,vs,1,0,0⟩),.one (.fn 161 [])]
   (.one (.t (I (Sort.medianAdjacent ltS d a s).1))) (eT h sw vs (Sort.medianAdjacent ltS d a s).2):=by
 refine k278.gQ (by simp) ?_;have hw1:IntKind.i64.wrap ((a:Int) - 1)=((a - 1:Nat):Int):=by rw[wrap_i64 (by omega) (by omega)];omega
 have hw2:IntKind.i64.wrap ((a:Int)+1)=((a+1:Nat):Int):=by rw[wrap_i64 (by omega) (by omega)];omega
 simp[c278,b9q,b9r,hw1,hw2];refine aD.imp (aHK h _ id ver sw vs (a - 1) a (a+1) s tight d hd hne (aF.more ho (by omega)) (by omega) (by omega) (by omega) ha' hs hsm) ?_;simp[Sort.medianAdjacent];exact⟨.inr rfl,⟨by simp,by simp⟩,by simp,by simp,by simp,fun j hj=>rfl,(aF.eT ho hsw).above,(aF.eT ho hsw).below⟩
theorem aAS(x:Sp):List.drop 2 (cell x)=[]:=rfl
theorem bJ(y:Sp):∀ x∈cell y,(match x with | Ab.A.undef=>false | _x=>true)=true:=fun x hx=>by simp[cell]at hx;rcases hx with rfl | rfl<;>rfl
theorem swp_size{d:Array Sp}{i j:Nat}:(Sort.swp d i j).size=d.size:=by simp[Sort.swp]
theorem qE{d:Array Sp}{i j:Nat}(hi:i<d.size)(hj:j<d.size)(h:∀ x∈d,small x):∀ x∈Sort.swp d i j,small x:=by
 intro x hx;have m1:d[j]! ∈d:=by rw[getElem!_pos d j hj];exact Array.getElem_mem _
 have m2:d[i]! ∈d:=by rw[getElem!_pos d i hi];exact Array.getElem_mem _
 rcases Array.mem_or_eq_of_mem_setIfInBounds hx with h1 | h1
 ·rcases Array.mem_or_eq_of_mem_setIfInBounds h1 with h2 | h2
  ·exact h _ h2
  ·rw[h2];exact h _ m1
 ·rw[h1];exact h _ m2
theorem tX{h g:Hp}{id ver i j:Nat}{d:Array Sp}(hg:g=aS h id ver d)(hi:i<d.size)(hj:j<d.size)(hne:i≠j):
  ((g.set id (.arr ver false 2 ((g.rows id).set i (cell d[j]++List.drop 2 (cell d[i]))))).set id
   (.arr ver false 2 (((g.rows id).set i (cell d[j]++List.drop 2 (cell d[i]))).set j (cell d[i]++List.drop 2 (((g.rows id).set i (cell d[j]++List.drop 2 (cell d[i])))[j]?.getD [])))))=aS h id ver (Sort.swp d i j):=by
 have hd:Data g id ver d:=by rw[hg];exact bH
 have c:(g.rows id)[j]? =some (cell d[j]):=by rw[cellAt hd hj,getElem!_pos d j hj]
 have e:(((g.rows id).set i (cell d[j]++List.drop 2 (cell d[i]))).set j (cell d[i]++List.drop 2 (((g.rows id).set i (cell d[j]++List.drop 2 (cell d[i])))[j]?.getD [])))=(Sort.swp d i j).toList.map cell:=by
  rw[List.getElem?_set_ne hne,c,hd.rows,Sort.swp,getElem!_pos d i hi,getElem!_pos d j hj];simp[List.map_set,aAS]
 rw[e,hg];funext q;simp only[aS,Hp.set];split<;>rfl
theorem aLL(h:Hp)(n0 id ver a b:Nat)(tight:Bool)(d:Array Sp)(hd:Data h id ver d)(ho:aF h n0)(hid:id<n0)(hab:a<b)(hb:b≤d.size)(hsz:d.size≤100000)(c:D)(_hc:c.closed=true):
  ISp prog 248 h n0 [.one (.ref id ver 0 d.size 2 tight),.one (.t (I a)),.one (.t (I b)),c] (.tup []) (aS h id ver (Sort.reverseRange d a b)):=by
 refine k248.gQ (by simp) ?_;have hw:IntKind.i64.wrap ((b:Int) - 1)=((b - 1:Nat):Int):=by rw[wrap_i64 (by omega) (by omega)];omega
 simp[c248,b8B,b8C,hw]
 refine W.cU (fun k st=>∃ (i j:Nat) (e:Array Sp),k=j - i∧e.size=d.size∧st.heap=aS h id ver e∧Sort.reverseLoop i j e=Sort.reverseRange d a b∧i≤100001∧j<d.size∧
  st.tmps 0= .one (.ref id ver 0 d.size 2 tight)∧st.tmps 8= .one (.t (I i))∧st.tmps 9= .one (.t (I j))) (b - 1 - a) ⟨a,b - 1,d,rfl,rfl,hd.self.symm,rfl,by omega,by omega,by simp,by simp,by simp⟩ ?_
 rintro k st ⟨i,j,e,hk,he,hh,hout,hi,hj,h0,h8,h9⟩;have hdat:Data st.heap id ver e:=by rw[hh];exact bH
 rcases Nat.lt_or_ge i j with hlt | hge
 ·have hie:i<e.size:=by omega
  have hje:j<e.size:=by omega
  have hid':i<d.size:=by omega
  have c1:(st.heap.rows id)[i]? =some (cell e[i]):=by rw[cellAt hdat hie,getElem!_pos e i hie]
  have c2:(st.heap.rows id)[j]? =some (cell e[j]):=by rw[cellAt hdat hje,getElem!_pos e j hje]
  have g1:∀ hh,(st.heap.rows id)[i]'hh=cell e[i]:=fun hh=>by rw[gE9 hh]at c1;simpa using c1
  have g2:∀ hh,(st.heap.rows id)[j]'hh=cell e[j]:=fun hh=>by rw[gE9 hh]at c2;simpa using c2
  have hln:(st.heap.rows id).length=e.size:=by rw[hdat.rows];simp
  have hw1:IntKind.i64.wrap ((i:Int)+1)=((i+1:Nat):Int):=by rw[wrap_i64 (by omega) (by omega)];omega
  have hw2:IntKind.i64.wrap ((j:Int) - 1)=((j - 1:Nat):Int):=by rw[wrap_i64 (by omega) (by omega)];omega
  have hstep:Sort.reverseLoop i j e=Sort.reverseLoop (i+1) (j - 1) (Sort.swp e i j):=by rw[Sort.reverseLoop,if_pos hlt]
  simp[b2Y,b2X,b8D,b8E,b8F,h0,h8,h9,hlt,hdat.alive,hdat.sz,hdat.open_,hln,g1,g2,hie,hje,hid',hj,bI,eQ,hw1,hw2];refine⟨bJ _,bJ _,j - 1 - (i+1),by omega,i+1,j - 1,rfl,Sort.swp e i j,by rw[swp_size];exact he,?_,by rw[←hout,hstep],by omega,by omega,rfl,rfl⟩;have sh:=tX hh hie hje (by omega);simp[hln,hje]at sh;exact sh
 ·have hge':¬ i<j:=by omega
  have hend:Sort.reverseLoop i j e=e:=by rw[Sort.reverseLoop,if_neg hge']
  simp[b2Y,b2X,h8,h9,hge'];exact fJ (.inl rfl) rfl (by rw[hh,←hout,hend]) (aF.put ho hid)
theorem rowAt{g:Hp}{id ver p:Nat}{e:Array Sp}(hd:Data g id ver e)(hp:p<e.size):∀ hh,(g.rows id)[p]'hh=cell e[p]:=fun hh=>by
 have c:=cellAt hd hp;rw[getElem!_pos e p hp,gE9 hh]at c;simpa using c
theorem sink{n:Nat}{A:Exit→St→Prop}{J:St→Prop}{nx1 nx2:Nat}{tm:Nat→D}{h g:Hp}(id ver first r c p0 p:Nat)(tight:Bool)(e:Array Sp)(hg:g=aS h id ver e)(hp0:p0=first+r)(hp:p=first+c)(q0:p0<e.size)(q:p<e.size)(hne:r≠c)(hsz:e.size≤100000)(hse:∀ x∈e,small x)
  (h0:tm 0= .one (.ref id ver 0 e.size 2 tight)) (h3:tm 3= .one (.t (I first))) (h4:tm 4= .one (.fn 161 [])) (h10:tm 10= .one (.t (I r))) (h11:tm 11= .one (.t (I c)))
  (stop:ltS e[p0] e[p]=false→∀st':St,st'.heap=g→A .ret st')
  (go:ltS e[p0] e[p]=true→∀st':St,st'.heap=aS h id ver (Sort.swp e p0 p)→st'.tmps 0=tm 0→st'.tmps 2=tm 2→st'.tmps 3=tm 3→st'.tmps 4=tm 4→st'.tmps 10= .one (.t (I c))→J st'):
  iH prog true nx1 b3j (nR (kont prog n A [.thn (.cond (X.tmp 58) .ret .skip),.thn (.seq (.region 6 true 24 b3k) (.region 7 false 2 b3l)),.blk 1,.post J,.blk 0]) nx2) 0 tm g:=by
 have hdat:Data g id ver e:=by rw[hg];exact bH
 have w4:IntKind.i64.wrap ((first:Int)+c)=(p:Int):=aH _ (by omega) (by omega);have w6:IntKind.i64.wrap ((first:Int)+r)=(p0:Int):=aH _ (by omega) (by omega);have hln:(g.rows id).length=e.size:=by rw[hdat.rows];simp
 have g0:=rowAt hdat q0;have g1:=rowAt hdat q;have s1:small e[p0]:=hse _ (Array.getElem_mem _);have s2:small e[p]:=hse _ (Array.getElem_mem _);simp[b3j,h0,h3,h4,h10,h11,w4,w6,hdat.alive,hdat.sz,hln,g0,g1,q0,q,bI];refine⟨161,[],⟨rfl,rfl⟩,cW,?_⟩;refine aD.draw (sP e[p0] e[p] s1 s2) (by simp[cell]) (by simp[cell]) (by simp) ?_
 by_cases hlt:ltS e[p0] e[p]=true
 ·have hlt':e[p0].1 - e[p].1<0:=by simp[ltS]at hlt;omega
  simp[hlt'];simp[b3k,b3l,h0,h3,h10,h11,w4,w6,hdat.alive,hdat.sz,hdat.open_,hln,g0,g1,q0,q,bI,eQ];refine⟨bJ _,bJ _,go hlt _ ?_ (by simp[h0]) (by simp) (by simp[h3]) (by simp[h4]) (by simp)⟩;have sh:=tX hg q0 q (by omega);simp[hln,q]at sh;exact sh
 ·have hlt':¬ e[p0].1 - e[p].1<0:=by simp[ltS]at hlt;omega
  simp[hlt'];exact stop (by simpa using hlt) _ rfl
theorem aAT(h:Hp)(n0 id ver lo hi first:Nat)(tight:Bool)(d:Array Sp)(hd:Data h id ver d)(ho:aF h n0)(hid:id<n0)(hb:first+hi≤d.size)(hlo:lo≤100000)(hsz:d.size≤100000)(hsm:∀ x∈d,small x):
  ISp prog 275 h n0 [.one (.ref id ver 0 d.size 2 tight),.one (.t (I lo)),.one (.t (I hi)),.one (.t (I first)),.one (.fn 161 [])] (.tup []) (aS h id ver (Sort.siftDown ltS hi first lo d)):=by
 refine k275.gQ (by simp) ?_;simp[c275,b9m]
 refine W.cU (fun k st=>∃ (r:Nat) (e:Array Sp),k=200001 - r∧r≤100000∧e.size=d.size∧(∀x∈e,small x)∧st.heap=aS h id ver e∧Sort.siftDown ltS hi first r e=Sort.siftDown ltS hi first lo d∧
  st.tmps 0= .one (.ref id ver 0 d.size 2 tight)∧st.tmps 2= .one (.t (I hi))∧st.tmps 3= .one (.t (I first))∧st.tmps 4= .one (.fn 161 [])∧st.tmps 10= .one (.t (I r))) (200001 - lo) ⟨lo,d,rfl,by omega,rfl,hsm,hd.self.symm,rfl,by simp,by simp,by simp,by simp,by simp⟩ ?_
 rintro k st ⟨r,e,hk,hr,he,hse,hh,hout,h0,h2,h3,h4,h10⟩;have hdat:Data st.heap id ver e:=by rw[hh];exact bH
 obtain⟨c,hc0⟩:∃ c:Nat,c=2*r+1:=⟨_,rfl⟩;have w1:IntKind.i64.wrap (2*(r:Int))=2*(r:Int):=wrap_i64 (by omega) (by omega);have w2:IntKind.i64.wrap (2*(r:Int)+1)=(c:Int):=aH _ (by omega) (by omega);simp[b9p,b9n,h10,w1,w2]
 have hu:Sort.siftDown ltS hi first r e=if c≥hi then e else if c+1<hi∧ltS e[first+c]! e[first+c+1]! =true then(if ltS e[first+r]! e[first+c+1]! =true then Sort.siftDown ltS hi first (c+1) (Sort.swp e (first+r) (first+c+1))else e)
   else(if ltS e[first+r]! e[first+c]! =true then Sort.siftDown ltS hi first c (Sort.swp e (first+r) (first+c))else e):=by
  rw[Sort.siftDown];subst hc0
  by_cases h1:2*r+1≥hi
  ·simp[h1]
  ·have e2:first+(2*r+2)=first+(2*r+1)+1:=by omega
   by_cases h2:2*r+1+1<hi
   ·have h2':2*r+2<hi:=by omega
    simp[h1,h2,e2];split<;>split<;>simp_all
   ·simp[h1,h2];split<;>simp_all
 rw[hu]at hout
 by_cases hge:c≥hi
 ·rw[if_pos hge]at hout;simp[b3h,h2,hge];exact fJ (.inl rfl) rfl (by rw[hh,hout]) (aF.put ho hid)
 rw[if_neg hge]at hout;simp[b3h,h2,hge];obtain⟨p0,hp0⟩:∃ p:Nat,p=first+r:=⟨_,rfl⟩;obtain⟨p1,hp1⟩:∃ p:Nat,p=first+c:=⟨_,rfl⟩;have q0:p0<e.size:=by omega
 have q1:p1<e.size:=by omega
 have q1':p1<d.size:=by omega
 have w3:IntKind.i64.wrap ((c:Int)+1)=((c+1:Nat):Int):=aH _ (by omega) (by omega);have w4:IntKind.i64.wrap ((first:Int)+c)=(p1:Int):=aH _ (by omega) (by omega);have hln:(st.heap.rows id).length=e.size:=by rw[hdat.rows];simp
 have g1:=rowAt hdat q1;rw[←hp0,←hp1]at hout;have fin:∀ st':St,Sort.siftDown ltS hi first lo d=e→st'.heap=st.heap→gF [] (.tup []) (aS h id ver (Sort.siftDown ltS hi first lo d)) n0 .ret st':=fun st' h1 h2=>fJ (.inr rfl) rfl (by rw[h2,hh,h1]) (aF.put ho hid)
 by_cases hc:c+1<hi
 ·obtain⟨p2,hp2⟩:∃ p:Nat,p=p1+1:=⟨_,rfl⟩;have q2:p2<e.size:=by omega
  have q2':p2<d.size:=by omega
  have g2:=rowAt hdat q2;have hcI:(c:Int)+1<hi:=by omega
  have w5:IntKind.i64.wrap ((p1:Int)+1)=(p2:Int):=aH _ (by omega) (by omega);have s1:small e[p1]:=hse _ (Array.getElem_mem _);have s2:small e[p2]:=hse _ (Array.getElem_mem _);rw[←hp2,getElem!_pos e p0 q0,getElem!_pos e p1 q1,getElem!_pos e p2 q2]at hout;simp[b3i,h0,h2,h3,h4,hcI,w3,w4,w5,hdat.alive,hdat.sz,hln,g1,g2,q1,q2,q1',q2',bI];refine⟨161,[],⟨rfl,rfl⟩,cW,?_⟩;refine aD.draw (sP e[p1] e[p2] s1 s2) (by simp[cell]) (by simp[cell]) (by simp) ?_
  by_cases hl:ltS e[p1] e[p2]=true
  ·have hl':e[p1].1 - e[p2].1<0:=by simp[ltS]at hl;omega
   rw[if_pos ⟨hc,hl⟩]at hout;simp[hl',b9o,w3];refine sink id ver first r (c+1) p0 p2 tight e hh hp0 (by omega) q0 q2 (by omega) (by omega) hse (by simp[h0,he]) (by simp[h3]) (by simp[h4]) (by simp[h10]) (by simp) (fun hf st' e1=>?_) (fun ht st' e1 e2 e3 e4 e5 e6=>?_)
   ·rw[if_neg (by simp[hf])]at hout;exact fin st' hout.symm e1
   ·rw[if_pos ht]at hout;simp[h0,h2,h3,h4]at e2 e3 e4 e5;exact⟨200001 - (c+1),by omega,c+1,rfl,by omega,Sort.swp e p0 p2,by rw[swp_size];exact he,fun x y hxy=>qE q0 q2 hse _ hxy,e1,hout,e2,e3,e4,e5,e6⟩
  ·have hl':¬ e[p1].1 - e[p2].1<0:=by simp[ltS]at hl;omega
   rw[if_neg (by simp[hl])]at hout;simp[hl'];refine sink id ver first r c p0 p1 tight e hh hp0 hp1 q0 q1 (by omega) (by omega) hse (by simp[h0,he]) (by simp[h3]) (by simp[h4]) (by simp[h10]) (by simp) (fun hf st' e1=>?_) (fun ht st' e1 e2 e3 e4 e5 e6=>?_)
   ·rw[if_neg (by simp[hf])]at hout;exact fin st' hout.symm e1
   ·rw[if_pos ht]at hout;simp[h0,h2,h3,h4]at e2 e3 e4 e5;exact⟨200001 - c,by omega,c,rfl,by omega,Sort.swp e p0 p1,by rw[swp_size];exact he,fun x y hxy=>qE q0 q1 hse _ hxy,e1,hout,e2,e3,e4,e5,e6⟩
 ·have hcI:¬ (c:Int)+1<hi:=by omega
  rw[if_neg (by simp[hc]),getElem!_pos e p0 q0,getElem!_pos e p1 q1]at hout;simp[b3i,h0,h2,h3,h4,hcI,w3];refine sink id ver first r c p0 p1 tight e hh hp0 hp1 q0 q1 (by omega) (by omega) hse (by simp[h0,he]) (by simp[h3]) (by simp[h4]) (by simp[h10]) (by simp) (fun hf st' e1=>?_) (fun ht st' e1 e2 e3 e4 e5 e6=>?_)
  ·rw[if_neg (by simp[hf])]at hout;exact fin st' hout.symm e1
  ·rw[if_pos ht]at hout;simp[h0,h2,h3,h4]at e2 e3 e4 e5;exact⟨200001 - c,by omega,c,rfl,by omega,Sort.swp e p0 p1,by rw[swp_size];exact he,fun x y hxy=>qE q0 q1 hse _ hxy,e1,hout,e2,e3,e4,e5,e6⟩
def Keeps(d e:Array Sp):Prop:=e.size=d.size∧((∀x∈d,small x)→∀x∈e,small x)
theorem Keeps.refl(d:Array Sp):Keeps d d:=⟨rfl,fun h=>h⟩
theorem Keeps.trans{d e f:Array Sp}(h:Keeps d e)(k:Keeps e f):Keeps d f:=⟨k.1.trans h.1,fun q=>k.2 (h.2 q)⟩
theorem Keeps.swp{d:Array Sp}{i j:Nat}(hi:i<d.size)(hj:j<d.size):Keeps d (Sort.swp d i j):=⟨swp_size,qE hi hj⟩
theorem pI(hi first root:Nat)(d:Array Sp):first+hi≤d.size→Keeps d (Sort.siftDown ltS hi first root d):=by
 fun_induction Sort.siftDown ltS hi first root d with
 | case1=>exact fun _=> .refl _
 | case2=>exact fun _=> .refl _
 | case3 root d h1 h2 h3 h4 ih=>exact fun h=>(Keeps.swp (by omega) (by omega)).trans (ih (by rw[swp_size];exact h))
 | case4=>exact fun _=> .refl _
 | case5=>exact fun _=> .refl _
 | case6 root d h1 h2 h3 ih=>exact fun h=>(Keeps.swp (by omega) (by omega)).trans (ih (by rw[swp_size];exact h))
theorem eL{h g:Hp}{id ver i j:Nat}{d:Array Sp}(hg:g=aS h id ver d)(hi:i<d.size)(hj:j<d.size):
  ((g.set id (.arr ver false 2 ((g.rows id).set i (cell d[j]++List.drop 2 (cell d[i]))))).set id
   (.arr ver false 2 (((g.rows id).set i (cell d[j]++List.drop 2 (cell d[i]))).set j (cell d[i]++List.drop 2 (((g.rows id).set i (cell d[j]++List.drop 2 (cell d[i])))[j]?.getD [])))))=aS h id ver (Sort.swp d i j):=by
 by_cases hne:i=j
 ·subst hne;have hd:Data g id ver d:=by rw[hg];exact bH
  have hl:i<(g.rows id).length:=by rw[hd.rows];simpa using hi
  have e:(((g.rows id).set i (cell d[i]++List.drop 2 (cell d[i]))).set i (cell d[i]++List.drop 2 (((g.rows id).set i (cell d[i]++List.drop 2 (cell d[i])))[i]?.getD [])))=(Sort.swp d i i).toList.map cell:=by
   rw[List.getElem?_set_self hl,hd.rows,Sort.swp,getElem!_pos d i hi];simp[List.map_set,aAS]
  rw[e,hg];funext q;simp only[aS,Hp.set];split<;>rfl
 ·exact tX hg hi hj hne
theorem aJ2(h:Hp)(n0 id ver a b:Nat)(tight:Bool)(d:Array Sp)(hd:Data h id ver d)(ho:aF h n0)(hid:id<n0)(hab:a<b)(hb:b≤d.size)(hsz:d.size≤100000)(hsm:∀ x∈d,small x):
  ISp prog 245 h n0 [.one (.ref id ver 0 d.size 2 tight),.one (.t (I a)),.one (.t (I b)),.one (.fn 161 [])] (.tup []) (aS h id ver (Sort.heapSort ltS d a b)):=by
 refine k245.gQ (by simp) ?_;obtain⟨hi,hhi⟩:∃ hi:Nat,hi=b - a:=⟨_,rfl⟩;obtain⟨m,hm⟩:∃ m:Nat,m=(hi - 1) / 2:=⟨_,rfl⟩;have w1:IntKind.i64.wrap ((b:Int) - a)=(hi:Int):=aH _ (by omega) (by omega);have w2:IntKind.i64.wrap ((hi:Int) - 1)=((hi - 1:Nat):Int):=aH _ (by omega) (by omega);have w3:IntKind.i64.wrap (((hi - 1:Nat):Int) / 2)=(m:Int):=aH _ (by omega) (by omega);have hsort:Sort.heapSort ltS d a b=Sort.heapPop ltS a hi (Sort.heapBuild ltS hi a (m+1) d):=by rw[Sort.heapSort,←hhi,←hm]
 simp[c245,b78,b79,b8a,b8b,w1,w2,w3]
 refine W.cU (fun k st=>∃ e:Array Sp,k≤m+1∧Keeps d e∧st.heap=aS h id ver e∧Sort.heapBuild ltS hi a k e=Sort.heapBuild ltS hi a (m+1) d∧n0≤st.nx∧
  st.tmps 0= .one (.ref id ver 0 d.size 2 tight)∧st.tmps 3= .one (.fn 161 [])∧st.tmps 8= .one (.t (I a))∧st.tmps 9= .one (.t (I 0))∧st.tmps 10= .one (.t (I hi))∧st.tmps 11= .one (.t (I ((k:Int) - 1)))) (m+1)
  ⟨d,by omega,.refl _,hd.self.symm,rfl,by simp;omega,by simp,by simp,by simp,by simp,by simp,by simp⟩ ?_
 rintro k st ⟨e,hk,he,hh,hout,hnx,h0,h3,h8,h9,h10,h11⟩;have hdat:Data st.heap id ver e:=by rw[hh];exact bH
 have hok:aF st.heap n0:=by rw[hh];exact aF.put ho hid
 cases k with
 | succ k=>
  have wk:IntKind.i64.wrap ((k:Int) - 1)=(k:Int) - 1:=wrap_i64 (by omega) (by omega);simp[b2M,b2L,b8d,b8c,h0,h3,h8,h10,h11];have hs:=aAT st.heap (st.nx+2+5) id ver k hi a tight e hdat (aF.more hok (by omega)) (by omega) (by rw[he.1];omega) (by omega) (by rw[he.1];exact hsz) (he.2 hsm);rw[he.1]at hs;refine aD.imp hs ?_;simp[h0,h3,h8,h9,h10,h11,wk];refine⟨k,by omega,by omega,Sort.siftDown ltS hi a k e,he.trans (pI hi a k e (by rw[he.1];omega)),by rw[hh,hU],hout,by omega,rfl⟩
 | zero=>
  have hd2:Sort.heapBuild ltS hi a 0 e=e:=rfl;rw[hd2]at hout;rw[←hout]at hsort;simp[b2M,b2L,h10,h11,b8e,w2];have wm:(((hi - 1:Nat):Int))=(hi:Int) - 1:=by omega
  refine W.cU (fun k st=>∃ e':Array Sp,k≤hi∧Keeps d e'∧st.heap=aS h id ver e'∧Sort.heapPop ltS a k e'=Sort.heapPop ltS a hi e∧n0≤st.nx∧
   st.tmps 0= .one (.ref id ver 0 d.size 2 tight)∧st.tmps 3= .one (.fn 161 [])∧st.tmps 8= .one (.t (I a))∧st.tmps 9= .one (.t (I 0))∧st.tmps 12= .one (.t (I ((k:Int) - 1)))) hi
   ⟨e,by omega,he,by simp[hh],rfl,by simp;omega,by simp[h0],by simp[h3],by simp[h8],by simp[h9],by simp[wm]⟩ ?_
  rintro k st1 ⟨e1,hk1,he1,hh1,aLM,hnx1,h0,h3,h8,h9,h12⟩;have hdat:Data st1.heap id ver e1:=by rw[hh1];exact bH
  have hok:aF st1.heap n0:=by rw[hh1];exact aF.put ho hid
  cases k with
  | succ k=>
   obtain⟨p,hp⟩:∃ p:Nat,p=a+k:=⟨_,rfl⟩;have wk:IntKind.i64.wrap ((k:Int) - 1)=(k:Int) - 1:=wrap_i64 (by omega) (by omega);have wp:IntKind.i64.wrap ((a:Int)+k)=(p:Int):=aH _ (by omega) (by omega);have q:p<e1.size:=by rw[he1.1];omega
   have q':p<d.size:=by omega
   have q0:a<e1.size:=by rw[he1.1];omega
   have q0':a<d.size:=by omega
   have hln:(st1.heap.rows id).length=e1.size:=by rw[hdat.rows];simp
   have g0:=rowAt hdat q0;have g1:=rowAt hdat q;have c1:(st1.heap.rows id)[a]? =some (cell e1[a]):=by rw[cellAt hdat q0,getElem!_pos e1 a q0]
   have c2:(st1.heap.rows id)[p]? =some (cell e1[p]):=by rw[cellAt hdat q,getElem!_pos e1 p q]
   simp[b2O,b2N,b8h,b8f,b8g,h0,h3,h8,h9,h12,wp,hdat.alive,hdat.sz,hdat.open_,hln,g0,g1,q,q',q0,q0',bI,eQ];refine⟨bJ _,bJ _,?_⟩
   have hsw:∀ g:Hp,g=aS h id ver (Sort.swp e1 a p)→ISp prog 275 g (st1.nx+2+20+5) [.one (.ref id ver 0 d.size 2 tight),.one (.t (I ((0:Nat):Int))),.one (.t (I k)),.one (.t (I a)),.one (.fn 161 [])] (.tup []) (aS h id ver (Sort.siftDown ltS k a 0 (Sort.swp e1 a p))):=by
    intro g hg;have hkp:=he1.trans (Keeps.swp q0 q);have:=aAT g (st1.nx+2+20+5) id ver 0 k a tight (Sort.swp e1 a p) (by rw[hg];exact bH) (by rw[hg];exact aF.more (aF.put ho hid) (by omega)) (by omega) (by rw[hkp.1];omega) (by omega) (by rw[hkp.1];exact hsz) (hkp.2 hsm);rw[hkp.1,hg,hU]at this;rw[hg];exact this
   have sh:=eL hh1 q0 q;simp[hln,q]at sh;rw[sh];refine aD.imp (hsw _ rfl) ?_;simp[h0,h3,h8,h9,h12,wk];refine⟨k,by omega,by omega,Sort.siftDown ltS k a 0 (Sort.swp e1 a p),(he1.trans (Keeps.swp q0 q)).trans (pI k a 0 _ (by rw[swp_size,he1.1];omega)),rfl,?_,by omega,rfl⟩;rw[←aLM,hp];rfl
  | zero=>
   have hd3:Sort.heapPop ltS a 0 e1=e1:=rfl;rw[hd3]at aLM;simp[b2O,b2N,h12];exact fJ (.inl rfl) rfl (by rw[hh1,hsort,aLM]) (aF.put ho hid)
def nH:Sort.Hint→Int
 | .unknown=>0
 | .increasing=>1
 | .decreasing=>2
theorem aLN{d:Array Sp}{a b c s:Nat}:(Sort.median ltS d a b c s).2≤s+3:=by
 simp only[Sort.median];have h1:=pH (d:=d) (a:=a) (b:=b) (s:=s);generalize Sort.order2 ltS d a b s=r1 at*;have h2:=pH (d:=d) (a:=r1.2.1) (b:=c) (s:=r1.2.2);generalize Sort.order2 ltS d r1.2.1 c r1.2.2=r2 at*;have h3:=pH (d:=d) (a:=r1.1) (b:=r2.1) (s:=r2.2.2);generalize Sort.order2 ltS d r1.1 r2.1 r2.2.2=r3 at*;omega
theorem aJ3{d:Array Sp}{a b c s m:Nat}(ha:a<m)(hb:b<m)(hc:c<m):(Sort.median ltS d a b c s).1<m:=by
 rcases Sort.median_mem ltS d a b c s with h | h | h<;>omega
theorem aAU{h:Hp}{n0 bx p s nx:Nat}{tm:Nat→D}{hint:Sort.Hint}(hbx:n0≤bx)(ho:aF h n0)(h11:tm 11= .one (.ptr ⟨bx,0,1,0,0⟩))(h13:tm 13= .one (.t (I p)))
  (hh:hint=if s=0 then .increasing else if s=12 then .decreasing else .unknown):
  aZ prog 63 (gF [.tmp 8,.tmp 9] (.tup [.one (.t (I p)),.one (.t (I (nH hint)))]) h n0) (.seq (.region 12 false 1 a5r) (.block 0 (.seq (.region 14 false 2 a5s) (.cond (X.tmp 57) (.seq (.region 15 false 3 b2U) .ret) (.seq (.region 16 false 2 a7b) (.cond (X.tmp 60) (.seq (.region 17 false 3 b2V) .ret) (.seq (.region 13 false 3 b2W) .ret))))))) [] ⟨tm,eT h bx 0 s,nx⟩:=by
 have fin:∀ id,id<n0→eT h bx 0 s id=h id:=fun id hid=>by simp only[eT,Hp.set];rw[if_neg (by omega)]
 subst hh
 by_cases s0:s=0
 ·subst s0;simp[a5r,a5s,b2U,h11,h13,eT,nH];exact⟨.inr rfl,⟨by simp,by simp⟩,by simp,by simp,by simp,fin,ho.above,ho.below⟩
 ·have s0':¬ (s:Int)=0:=by omega
  by_cases s12:s=12
  ·subst s12;simp[a5r,a5s,a7b,b2V,h11,h13,eT,nH];exact⟨.inr rfl,⟨by simp,by simp⟩,by simp,by simp,by simp,fin,ho.above,ho.below⟩
  ·have aXF:¬ (s:Int)=12:=by omega
   simp[a5r,a5s,a7b,b2W,h11,h13,eT,nH,s0,s12,aXF];exact⟨.inr rfl,⟨by simp,by simp⟩,by simp,by simp,by simp,fin,ho.above,ho.below⟩
theorem aCG(h:Hp)(n0 id ver a b:Nat)(tight:Bool)(d:Array Sp)(hd:Data h id ver d)(ho:aF h n0)(hid:id<n0)(hab:a+8≤b)(hb:b≤d.size)(hsz:d.size≤100000)(hsm:∀ x∈d,small x):
  ISp prog 247 h n0 [.one (.ref id ver 0 d.size 2 tight),.one (.t (I a)),.one (.t (I b)),.one (.fn 161 [])] (.tup [.one (.t (I (Sort.choosePivot ltS d a b).1)),.one (.t (I (nH (Sort.choosePivot ltS d a b).2)))]) h:=by
 refine k247.gQ (by simp) ?_;obtain⟨l,hl⟩:∃ l:Nat,l=b - a:=⟨_,rfl⟩;obtain⟨q,hq⟩:∃ q:Nat,q=l / 4:=⟨_,rfl⟩;obtain⟨i,hi⟩:∃ i:Nat,i=a+q:=⟨_,rfl⟩;obtain⟨j,hj⟩:∃ j:Nat,j=a+q*2:=⟨_,rfl⟩;obtain⟨k,hk⟩:∃ k:Nat,k=a+q*3:=⟨_,rfl⟩;have w1:IntKind.i64.wrap ((b:Int) - a)=(l:Int):=aH _ (by omega) (by omega);have w2:IntKind.i64.wrap ((l:Int) / 4)=(q:Int):=aH _ (by omega) (by omega);have w3:IntKind.i64.wrap (q:Int)=(q:Int):=aH _ rfl (by omega);have w4:IntKind.i64.wrap ((q:Int)*2)=((q*2:Nat):Int):=aH _ (by omega) (by omega);have w5:IntKind.i64.wrap ((q:Int)*3)=((q*3:Nat):Int):=aH _ (by omega) (by omega);have w6:IntKind.i64.wrap ((a:Int)+q)=(i:Int):=aH _ (by omega) (by omega);have w7:IntKind.i64.wrap ((a:Int)+q*2)=(j:Int):=aH _ (by omega) (by omega);have w8:IntKind.i64.wrap ((a:Int)+q*3)=(k:Int):=aH _ (by omega) (by omega);have hl8:8≤(l:Int):=by omega
 have hcp:Sort.choosePivot ltS d a b=(let r:=if l≥50 then(let ri:=Sort.medianAdjacent ltS d i 0;let rj:=Sort.medianAdjacent ltS d j ri.2;let rk:=Sort.medianAdjacent ltS d k rj.2;Sort.median ltS d ri.1 rj.1 rk.1 rk.2)else Sort.median ltS d i j k 0;
   (r.1,if r.2=0 then .increasing else if r.2=12 then .decreasing else .unknown)):=by
  rw[Sort.choosePivot,←hl,←hq,hi,hj,hk,if_pos (by omega:l≥8),Nat.mul_one]
 simp[c247,b8q,b8r,b8s,b8t,b8u,b8v,b8w,b8x,w1,w2,w3,w4,w5,w6,w7,w8,hl8];have hok:∀ m,n0≤m→aF h m:=fun m hm=>aF.more ho hm
 have mA:∀ (m x s:Nat),n0+6<m→0<x→x+1<b→s≤9→∃p t:Nat,Sort.medianAdjacent ltS d x s=(p,t)∧p<d.size∧t≤s+3∧
   ISp prog 278 (eT h (n0+6) 0 s) m [.one (.ref id ver 0 d.size 2 tight),.one (.t (I x)),.one (.ptr ⟨n0+6,0,1,0,0⟩),.one (.fn 161 [])] (.one (.t (I p))) (eT h (n0+6) 0 t):=by
  intro m x s hm hx hx' hs;have c:=vH h m id ver (n0+6) 0 x s tight d hd (by omega) (hok _ (by omega)) hm hx (by omega) hsz (by omega) hsm;have s1:=aLN (d:=d) (a:=x - 1) (b:=x) (c:=x+1) (s:=s);have p1:=aJ3 (d:=d) (a:=x - 1) (b:=x) (c:=x+1) (s:=s) (m:=d.size) (by omega) (by omega) (by omega);exact⟨_,_,rfl,p1,s1,c⟩
 have mM:∀ (m x y z s:Nat),n0+6<m→x<d.size→y<d.size→z<d.size→s≤9→∃p t:Nat,Sort.median ltS d x y z s=(p,t)∧
   ISp prog 279 (eT h (n0+6) 0 s) m [.one (.ref id ver 0 d.size 2 tight),.one (.t (I x)),.one (.t (I y)),.one (.t (I z)),.one (.ptr ⟨n0+6,0,1,0,0⟩),.one (.fn 161 [])] (.one (.t (I p))) (eT h (n0+6) 0 t):=by
  intro m x y z s hm hx hy hz hs;exact⟨_,_,rfl,aHK h m id ver (n0+6) 0 x y z s tight d hd (by omega) (hok _ (by omega)) hm hx hy hz (by omega) hsm⟩
 constructor
 ·intro h50;have aQU:l≥50:=by omega
  rw[if_pos aQU]at hcp;obtain⟨p1,s1,e1,b1,t1,c1⟩:=mA (n0+2+4+1+6+6+6+2+2+3) i 0 (by omega) (by omega) (by omega) (by omega);obtain⟨p2,s2,e2,b2,t2,c2⟩:=mA (n0+2+4+1+6+6+6+2+2+5+3) j s1 (by omega) (by omega) (by omega) (by omega);obtain⟨p3,s3,e3,b3,t3,c3⟩:=mA (n0+2+4+1+6+6+6+2+2+5+5+3) k s2 (by omega) (by omega) (by omega) (by omega);obtain⟨p4,s4,e4,c4⟩:=mM (n0+2+4+1+6+6+6+2+2+5+5+5+5) p1 p2 p3 s3 (by omega) b1 b2 b3 (by omega);simp only[e1,e2,e3,e4]at hcp;simp[b8y];refine aD.imp c1 ?_;simp[b8z];refine aD.imp c2 ?_;simp[b8A];refine aD.imp c3 ?_;simp[b2T];refine aD.imp c4 ?_;rw[hcp];simp only[wK];exact aAU (by omega) ho (by first | rfl | (simp;rfl)) (by first | rfl | (simp;rfl)) rfl
 ·intro h50;have aQU:¬ l≥50:=by omega
  rw[if_neg aQU]at hcp;obtain⟨p4,s4,e4,c4⟩:=mM (n0+2+4+1+6+6+6+2+2+5) i j k 0 (by omega) (by omega) (by omega) (by omega) (by omega);simp only[e4]at hcp;simp[b2T];refine aD.imp c4 ?_;rw[hcp];simp only[wK];exact aAU (by omega) ho (by first | rfl | (simp;rfl)) (by first | rfl | (simp;rfl)) rfl
theorem wrap_u64{n:Int}:IntKind.u64.wrap n=n % 18446744073709551616:=by simp[IntKind.wrap,IntKind.signed,IntKind.bits]
theorem iT{n:Int}(h:0≤n)(h2:n<18446744073709551616):IntKind.u64.wrap n=n:=by rw[wrap_u64];omega
theorem wrap_u8{n:Int}(h:0≤n)(h2:n<256):IntKind.u8.wrap n=n:=by simp[IntKind.wrap,IntKind.signed,IntKind.bits];omega
def aGH:List Nat:=[0,1,2,2,3,3,3,3,4,4,4,4,4,4,4,4]++List.replicate 16 5++List.replicate 32 6++List.replicate 64 7++List.replicate 128 8
theorem uZ(n k:Nat)(h:2 ^ k≤n):Sort.bitsLen n=k+Sort.bitsLen (n / 2 ^ k):=by
 apply Nat.le_antisymm
 ·rw[Sort.bitsLen_le_iff];have:=Sort.lt_two_pow_bitsLen (n / 2 ^ k);rw[Nat.pow_add,Nat.mul_comm];exact(Nat.div_lt_iff_lt_mul (Nat.two_pow_pos k)).1 this
 ·have h1:=Sort.lt_two_pow_bitsLen n
  have hk:k<Sort.bitsLen n:=by
   rcases Nat.lt_or_ge k (Sort.bitsLen n)with q | q
   ·exact q
   ·have:=Nat.pow_le_pow_right (show 0<2 by omega) q;omega
  have:Sort.bitsLen (n / 2 ^ k)≤Sort.bitsLen n - k:=by
   rw[Sort.bitsLen_le_iff,Nat.div_lt_iff_lt_mul (Nat.two_pow_pos k),←Nat.pow_add];have:Sort.bitsLen n - k+k=Sort.bitsLen n:=by omega
   rw[this];exact h1
  omega
theorem aJ4:∀ n,n<256→((bs aGH).data.toList.getD n 0).toNat=Sort.bitsLen n:=by
 have h:(List.range 256).all (fun n=>((bs aGH).data.toList.getD n 0).toNat==Sort.bitsLen n)=true:=by decide+kernel
 intro n hn;have:=List.all_eq_true.1 h n (List.mem_range.2 hn);simpa using this
def aOK:ByteArray:=bs aGH
theorem aOL(n:Nat)(h:n<256):(aOK.data.toList.getD n 0).toNat=Sort.bitsLen n:=aJ4 n h
theorem aOM:aOK.size=256:=by decide+kernel
theorem c253r10_eq:b3m=[(Seg.one (aW.mk (some 19) (dL.op (AOp.mv (X.tmp 2))) none)),(Seg.one (aW.mk (some 20) (dL.op (AOp.mv (X.tmp 0))) none)),(Seg.one (aW.mk (some 21) (dL.op (AOp.dO .u8 (X.tmp 20))) none)),(Seg.one (aW.mk (some 22) (dL.op (AOp.ixs (X.con (D.one (A.t (T.str aOK)))) (X.tmp 21))) none)),(Seg.one (aW.mk (some 23) (dL.op (AOp.dO .i64 (X.tmp 22))) none)),(Seg.one (aW.mk (some 24) (dL.op (AOp.bin .add false (X.tmp 19) (X.tmp 23))) none)),(Seg.one (aW.mk (some 2) (dL.op (AOp.mv (X.tmp 24))) none))]:=rfl
theorem aCH{n0 v s nx:Nat}{tm:Nat→D}(h0:tm 0= .one (.t (.int .u64 v)))(h2:tm 2= .one (.t (I s)))(hv:v<256)(hs:s≤100)(he:n0=s+Sort.bitsLen v):
  aZ prog 25 (aC [.tmp 2] (.one (.t (I n0)))) (.seq (.region 10 false 7 b3m) .ret) [] ⟨tm,jM,nx⟩:=by
 have e1:IntKind.u8.wrap (v:Int)=v:=wrap_u8 (by omega) (by omega);have hb:Sort.bitsLen v≤8:=(Sort.bitsLen_le_iff v 8).2 (by omega);have e2:IntKind.i64.wrap (Sort.bitsLen v:Int)=Sort.bitsLen v:=wrap_i64 (by omega) (by omega);have e3:IntKind.i64.wrap ((s:Int)+Sort.bitsLen v)=(n0:Int):=aH _ (by omega) (by omega);have e4:=aOL v hv;have hv':(v:Int)<256:=by omega
 simp[List.getD_eq_getElem?_getD]at e4;have g4:∀ hh,(aOK.data[v]'hh).toNat=Sort.bitsLen v:=fun hh=>by rw[Array.getElem?_eq_getElem hh]at e4;simpa using e4
 simp[c253r10_eq,h0,h2,D.dO,D.ixs,D.oH,e1,aOM,e2,e3,g4,hv,hv',aC]
theorem aGI(n:Nat)(hn:n≤100000):PSp prog 253 [.one (.t (.int .u64 n))] (.one (.t (I (Sort.bitsLen n)))):=by
 refine k253.aI (by simp) rfl rfl ?_;have b0:¬ (4294967296:Int)≤n:=by omega
 by_cases h1:65536≤n
 ·have h1':(65536:Int)≤n:=by omega
  obtain⟨q,hq⟩:∃ q:Nat,q=n / 65536:=⟨_,rfl⟩
  have e1:(n:Int).fdiv (2 ^ min 16 IntKind.u64.bits)=(q:Int):=by
   show(n:Int).fdiv 65536=q;rw[Int.fdiv_eq_ediv_of_nonneg _ (by omega)];omega
  have q1:¬ (256:Int)≤q:=by omega
  have:=uZ n 16 (by omega);have w16:IntKind.i64.wrap 16=16:=wrap_i64 (by omega) (by omega);simp[c253,a7n,a7o,a7p,b9E,b9F,a7q,b0,h1',e1,q1,w16];exact aCH (v:=q) (s:=16) rfl rfl (by omega) (by omega) (by rw[this,hq])
 ·have h1':¬ (65536:Int)≤n:=by omega
  by_cases h2:256≤n
  ·have h2':(256:Int)≤n:=by omega
   obtain⟨q,hq⟩:∃ q:Nat,q=n / 256:=⟨_,rfl⟩
   have e1:(n:Int).fdiv (2 ^ min 8 IntKind.u64.bits)=(q:Int):=by
    show(n:Int).fdiv 256=q;rw[Int.fdiv_eq_ediv_of_nonneg _ (by omega)];omega
   have:=uZ n 8 (by omega);have w8:IntKind.i64.wrap 8=8:=wrap_i64 (by omega) (by omega);simp[c253,a7n,a7o,a7p,a7q,b9G,b9H,b0,h1',h2',e1,w8];exact aCH (v:=q) (s:=8) rfl rfl (by omega) (by omega) (by rw[this,hq])
  ·have h2':¬ (256:Int)≤n:=by omega
   simp[c253,a7n,a7o,a7p,a7q,b0,h1',h2'];exact aCH (v:=n) (s:=0) rfl rfl (by omega) (by omega) (by omega)
theorem xL(n:Nat)(hn:n≤100000):PSp prog 208 [.one (.t (.int .u64 n))] (.one (.t (I (Sort.bitsLen n)))):=by
 refine k208.aI (by simp) rfl rfl ?_;simp[c208,b9C,b9D];refine aD.pure (aGI n hn) (by simp) (by simp) ?_;simp[aC]
theorem aLO(n:Nat)(hn:n≤100000):PSp prog 276 [.one (.t (I n))] (.one (.t (.int .u64 (1<<< Sort.bitsLen n:Nat)))):=by
 refine k276.aI (by simp) rfl rfl ?_;have e1:IntKind.u64.wrap (n:Int)=n:=iT (by omega) (by omega);simp[c276,b9I,b9J,D.dO,D.isInt,e1];refine aD.pure (xL n hn) (by simp) (by simp) ?_;have hb:Sort.bitsLen n≤17:=(Sort.bitsLen_le_iff n 17).2 (by omega);have hm:min (Sort.bitsLen n) IntKind.u64.bits=Sort.bitsLen n:=by show min _ 64=_;omega
 have hp:(2:Nat) ^ Sort.bitsLen n≤2 ^ 17:=Nat.pow_le_pow_right (by omega) hb
 have e2:IntKind.u64.wrap (2 ^ Sort.bitsLen n:Int)=((1<<< Sort.bitsLen n:Nat):Int):=by
  have e:(2 ^ Sort.bitsLen n:Int)=((2 ^ Sort.bitsLen n:Nat):Int):=by simp
  rw[Nat.shiftLeft_eq,Nat.one_mul,e];generalize 2 ^ Sort.bitsLen n=m at hp;exact iT (by omega) (by omega)
 simp[aC,hm,e2]
def kK(h:Hp)(id ver:Nat)(s:Nat):Hp:=h.set id (.arr ver false 1 [[.t (.int .u64 s)]])
theorem aF.kK{h:Hp}{n id ver s:Nat}(ho:aF h n)(hid:id<n):aF (kK h id ver s) n:=by
 refine⟨fun j hj=>?_,fun j o hj=>?_⟩
 ·simp only[YtdpbobkcbakpfaaGreatDoor.kK,Hp.set];rw[if_neg (by omega)];exact ho.above j hj
 ·simp only[YtdpbobkcbakpfaaGreatDoor.kK,Hp.set]at hj;split at hj
  ·simp only[sI9]at hj;subst hj;simp[O.below,A.below]
  ·exact ho.below j o hj
theorem aQV{x y z:Nat}(hx:x<18446744073709551616)(hy:y<18446744073709551616)(hz:z=x ^^^ y):IntKind.u64.wrap ((x % 2 ^ IntKind.u64.bits ^^^ y % 2 ^ IntKind.u64.bits:Nat):Int)=(z:Int):=by
 have e:∀ z:Nat,z<18446744073709551616→z % 2 ^ IntKind.u64.bits=z:=fun z hz=>Nat.mod_eq_of_lt (show z<2 ^ 64 from hz)
 rw[e x hx,e y hy,hz];have:x ^^^ y<2 ^ 64:=Nat.xor_lt_two_pow hx hy;exact iT (by omega) (by omega)
theorem aTV(h:Hp)(n0 bx ver s:Nat)(ho:aF h n0)(hbx:bx<n0)(hs:s<18446744073709551616):
  ISp prog 277 (kK h bx ver s) n0 [.one (.ptr ⟨bx,ver,1,0,0⟩)] (.one (.t (.int .u64 (Sort.xorNextN s)))) (kK h bx ver (Sort.xorNextN s)):=by
 refine k277.gQ (by simp) ?_;obtain⟨m1,d1⟩:∃ m1:Nat,m1=s*8192 % 18446744073709551616:=⟨_,rfl⟩;obtain⟨x1,e1⟩:∃ x1:Nat,x1=s ^^^ m1:=⟨_,rfl⟩;have b1:x1<18446744073709551616:=by rw[e1];exact Nat.xor_lt_two_pow (n:=64) hs (by omega)
 obtain⟨m2,d2⟩:∃ m2:Nat,m2=x1 / 128:=⟨_,rfl⟩;obtain⟨x2,e2⟩:∃ x2:Nat,x2=x1 ^^^ m2:=⟨_,rfl⟩;have b2:x2<18446744073709551616:=by rw[e2];exact Nat.xor_lt_two_pow (n:=64) b1 (by omega)
 obtain⟨m3,d3⟩:∃ m3:Nat,m3=x2*131072 % 18446744073709551616:=⟨_,rfl⟩;obtain⟨x3,e3⟩:∃ x3:Nat,x3=x2 ^^^ m3:=⟨_,rfl⟩;have hx:Sort.xorNextN s=x3:=by rw[e3,d3,e2,d2,e1,d1];rfl
 have s1:IntKind.u64.wrap ((s:Int)*2 ^ min 13 IntKind.u64.bits)=(m1:Int):=by
  show IntKind.u64.wrap ((s:Int)*8192)=_;rw[wrap_u64];omega
 have s2:(x1:Int).fdiv (2 ^ min 7 IntKind.u64.bits)=(m2:Int):=by
  show(x1:Int).fdiv 128=_;rw[Int.fdiv_eq_ediv_of_nonneg _ (by omega)];omega
 have s3:IntKind.u64.wrap ((x2:Int)*2 ^ min 17 IntKind.u64.bits)=(m3:Int):=by
  show IntKind.u64.wrap ((x2:Int)*131072)=_;rw[wrap_u64];omega
 have y1:=aQV (x:=s) (y:=m1) hs (by omega) e1;have y2:=aQV (x:=x1) (y:=m2) b1 (by omega) e2;have y3:=aQV (x:=x2) (y:=m3) b2 (by omega) e3;rw[hx];simp[c277,b9K,b9L,b9M,b9N,b9O,s1,s2,s3,y1,y2,y3,kK];refine⟨.inr rfl,⟨by simp,by simp⟩,by simp,by simp,by simp,fun j hj=>?_,(aF.kK ho hbx).above,(aF.kK ho hbx).below⟩;simp only[Hp.set];split<;>rfl
theorem put_comm{h:Hp}{id ver bx v s:Nat}{e:Array Sp}(hne:id≠bx):aS (kK h bx v s) id ver e=kK (aS h id ver e) bx v s:=funext fun j=>by
 simp only[aS,kK,Hp.set];split<;>split<;>simp_all
def stp(l m i0 a:Nat)(d:Array Sp):Nat→UInt64×Array Sp
 | 0=>(UInt64.ofNat l,d)
 | t+1=>Sort.breakStep a l m (stp l m i0 a d t) (i0+t)
theorem aXG{x y z:Nat}(hx:x<18446744073709551616)(hy:y<18446744073709551616)(hz:z=x&&&y):IntKind.u64.wrap ((((x:Int) % 2 ^ IntKind.u64.bits).toNat&&&((y:Int) % 2 ^ IntKind.u64.bits).toNat:Nat):Int)=(z:Int):=by
 have e:∀ z:Nat,z<18446744073709551616→((z:Int) % 2 ^ IntKind.u64.bits).toNat=z:=fun z hz=>by
  show((z:Int) % 2 ^ 64).toNat=z;omega
 rw[e x hx,e y hy,hz];have:x&&&y≤y:=Nat.and_le_right;exact iT (by omega) (by omega)
theorem xM(h:Hp)(n0 id ver a b:Nat)(tight:Bool)(d:Array Sp)(hd:Data h id ver d)(ho:aF h n0)(hid:id<n0)(hab:a+8≤b)(hb:b≤d.size)(hsz:d.size≤100000)(c:D)(_hc:c.closed=true):
  ISp prog 246 h n0 [.one (.ref id ver 0 d.size 2 tight),.one (.t (I a)),.one (.t (I b)),c] (.tup []) (aS h id ver (Sort.breakPatterns d a b)):=by
 refine k246.gQ (by simp) ?_;obtain⟨l,hl⟩:∃ l:Nat,l=b - a:=⟨_,rfl⟩;obtain⟨q,hq⟩:∃ q:Nat,q=l / 4:=⟨_,rfl⟩;obtain⟨i0,hi0⟩:∃ i:Nat,i=a+q*2 - 1:=⟨_,rfl⟩;obtain⟨mo,hmo⟩:∃ m:Nat,m=1<<< Sort.bitsLen l:=⟨_,rfl⟩
 have hm2:0<mo∧mo≤2*l:=by
  have:=Sort.two_pow_bitsLen_le (n:=l) (by omega);have h2:=Nat.two_pow_pos (Sort.bitsLen l);rw[hmo,Nat.shiftLeft_eq,Nat.one_mul];omega
 have w1:IntKind.i64.wrap ((b:Int) - a)=(l:Int):=aH _ (by omega) (by omega);have w2:IntKind.i64.wrap ((l:Int) / 4)=(q:Int):=aH _ (by omega) (by omega);have w4:IntKind.i64.wrap ((q:Int)*2)=(q:Int)*2:=wrap_i64 (by omega) (by omega);have w5:IntKind.i64.wrap ((a:Int)+q*2)=(a:Int)+q*2:=wrap_i64 (by omega) (by omega);have w6:IntKind.i64.wrap ((a:Int)+q*2 - 1)=(i0:Int):=aH _ (by omega) (by omega);have w7:IntKind.i64.wrap ((a:Int)+q*2+1)=((i0+2:Nat):Int):=aH _ (by omega) (by omega);have w8:IntKind.u64.wrap (l:Int)=(l:Int):=iT (by omega) (by omega);have hl8:8≤(l:Int):=by omega
 have hbp:Sort.breakPatterns d a b=(stp l mo i0 a d 3).2:=by
  rw[Sort.breakPatterns,if_pos (show b - a≥8 by omega),←hl,←hq,←hi0,←hmo];rfl
 have aXH:IntKind.u64.wrap ((mo:Int) - 1)=((mo - 1:Nat):Int):=by rw[iT (by omega) (by omega)];omega
 simp[c246,b8i,b8j,b8k,b8l,w1,hl8,D.dO,D.isInt,w8];refine aD.pure (aLO l (by omega)) (by simp) (by simp) ?_;rw[←hmo];simp[b8m,w2,w4,w5,w6];obtain⟨bx,hbx⟩:∃ bx:Nat,bx=n0+4+2+2:=⟨_,rfl⟩;have hne:id≠bx:=by omega
 have hsz':∀ t,t≤3→Keeps d (stp l mo i0 a d t).2:=by
  intro t
  induction t with
  | zero=>exact fun _=> .refl _
  | succ t ih=>
   intro ht;have k:=ih (by omega);refine k.trans ?_;show Keeps _ (Sort.swp _ _ _);refine Keeps.swp (by rw[k.1];omega) ?_;rw[k.1];have hand:(Sort.xorNext (stp l mo i0 a d t).1).toNat&&&(mo - 1)≤mo - 1:=Nat.and_le_right;split<;>omega
 refine W.cU (fun k st=>∃ t:Nat,k=3 - t∧t≤3∧st.heap=aS (kK h bx 0 (stp l mo i0 a d t).1.toNat) id ver (stp l mo i0 a d t).2∧n0+20≤st.nx∧
  st.tmps 0= .one (.ref id ver 0 d.size 2 tight)∧st.tmps 1= .one (.t (I a))∧st.tmps 8= .one (.t (I l))∧st.tmps 9= .one (.ptr ⟨bx,0,1,0,0⟩)∧st.tmps 10= .one (.t (.int .u64 mo))∧st.tmps 11= .one (.t (I ((i0+t:Nat):Int)))) 3
  ⟨0,rfl,by omega,?_,by simp<;>omega,by simp,by simp,by simp,by simp[hbx],by simp,by simp⟩ ?_
 ·have e0:(stp l mo i0 a d 0).1.toNat=l:=by show(UInt64.ofNat l).toNat=l;rw[UInt64.toNat_ofNat'];omega
  rw[put_comm hne,e0];show _=kK (aS h id ver d) bx 0 l;rw[hd.self,←hbx];funext j;simp only[kK,Hp.set];split<;>rfl
 rintro k st ⟨t,hk,ht,hh,hnx,h0,h1,h8,h9,h10,h11⟩
 by_cases h3:t=3
 ·subst h3;have hlt:¬ ((i0+3:Nat):Int)≤((i0+2:Nat):Int):=by omega
  simp only[Int.natCast_add]at hlt w7 h11;simp at hlt w7 h11;simp[b2S,b2P,h1,h8,h11,w2,w4,w5,w7]
  have e:∀ j,j<n0→st.heap j=aS h id ver (Sort.breakPatterns d a b) j:=fun j hj=>by
   rw[hh,hbp,put_comm hne];simp only[kK,Hp.set];rw[if_neg (by omega)]
  exact⟨.inl rfl,⟨by simp,by simp⟩,by simp[lT,D.cE],by simp[lT,D.frz],by simp[lT,D.ids],e,(aF.put ho hid).above,(aF.put ho hid).below⟩
 ·have ke:=hsz' t (by omega);have hstep:stp l mo i0 a d (t+1)=Sort.breakStep a l mo (stp l mo i0 a d t) (i0+t):=rfl;generalize stp l mo i0 a d t=re at*;obtain⟨r,e⟩:=re;simp only at hh ke;obtain⟨R,hR⟩:∃ R:Nat,R=Sort.xorNextN r.toNat:=⟨_,rfl⟩;have aTW:r.toNat<18446744073709551616:=r.toNat_lt;have hRb:R<18446744073709551616:=by rw[hR];exact Sort.xorNextN_lt _ aTW
  obtain⟨o1,ho1⟩:∃ o1:Nat,o1=R&&&(mo - 1):=⟨_,rfl⟩;have ho1b:o1≤mo - 1:=by rw[ho1];exact Nat.and_le_right
  obtain⟨o2,ho2⟩:∃ o2:Nat,o2=if o1≥l then o1 - l else o1:=⟨_,rfl⟩
  have ho2b:o2<l:=by rw[ho2];split<;>omega
  obtain⟨ix,hix⟩:∃ ix:Nat,ix=i0+t:=⟨_,rfl⟩;obtain⟨p,hp⟩:∃ p:Nat,p=a+o2:=⟨_,rfl⟩
  have aQW:stp l mo i0 a d (t+1)=(Sort.xorNext r,Sort.swp e ix p):=by
   rw[hstep,Sort.breakStep,hp,ho2,ho1,hR,←hix];simp only[Sort.xorNext_toNat]
  rw[←hix]at h11;have hle:(ix:Int)≤((i0+2:Nat):Int):=by omega
  have hle':(ix:Int)≤(i0:Int)+2:=by omega
  obtain⟨m1,hm1⟩:∃ m1:Nat,m1=mo - 1:=⟨_,rfl⟩;have a1:=aXG (x:=R) (y:=m1) (z:=o1) hRb (by omega) (by rw[hm1];exact ho1);have wo:IntKind.i64.wrap (o1:Int)=(o1:Int):=wrap_i64 (by omega) (by omega);have hmm:IntKind.u64.wrap ((mo:Int) - 1)=(m1:Int):=by rw[hm1];exact aXH
  have q1:ix<e.size:=by rw[ke.1];omega
  have q2:p<e.size:=by rw[ke.1];omega
  have q1':ix<d.size:=by omega
  have q2':p<d.size:=by omega
  have wi:IntKind.i64.wrap ((ix:Int)+1)=((ix+1:Nat):Int):=aH _ (by omega) (by omega);have wp:IntKind.i64.wrap ((a:Int)+o2)=(p:Int):=aH _ (by omega) (by omega);simp[b2S,b2P,h1,h8,h11,w2,w4,w5,w7,hle'];simp[b8n,h9];have hx:=aTV (aS h id ver e) (st.nx+8) bx 0 r.toNat (aF.more (aF.put ho hid) (by omega)) (by omega) aTW;rw[hh,put_comm hne];refine aD.imp hx ?_;rw[←hR,←put_comm hne];have hg:aS (kK h bx 0 R) id ver e=aS (kK h bx 0 R) id ver e:=rfl;have hdat:Data (aS (kK h bx 0 R) id ver e) id ver e:=bH;have hln:((aS (kK h bx 0 R) id ver e).rows id).length=e.size:=by rw[hdat.rows];simp
  have g1:=rowAt hdat q1;have g2:=rowAt hdat q2;have c1:((aS (kK h bx 0 R) id ver e).rows id)[ix]? =some (cell e[ix]):=by rw[cellAt hdat q1,getElem!_pos e ix q1]
  have c2:((aS (kK h bx 0 R) id ver e).rows id)[p]? =some (cell e[p]):=by rw[cellAt hdat q2,getElem!_pos e p q2]
  have sh:=eL hg q1 q2;simp[hln,q2]at sh;have hRn:(Sort.xorNext r).toNat=R:=by rw[Sort.xorNext_toNat,hR]
  generalize aS (kK h bx 0 R) id ver e=g at*;simp[h8,h10,hmm,a1,wo,b8o,D.dO]
  have last:∀ (J:St→Prop) (tm:Nat→D) (nx:Nat),st.nx≤nx→tm 0=st.tmps 0→tm 1=st.tmps 1→tm 8=st.tmps 8→tm 9=st.tmps 9→tm 10=st.tmps 10→tm 11=st.tmps 11→tm 12= .one (.t (I o2))→
    (∀st':St,st'.heap=aS (kK h bx 0 (stp l mo i0 a d (t+1)).1.toNat) id ver (stp l mo i0 a d (t+1)).2→n0+20≤st'.nx→st'.tmps 0= .one (.ref id ver 0 d.size 2 tight)→st'.tmps 1= .one (.t (I a))→st'.tmps 8= .one (.t (I l))→
     st'.tmps 9= .one (.ptr ⟨bx,0,1,0,0⟩)→st'.tmps 10= .one (.t (.int .u64 mo))→st'.tmps 11= .one (.t (I ((ix+1:Nat):Int)))→J st')→
    iH prog true nx b2Q (nR (kont prog 67 (gF [] (D.tup []) (aS h id ver (Sort.breakPatterns d a b)) n0) [KF.blk 1,KF.thn (aB.region 6 false 3 b2R),KF.post J,KF.blk 0]) (nx+20)) 0 tm g:=by
   intro J tm nx aTX z0 z1 z8 z9 z10 z11 z12 hJ;rw[h0]at z0;rw[h1]at z1;rw[h8]at z8;rw[h9]at z9;rw[h10]at z10;rw[h11]at z11;simp[b2Q,b2R,z0,z1,z11,z12,wi,wp,hdat.alive,hdat.sz,hdat.open_,hln,g1,g2,q1,q2,q1',q2',bI,eQ];refine⟨bJ _,bJ _,hJ _ ?_ (by simp;omega) (by simp[z0]) (by simp[z1]) (by simp[z8]) (by simp[z9]) (by simp[z10]) (by simp)⟩;rw[sh,aQW,←hRn]
  have xN:∀ st':St,st'.heap=aS (kK h bx 0 (stp l mo i0 a d (t+1)).1.toNat) id ver (stp l mo i0 a d (t+1)).2→n0+20≤st'.nx→st'.tmps 0= .one (.ref id ver 0 d.size 2 tight)→st'.tmps 1= .one (.t (I a))→st'.tmps 8= .one (.t (I l))→
     st'.tmps 9= .one (.ptr ⟨bx,0,1,0,0⟩)→st'.tmps 10= .one (.t (.int .u64 mo))→st'.tmps 11= .one (.t (I ((ix+1:Nat):Int)))→∃k',k'<k∧∃t,k'=3 - t∧t≤3∧st'.heap=aS (kK h bx 0 (stp l mo i0 a d t).1.toNat) id ver (stp l mo i0 a d t).2∧n0+20≤st'.nx∧
     st'.tmps 0= .one (.ref id ver 0 d.size 2 tight)∧st'.tmps 1= .one (.t (I a))∧st'.tmps 8= .one (.t (I l))∧st'.tmps 9= .one (.ptr ⟨bx,0,1,0,0⟩)∧st'.tmps 10= .one (.t (.int .u64 mo))∧st'.tmps 11= .one (.t (I ((i0+t:Nat):Int))):=by
   intro st' y y1 y2 y3 y4 y5 y6 y7;exact⟨3 - (t+1),by omega,t+1,rfl,by omega,y,y1,y2,y3,y4,y5,y6,by rw[y7,hix];rfl⟩
  by_cases hc:l≤o1
  ·have hcI:(l:Int)≤o1:=by omega
   have ws:IntKind.i64.wrap ((o1:Int) - l)=(o2:Int):=aH _ (by rw[ho2,if_pos hc];omega) (by omega);simp[hc,Nat.not_lt.2 hc,b8p,h8,ws];exact last _ _ _ (by omega) (by simp) (by simp) (by simp) (by simp) (by simp) (by simp) (by simp) (fun st' y y1 y2 y3 y4 y5 y6 y7=>by simpa using xN st' y y1 y2 y3 y4 y5 y6 y7)
  ·have hcI:¬ (l:Int)≤o1:=by omega
   have e2:o2=o1:=by rw[ho2,if_neg hc]
   simp[hc,Nat.not_le.1 hc];exact last _ _ _ (by omega) (by simp) (by simp) (by simp) (by simp) (by simp) (by simp) (by simp[e2]) (fun st' y y1 y2 y3 y4 y5 y6 y7=>by simpa using xN st' y y1 y2 y3 y4 y5 y6 y7)
theorem aQX{n:Nat}{A:Exit→St→Prop}{ks:List KF}(id ver a i j:Nat)(tight:Bool)(h:Hp)(e:Array Sp)(hsz:e.size≤100000)(hse:∀ x∈e,small x)(st:St)(hh:st.heap=aS h id ver e)
  (h0:st.tmps 0= .one (.ref id ver 0 e.size 2 tight)) (h1:st.tmps 1= .one (.t (I a))) (h4:st.tmps 4= .one (.fn 161 [])) (hti:st.tmps 12= .one (.t (I i))) (htj:st.tmps 13= .one (.t (I j))) (ha:a<e.size) (_hai:a<i) (hj:j<e.size) (p:Sp→Bool) (hp:p=(fun x=>ltS x e[a]!))
  (K:∀ st':St,st'.heap=st.heap→st.nx≤st'.nx→st'.tmps 0=st.tmps 0→st'.tmps 1=st.tmps 1→st'.tmps 2=st.tmps 2→st'.tmps 3=st.tmps 3→st'.tmps 4=st.tmps 4→st'.tmps 13=st.tmps 13→st'.tmps 12= .one (.t (I (Sort.scanUp p e j i:Nat)))→cX prog n A ks .normal st'):
  W prog n (.loop a7j) (kont prog n A (.blk 0::ks)) st:=by
 refine W.cU (fun k st1=>∃ x:Nat,k=j+1 - x∧Sort.scanUp p e j x=Sort.scanUp p e j i∧st1.heap=st.heap∧st.nx≤st1.nx∧st1.tmps 0=st.tmps 0∧st1.tmps 1=st.tmps 1∧st1.tmps 2=st.tmps 2∧st1.tmps 3=st.tmps 3∧st1.tmps 4=st.tmps 4∧st1.tmps 13=st.tmps 13∧st1.tmps 12= .one (.t (I x))) (j+1 - i) ⟨i,rfl,rfl,rfl,Nat.le_refl _,rfl,rfl,rfl,rfl,rfl,rfl,hti⟩ ?_;rintro k st1 ⟨x,hk,hs,hh1,hn1,e0,e1,e2,e3,e4,e13,em⟩;have hdat:Data st1.heap id ver e:=by rw[hh1,hh];exact bH
 rw[h0]at e0;rw[h1]at e1;rw[h4]at e4;rw[htj]at e13
 by_cases hle:x≤j
 ·have hx:x<e.size:=by omega
  have lR:(x:Int)≤j:=by omega
  have hln:(st1.heap.rows id).length=e.size:=by rw[hdat.rows];simp
  have g1:=rowAt hdat hx;have g2:=rowAt hdat ha;have sx:small e[x]:=hse _ (Array.getElem_mem _);have sa:small e[a]:=hse _ (Array.getElem_mem _);have hw:IntKind.i64.wrap ((x:Int)+1)=((x+1:Nat):Int):=aH _ (by omega) (by omega)
  have hstep:Sort.scanUp p e j x=if ltS e[x] e[a]=true then Sort.scanUp p e j (x+1)else x:=by
   rw[Sort.scanUp,hp];simp[hle,getElem!_pos e x hx,getElem!_pos e a ha]
  simp[a7j,b3b,e0,e1,e4,e13,em,lR,hdat.alive,hdat.sz,hln,g1,g2,hx,ha,bI];refine⟨161,[],⟨rfl,rfl⟩,cW,?_⟩;refine aD.draw (sP e[x] e[a] sx sa) (by simp[cell]) (by simp[cell]) (by simp) ?_
  by_cases hlt:ltS e[x] e[a]=true
  ·have hlt':e[x].1 - e[a].1<0:=by simp[ltS]at hlt;omega
   have hnx:Sort.scanUp p e j (x+1)=Sort.scanUp p e j i:=by rw[←hs,hstep];simp[hlt]
   simp[hlt',b87,em,hw];exact⟨_,by omega,x+1,rfl,by rw[←hs,hstep];simp[hlt],hh1,by omega,by simp[e0,h0],by simp[e1,h1],by simp[e2],by simp[e3],by simp[e4,h4],by simp[e13,htj],rfl⟩
  ·have hlt':¬ e[x].1 - e[a].1<0:=by simp[ltS]at hlt;omega
   simp[hlt'];exact K _ (by simp[hh1]) (by simp;omega) (by simp[e0,h0]) (by simp[e1,h1]) (by simp[e2]) (by simp[e3]) (by simp[e4,h4]) (by simp[e13,htj]) (by rw[←hs,hstep];simp[em,hlt])
 ·have lR:¬ (x:Int)≤j:=by omega
  have hstop:Sort.scanUp p e j x=x:=by
   rw[Sort.scanUp,if_neg];simp[hle]
  simp[a7j,b3b,e0,e1,e4,e13,em,lR];exact K _ (by simp[hh1]) (by simp;omega) (by simp[e0,h0]) (by simp[e1,h1]) (by simp[e2]) (by simp[e3]) (by simp[e4,h4]) (by simp[e13,htj]) (by rw[←hs,hstop];simp[em])
theorem aLP{n:Nat}{A:Exit→St→Prop}{ks:List KF}(id ver a i j:Nat)(tight:Bool)(h:Hp)(e:Array Sp)(hsz:e.size≤100000)(hse:∀ x∈e,small x)(st:St)(hh:st.heap=aS h id ver e)
  (h0:st.tmps 0= .one (.ref id ver 0 e.size 2 tight)) (h1:st.tmps 1= .one (.t (I a))) (h4:st.tmps 4= .one (.fn 161 [])) (hti:st.tmps 12= .one (.t (I i))) (htj:st.tmps 13= .one (.t (I j))) (ha:a<e.size) (hai:a<i) (hj:j<e.size) (p:Sp→Bool) (hp:p=(fun x=> !ltS x e[a]!))
  (K:∀ st':St,st'.heap=st.heap→st.nx≤st'.nx→st'.tmps 0=st.tmps 0→st'.tmps 1=st.tmps 1→st'.tmps 2=st.tmps 2→st'.tmps 3=st.tmps 3→st'.tmps 4=st.tmps 4→st'.tmps 12=st.tmps 12→st'.tmps 13= .one (.t (I (Sort.scanDown p e i j:Nat)))→cX prog n A ks .normal st'):
  W prog n (.loop a7k) (kont prog n A (.blk 2::ks)) st:=by
 refine W.cU (fun k st1=>∃ x:Nat,k=x+1∧x≤j∧Sort.scanDown p e i x=Sort.scanDown p e i j∧st1.heap=st.heap∧st.nx≤st1.nx∧st1.tmps 0=st.tmps 0∧st1.tmps 1=st.tmps 1∧st1.tmps 2=st.tmps 2∧st1.tmps 3=st.tmps 3∧st1.tmps 4=st.tmps 4∧st1.tmps 12=st.tmps 12∧st1.tmps 13= .one (.t (I x))) (j+1) ⟨j,rfl,Nat.le_refl _,rfl,rfl,Nat.le_refl _,rfl,rfl,rfl,rfl,rfl,rfl,htj⟩ ?_;rintro k st1 ⟨x,hk,hxj,hs,hh1,hn1,e0,e1,e2,e3,e4,e12,em⟩;have hdat:Data st1.heap id ver e:=by rw[hh1,hh];exact bH
 rw[h0]at e0;rw[h1]at e1;rw[h4]at e4;rw[hti]at e12
 by_cases hle:i≤x
 ·have hx:x<e.size:=by omega
  have lR:(i:Int)≤x:=by omega
  have hln:(st1.heap.rows id).length=e.size:=by rw[hdat.rows];simp
  have g1:=rowAt hdat hx;have g2:=rowAt hdat ha;have sx:small e[x]:=hse _ (Array.getElem_mem _);have sa:small e[a]:=hse _ (Array.getElem_mem _);have hw:IntKind.i64.wrap ((x:Int) - 1)=((x - 1:Nat):Int):=aH _ (by omega) (by omega)
  have hstep:Sort.scanDown p e i x=if ¬ltS e[x] e[a]=true then Sort.scanDown p e i (x - 1)else x:=by
   obtain⟨y,rfl⟩:∃ y,x=y+1:=⟨x - 1,by omega⟩;rw[Sort.scanDown,hp];simp[hle,getElem!_pos e (y+1) hx,getElem!_pos e a ha]
  simp[a7k,b3c,e0,e1,e4,e12,em,lR,hdat.alive,hdat.sz,hln,g1,g2,hx,ha,bI];refine⟨161,[],⟨rfl,rfl⟩,cW,?_⟩;refine aD.draw (sP e[x] e[a] sx sa) (by simp[cell]) (by simp[cell]) (by simp) ?_
  by_cases hlt:ltS e[x] e[a]=true
  ·have hlt':e[x].1 - e[a].1<0:=by simp[ltS]at hlt;omega
   simp[hlt'];exact K _ (by simp[hh1]) (by simp;omega) (by simp[e0,h0]) (by simp[e1,h1]) (by simp[e2]) (by simp[e3]) (by simp[e4,h4]) (by simp[e12,hti]) (by rw[←hs,hstep];simp[em,hlt])
  ·have hlt':¬ e[x].1 - e[a].1<0:=by simp[ltS]at hlt;omega
   have hnx:Sort.scanDown p e i (x - 1)=Sort.scanDown p e i j:=by rw[←hs,hstep];simp[hlt]
   simp[hlt',b88,em,hw];exact⟨_,by omega,x - 1,rfl,by omega,by rw[←hs,hstep];simp[hlt],hh1,by omega,by simp[e0,h0],by simp[e1,h1],by simp[e2],by simp[e3],by simp[e4,h4],by simp[e12,hti],rfl⟩
 ·have lR:¬ (i:Int)≤x:=by omega
  have hstop:Sort.scanDown p e i x=x:=by
   cases x with
   | zero=>rfl
   | succ y=>rw[Sort.scanDown,if_neg];simp[hle]
  simp[a7k,b3c,e0,e1,e4,e12,em,lR];exact K _ (by simp[hh1]) (by simp;omega) (by simp[e0,h0]) (by simp[e1,h1]) (by simp[e2]) (by simp[e3]) (by simp[e4,h4]) (by simp[e12,hti]) (by rw[←hs,hstop];simp[em])
theorem aQY{n:Nat}{A:Exit→St→Prop}{ks:List KF}(id ver a i j:Nat)(tight:Bool)(h:Hp)(e:Array Sp)(hsz:e.size≤100000)(hse:∀ x∈e,small x)(st:St)(hh:st.heap=aS h id ver e)
  (h0:st.tmps 0= .one (.ref id ver 0 e.size 2 tight)) (h1:st.tmps 1= .one (.t (I a))) (h4:st.tmps 4= .one (.fn 161 [])) (hti:st.tmps 12= .one (.t (I i))) (htj:st.tmps 13= .one (.t (I j))) (ha:a<e.size) (_hai:a<i) (hj:j<e.size) (p:Sp→Bool) (hp:p=(fun x=>ltS x e[a]!))
  (K:∀ st':St,st'.heap=st.heap→st.nx≤st'.nx→st'.tmps 0=st.tmps 0→st'.tmps 1=st.tmps 1→st'.tmps 2=st.tmps 2→st'.tmps 3=st.tmps 3→st'.tmps 4=st.tmps 4→st'.tmps 13=st.tmps 13→st'.tmps 12= .one (.t (I (Sort.scanUp p e j i:Nat)))→cX prog n A ks .normal st'):
  W prog n (.loop a7l) (kont prog n A (.blk 6::ks)) st:=by
 refine W.cU (fun k st1=>∃ x:Nat,k=j+1 - x∧Sort.scanUp p e j x=Sort.scanUp p e j i∧st1.heap=st.heap∧st.nx≤st1.nx∧st1.tmps 0=st.tmps 0∧st1.tmps 1=st.tmps 1∧st1.tmps 2=st.tmps 2∧st1.tmps 3=st.tmps 3∧st1.tmps 4=st.tmps 4∧st1.tmps 13=st.tmps 13∧st1.tmps 12= .one (.t (I x))) (j+1 - i) ⟨i,rfl,rfl,rfl,Nat.le_refl _,rfl,rfl,rfl,rfl,rfl,rfl,hti⟩ ?_;rintro k st1 ⟨x,hk,hs,hh1,hn1,e0,e1,e2,e3,e4,e13,em⟩;have hdat:Data st1.heap id ver e:=by rw[hh1,hh];exact bH
 rw[h0]at e0;rw[h1]at e1;rw[h4]at e4;rw[htj]at e13
 by_cases hle:x≤j
 ·have hx:x<e.size:=by omega
  have lR:(x:Int)≤j:=by omega
  have hln:(st1.heap.rows id).length=e.size:=by rw[hdat.rows];simp
  have g1:=rowAt hdat hx;have g2:=rowAt hdat ha;have sx:small e[x]:=hse _ (Array.getElem_mem _);have sa:small e[a]:=hse _ (Array.getElem_mem _);have hw:IntKind.i64.wrap ((x:Int)+1)=((x+1:Nat):Int):=aH _ (by omega) (by omega)
  have hstep:Sort.scanUp p e j x=if ltS e[x] e[a]=true then Sort.scanUp p e j (x+1)else x:=by
   rw[Sort.scanUp,hp];simp[hle,getElem!_pos e x hx,getElem!_pos e a ha]
  simp[a7l,b3e,e0,e1,e4,e13,em,lR,hdat.alive,hdat.sz,hln,g1,g2,hx,ha,bI];refine⟨161,[],⟨rfl,rfl⟩,cW,?_⟩;refine aD.draw (sP e[x] e[a] sx sa) (by simp[cell]) (by simp[cell]) (by simp) ?_
  by_cases hlt:ltS e[x] e[a]=true
  ·have hlt':e[x].1 - e[a].1<0:=by simp[ltS]at hlt;omega
   have hnx:Sort.scanUp p e j (x+1)=Sort.scanUp p e j i:=by rw[←hs,hstep];simp[hlt]
   simp[hlt',b9e,em,hw];exact⟨_,by omega,x+1,rfl,by rw[←hs,hstep];simp[hlt],hh1,by omega,by simp[e0,h0],by simp[e1,h1],by simp[e2],by simp[e3],by simp[e4,h4],by simp[e13,htj],rfl⟩
  ·have hlt':¬ e[x].1 - e[a].1<0:=by simp[ltS]at hlt;omega
   simp[hlt'];exact K _ (by simp[hh1]) (by simp;omega) (by simp[e0,h0]) (by simp[e1,h1]) (by simp[e2]) (by simp[e3]) (by simp[e4,h4]) (by simp[e13,htj]) (by rw[←hs,hstep];simp[em,hlt])
 ·have lR:¬ (x:Int)≤j:=by omega
  have hstop:Sort.scanUp p e j x=x:=by
   rw[Sort.scanUp,if_neg];simp[hle]
  simp[a7l,b3e,e0,e1,e4,e13,em,lR];exact K _ (by simp[hh1]) (by simp;omega) (by simp[e0,h0]) (by simp[e1,h1]) (by simp[e2]) (by simp[e3]) (by simp[e4,h4]) (by simp[e13,htj]) (by rw[←hs,hstop];simp[em])
theorem aLQ{n:Nat}{A:Exit→St→Prop}{ks:List KF}(id ver a i j:Nat)(tight:Bool)(h:Hp)(e:Array Sp)(hsz:e.size≤100000)(hse:∀ x∈e,small x)(st:St)(hh:st.heap=aS h id ver e)
  (h0:st.tmps 0= .one (.ref id ver 0 e.size 2 tight)) (h1:st.tmps 1= .one (.t (I a))) (h4:st.tmps 4= .one (.fn 161 [])) (hti:st.tmps 12= .one (.t (I i))) (htj:st.tmps 13= .one (.t (I j))) (ha:a<e.size) (hai:a<i) (hj:j<e.size) (p:Sp→Bool) (hp:p=(fun x=> !ltS x e[a]!))
  (K:∀ st':St,st'.heap=st.heap→st.nx≤st'.nx→st'.tmps 0=st.tmps 0→st'.tmps 1=st.tmps 1→st'.tmps 2=st.tmps 2→st'.tmps 3=st.tmps 3→st'.tmps 4=st.tmps 4→st'.tmps 12=st.tmps 12→st'.tmps 13= .one (.t (I (Sort.scanDown p e i j:Nat)))→cX prog n A ks .normal st'):
  W prog n (.loop a7m) (kont prog n A (.blk 8::ks)) st:=by
 refine W.cU (fun k st1=>∃ x:Nat,k=x+1∧x≤j∧Sort.scanDown p e i x=Sort.scanDown p e i j∧st1.heap=st.heap∧st.nx≤st1.nx∧st1.tmps 0=st.tmps 0∧st1.tmps 1=st.tmps 1∧st1.tmps 2=st.tmps 2∧st1.tmps 3=st.tmps 3∧st1.tmps 4=st.tmps 4∧st1.tmps 12=st.tmps 12∧st1.tmps 13= .one (.t (I x))) (j+1) ⟨j,rfl,Nat.le_refl _,rfl,rfl,Nat.le_refl _,rfl,rfl,rfl,rfl,rfl,rfl,htj⟩ ?_;rintro k st1 ⟨x,hk,hxj,hs,hh1,hn1,e0,e1,e2,e3,e4,e12,em⟩;have hdat:Data st1.heap id ver e:=by rw[hh1,hh];exact bH
 rw[h0]at e0;rw[h1]at e1;rw[h4]at e4;rw[hti]at e12
 by_cases hle:i≤x
 ·have hx:x<e.size:=by omega
  have lR:(i:Int)≤x:=by omega
  have hln:(st1.heap.rows id).length=e.size:=by rw[hdat.rows];simp
  have g1:=rowAt hdat hx;have g2:=rowAt hdat ha;have sx:small e[x]:=hse _ (Array.getElem_mem _);have sa:small e[a]:=hse _ (Array.getElem_mem _);have hw:IntKind.i64.wrap ((x:Int) - 1)=((x - 1:Nat):Int):=aH _ (by omega) (by omega)
  have hstep:Sort.scanDown p e i x=if ¬ltS e[x] e[a]=true then Sort.scanDown p e i (x - 1)else x:=by
   obtain⟨y,rfl⟩:∃ y,x=y+1:=⟨x - 1,by omega⟩;rw[Sort.scanDown,hp];simp[hle,getElem!_pos e (y+1) hx,getElem!_pos e a ha]
  simp[a7m,b3f,e0,e1,e4,e12,em,lR,hdat.alive,hdat.sz,hln,g1,g2,hx,ha,bI];refine⟨161,[],⟨rfl,rfl⟩,cW,?_⟩;refine aD.draw (sP e[x] e[a] sx sa) (by simp[cell]) (by simp[cell]) (by simp) ?_
  by_cases hlt:ltS e[x] e[a]=true
  ·have hlt':e[x].1 - e[a].1<0:=by simp[ltS]at hlt;omega
   simp[hlt'];exact K _ (by simp[hh1]) (by simp;omega) (by simp[e0,h0]) (by simp[e1,h1]) (by simp[e2]) (by simp[e3]) (by simp[e4,h4]) (by simp[e12,hti]) (by rw[←hs,hstep];simp[em,hlt])
  ·have hlt':¬ e[x].1 - e[a].1<0:=by simp[ltS]at hlt;omega
   have hnx:Sort.scanDown p e i (x - 1)=Sort.scanDown p e i j:=by rw[←hs,hstep];simp[hlt]
   simp[hlt',b9f,em,hw];exact⟨_,by omega,x - 1,rfl,by omega,by rw[←hs,hstep];simp[hlt],hh1,by omega,by simp[e0,h0],by simp[e1,h1],by simp[e2],by simp[e3],by simp[e4,h4],by simp[e12,hti],rfl⟩
 ·have lR:¬ (i:Int)≤x:=by omega
  have hstop:Sort.scanDown p e i x=x:=by
   cases x with
   | zero=>rfl
   | succ y=>rw[Sort.scanDown,if_neg];simp[hle]
  simp[a7m,b3f,e0,e1,e4,e12,em,lR];exact K _ (by simp[hh1]) (by simp;omega) (by simp[e0,h0]) (by simp[e1,h1]) (by simp[e2]) (by simp[e3]) (by simp[e4,h4]) (by simp[e12,hti]) (by rw[←hs,hstop];simp[em])
theorem aTY{n:Nat}{A:Exit→St→Prop}{ks:List KF}(id ver a i j:Nat)(tight:Bool)(h:Hp)(e:Array Sp)(hsz:e.size≤100000)(hse:∀ x∈e,small x)(st:St)(hh:st.heap=aS h id ver e)
  (h0:st.tmps 0= .one (.ref id ver 0 e.size 2 tight)) (h1:st.tmps 1= .one (.t (I a))) (h4:st.tmps 4= .one (.fn 161 [])) (hti:st.tmps 11= .one (.t (I i))) (htj:st.tmps 12= .one (.t (I j))) (ha:a<e.size) (_hai:a<i) (hj:j<e.size) (p:Sp→Bool) (hp:p=(fun x=> !ltS e[a]! x))
  (K:∀ st':St,st'.heap=st.heap→st.nx≤st'.nx→st'.tmps 0=st.tmps 0→st'.tmps 1=st.tmps 1→st'.tmps 2=st.tmps 2→st'.tmps 3=st.tmps 3→st'.tmps 4=st.tmps 4→st'.tmps 12=st.tmps 12→st'.tmps 11= .one (.t (I (Sort.scanUp p e j i:Nat)))→cX prog n A ks .normal st'):
  W prog n (.loop a7h) (kont prog n A (.blk 2::ks)) st:=by
 refine W.cU (fun k st1=>∃ x:Nat,k=j+1 - x∧Sort.scanUp p e j x=Sort.scanUp p e j i∧st1.heap=st.heap∧st.nx≤st1.nx∧st1.tmps 0=st.tmps 0∧st1.tmps 1=st.tmps 1∧st1.tmps 2=st.tmps 2∧st1.tmps 3=st.tmps 3∧st1.tmps 4=st.tmps 4∧st1.tmps 12=st.tmps 12∧st1.tmps 11= .one (.t (I x))) (j+1 - i) ⟨i,rfl,rfl,rfl,Nat.le_refl _,rfl,rfl,rfl,rfl,rfl,rfl,hti⟩ ?_;rintro k st1 ⟨x,hk,hs,hh1,hn1,e0,e1,e2,e3,e4,e12,em⟩;have hdat:Data st1.heap id ver e:=by rw[hh1,hh];exact bH
 rw[h0]at e0;rw[h1]at e1;rw[h4]at e4;rw[htj]at e12
 by_cases hle:x≤j
 ·have hx:x<e.size:=by omega
  have lR:(x:Int)≤j:=by omega
  have hln:(st1.heap.rows id).length=e.size:=by rw[hdat.rows];simp
  have g1:=rowAt hdat hx;have g2:=rowAt hdat ha;have sx:small e[x]:=hse _ (Array.getElem_mem _);have sa:small e[a]:=hse _ (Array.getElem_mem _);have hw:IntKind.i64.wrap ((x:Int)+1)=((x+1:Nat):Int):=aH _ (by omega) (by omega)
  have hstep:Sort.scanUp p e j x=if ¬ltS e[a] e[x]=true then Sort.scanUp p e j (x+1)else x:=by
   rw[Sort.scanUp,hp];simp[hle,getElem!_pos e x hx,getElem!_pos e a ha]
  simp[a7h,b28,e0,e1,e4,e12,em,lR,hdat.alive,hdat.sz,hln,g1,g2,hx,ha,bI];refine⟨161,[],⟨rfl,rfl⟩,cW,?_⟩;refine aD.draw (sP e[a] e[x] sa sx) (by simp[cell]) (by simp[cell]) (by simp) ?_
  by_cases hlt:ltS e[a] e[x]=true
  ·have hlt':e[a].1 - e[x].1<0:=by simp[ltS]at hlt;omega
   simp[hlt'];exact K _ (by simp[hh1]) (by simp;omega) (by simp[e0,h0]) (by simp[e1,h1]) (by simp[e2]) (by simp[e3]) (by simp[e4,h4]) (by simp[e12,htj]) (by rw[←hs,hstep];simp[em,hlt])
  ·have hlt':¬ e[a].1 - e[x].1<0:=by simp[ltS]at hlt;omega
   have hnx:Sort.scanUp p e j (x+1)=Sort.scanUp p e j i:=by rw[←hs,hstep];simp[hlt]
   simp[hlt',b8X,em,hw];exact⟨_,by omega,x+1,rfl,by rw[←hs,hstep];simp[hlt],hh1,by omega,by simp[e0,h0],by simp[e1,h1],by simp[e2],by simp[e3],by simp[e4,h4],by simp[e12,htj],rfl⟩
 ·have lR:¬ (x:Int)≤j:=by omega
  have hstop:Sort.scanUp p e j x=x:=by
   rw[Sort.scanUp,if_neg];simp[hle]
  simp[a7h,b28,e0,e1,e4,e12,em,lR];exact K _ (by simp[hh1]) (by simp;omega) (by simp[e0,h0]) (by simp[e1,h1]) (by simp[e2]) (by simp[e3]) (by simp[e4,h4]) (by simp[e12,htj]) (by rw[←hs,hstop];simp[em])
theorem aON{n:Nat}{A:Exit→St→Prop}{ks:List KF}(id ver a i j:Nat)(tight:Bool)(h:Hp)(e:Array Sp)(hsz:e.size≤100000)(hse:∀ x∈e,small x)(st:St)(hh:st.heap=aS h id ver e)
  (h0:st.tmps 0= .one (.ref id ver 0 e.size 2 tight)) (h1:st.tmps 1= .one (.t (I a))) (h4:st.tmps 4= .one (.fn 161 [])) (hti:st.tmps 11= .one (.t (I i))) (htj:st.tmps 12= .one (.t (I j))) (ha:a<e.size) (hai:a<i) (hj:j<e.size) (p:Sp→Bool) (hp:p=(fun x=>ltS e[a]! x))
  (K:∀ st':St,st'.heap=st.heap→st.nx≤st'.nx→st'.tmps 0=st.tmps 0→st'.tmps 1=st.tmps 1→st'.tmps 2=st.tmps 2→st'.tmps 3=st.tmps 3→st'.tmps 4=st.tmps 4→st'.tmps 11=st.tmps 11→st'.tmps 12= .one (.t (I (Sort.scanDown p e i j:Nat)))→cX prog n A ks .normal st'):
  W prog n (.loop a7i) (kont prog n A (.blk 4::ks)) st:=by
 refine W.cU (fun k st1=>∃ x:Nat,k=x+1∧x≤j∧Sort.scanDown p e i x=Sort.scanDown p e i j∧st1.heap=st.heap∧st.nx≤st1.nx∧st1.tmps 0=st.tmps 0∧st1.tmps 1=st.tmps 1∧st1.tmps 2=st.tmps 2∧st1.tmps 3=st.tmps 3∧st1.tmps 4=st.tmps 4∧st1.tmps 11=st.tmps 11∧st1.tmps 12= .one (.t (I x))) (j+1) ⟨j,rfl,Nat.le_refl _,rfl,rfl,Nat.le_refl _,rfl,rfl,rfl,rfl,rfl,rfl,htj⟩ ?_;rintro k st1 ⟨x,hk,hxj,hs,hh1,hn1,e0,e1,e2,e3,e4,e11,em⟩;have hdat:Data st1.heap id ver e:=by rw[hh1,hh];exact bH
 rw[h0]at e0;rw[h1]at e1;rw[h4]at e4;rw[hti]at e11
 by_cases hle:i≤x
 ·have hx:x<e.size:=by omega
  have lR:(i:Int)≤x:=by omega
  have hln:(st1.heap.rows id).length=e.size:=by rw[hdat.rows];simp
  have g1:=rowAt hdat hx;have g2:=rowAt hdat ha;have sx:small e[x]:=hse _ (Array.getElem_mem _);have sa:small e[a]:=hse _ (Array.getElem_mem _);have hw:IntKind.i64.wrap ((x:Int) - 1)=((x - 1:Nat):Int):=aH _ (by omega) (by omega)
  have hstep:Sort.scanDown p e i x=if ltS e[a] e[x]=true then Sort.scanDown p e i (x - 1)else x:=by
   obtain⟨y,rfl⟩:∃ y,x=y+1:=⟨x - 1,by omega⟩;rw[Sort.scanDown,hp];simp[hle,getElem!_pos e (y+1) hx,getElem!_pos e a ha]
  simp[a7i,b29,e0,e1,e4,e11,em,lR,hdat.alive,hdat.sz,hln,g1,g2,hx,ha,bI];refine⟨161,[],⟨rfl,rfl⟩,cW,?_⟩;refine aD.draw (sP e[a] e[x] sa sx) (by simp[cell]) (by simp[cell]) (by simp) ?_
  by_cases hlt:ltS e[a] e[x]=true
  ·have hlt':e[a].1 - e[x].1<0:=by simp[ltS]at hlt;omega
   have hnx:Sort.scanDown p e i (x - 1)=Sort.scanDown p e i j:=by rw[←hs,hstep];simp[hlt]
   simp[hlt',b8Y,em,hw];exact⟨_,by omega,x - 1,rfl,by omega,by rw[←hs,hstep];simp[hlt],hh1,by omega,by simp[e0,h0],by simp[e1,h1],by simp[e2],by simp[e3],by simp[e4,h4],by simp[e11,hti],rfl⟩
  ·have hlt':¬ e[a].1 - e[x].1<0:=by simp[ltS]at hlt;omega
   simp[hlt'];exact K _ (by simp[hh1]) (by simp;omega) (by simp[e0,h0]) (by simp[e1,h1]) (by simp[e2]) (by simp[e3]) (by simp[e4,h4]) (by simp[e11,hti]) (by rw[←hs,hstep];simp[em,hlt])
 ·have lR:¬ (i:Int)≤x:=by omega
  have hstop:Sort.scanDown p e i x=x:=by
   cases x with
   | zero=>rfl
   | succ y=>rw[Sort.scanDown,if_neg];simp[hle]
  simp[a7i,b29,e0,e1,e4,e11,em,lR];exact K _ (by simp[hh1]) (by simp;omega) (by simp[e0,h0]) (by simp[e1,h1]) (by simp[e2]) (by simp[e3]) (by simp[e4,h4]) (by simp[e11,hti]) (by rw[←hs,hstop];simp[em])
theorem scans{p q:Sp→Bool}(hq:∀ x,q x= !p x){e:Array Sp}{i j:Nat}(hij:i≤j+1)(hi:0<i):
  i≤Sort.scanUp p e j i∧Sort.scanUp p e j i≤j+1∧Sort.scanDown q e (Sort.scanUp p e j i) j≤j∧Sort.scanUp p e j i≤Sort.scanDown q e (Sort.scanUp p e j i) j+1∧
   (¬Sort.scanUp p e j i>Sort.scanDown q e (Sort.scanUp p e j i) j→Sort.scanUp p e j i<Sort.scanDown q e (Sort.scanUp p e j i) j):=by
 obtain⟨a1,a2,a3,a4⟩:=Sort.scanUp_spec p e j _ i rfl;obtain⟨b1,b2,b3,b4⟩:=Sort.scanDown_spec q e (Sort.scanUp p e j i) j;generalize Sort.scanUp p e j i=i2 at*;generalize Sort.scanDown q e i2 j=j2 at*;refine⟨a1,a2 hij,b1,b2 (a2 hij),fun h=>?_⟩;rcases Nat.lt_or_ge i2 j2 with hlt | hge
 ·exact hlt
 ·have he:i2=j2:=by omega
  subst he;have h1:=a4 (by omega);have h2:=b4 (Nat.le_refl _) (by omega);rw[hq,h1]at h2;cases h2
theorem aOO(h:Hp)(n0 id ver a b pv:Nat)(tight:Bool)(d:Array Sp)(hd:Data h id ver d)(ho:aF h n0)(hid:id<n0)(hab:a<b)(hb:b≤d.size)(hpv:pv<d.size)(hsz:d.size≤100000)(hsm:∀ x∈d,small x):
  ISp prog 250 h n0 [.one (.ref id ver 0 d.size 2 tight),.one (.t (I a)),.one (.t (I b)),.one (.t (I pv)),.one (.fn 161 [])] (.one (.t (I (Sort.partitionEqual ltS d a b pv).1))) (aS h id ver (Sort.partitionEqual ltS d a b pv).2):=by
 refine k250.gQ (by simp) ?_;have qa:a<d.size:=by omega
 have hln:(h.rows id).length=d.size:=by rw[hd.rows];simp
 have g1:=rowAt hd qa;have g2:=rowAt hd hpv;have w1:IntKind.i64.wrap ((a:Int)+1)=((a+1:Nat):Int):=aH _ (by omega) (by omega);have w2:IntKind.i64.wrap ((b:Int) - 1)=((b - 1:Nat):Int):=aH _ (by omega) (by omega);have sh:=eL (h:=h) (g:=h) (d:=d) hd.self.symm qa hpv;simp[hln,hpv]at sh;simp[c250,b8U,b8V,b8W,hd.alive,hd.sz,hd.open_,hln,g1,g2,qa,hpv,w1,w2,bI,eQ];refine⟨bJ _,bJ _,?_⟩;rw[sh];have k0:Keeps d (Sort.swp d a pv):=Keeps.swp qa hpv
 refine W.cU (fun k st=>∃ (i j:Nat) (e:Array Sp),k=j+1 - i∧a<i∧i≤j+1∧j<d.size∧Keeps d e∧st.heap=aS h id ver e∧Sort.partEqLoop ltS a i j e=Sort.partitionEqual ltS d a b pv∧
  st.tmps 0= .one (.ref id ver 0 d.size 2 tight)∧st.tmps 1= .one (.t (I a))∧st.tmps 4= .one (.fn 161 [])∧st.tmps 11= .one (.t (I i))∧st.tmps 12= .one (.t (I j))) (b - 1+1 - (a+1))
  ⟨a+1,b - 1,_,rfl,by omega,by omega,by omega,k0,rfl,rfl,by simp,by simp,by simp,by simp,by simp⟩ ?_
 rintro k st ⟨i,j,e,hk,hai,hij,hjd,he,hh,hout,h0,h1,h4,h11,h12⟩;rw[Sort.partEqLoop_eq]at hout;obtain⟨p,hp⟩:∃ p:Sp→Bool,p=fun x=> !ltS e[a]! x:=⟨_,rfl⟩
 obtain⟨q,hq⟩:∃ q:Sp→Bool,q=fun x=>ltS e[a]! x:=⟨_,rfl⟩
 rw[←hp,←hq]at hout;obtain⟨s1,s2,s3,s4,s5⟩:=scans (p:=p) (q:=q) (e:=e) (i:=i) (j:=j) (fun x=>by rw[hp,hq];simp) hij (by omega);rw[←he.1]at h0;simp[b82];refine aTY id ver a i j tight h e (by rw[he.1];exact hsz) (he.2 hsm) _ hh h0 h1 h4 h11 h12 (by rw[he.1];exact qa) hai (by rw[he.1];exact hjd) p hp fun st1 z1 z2 z3 z4 z5 z6 z7 z8 z9=>?_
 obtain⟨i2,hi2⟩:∃ i2:Nat,i2=Sort.scanUp p e j i:=⟨_,rfl⟩;rw[←hi2]at z9 hout s1 s2 s3 s4 s5;simp;refine aON id ver a i2 j tight h e (by rw[he.1];exact hsz) (he.2 hsm) _ (by rw[z1];exact hh) (by rw[z3];exact h0) (by rw[z4];exact h1) (by rw[z7];exact h4) z9 (by rw[z8];exact h12) (by rw[he.1];exact qa) (by omega) (by rw[he.1];exact hjd) q hq fun st2 y1 y2 y3 y4 y5 y6 y7 y8 y9=>?_
 obtain⟨j2,hj2⟩:∃ j2:Nat,j2=Sort.scanDown q e i2 j:=⟨_,rfl⟩;rw[←hj2]at y9 hout s3 s4 s5;have t0:st2.tmps 0= .one (.ref id ver 0 d.size 2 tight):=by rw[y3,z3,h0,he.1]
 have t1:st2.tmps 1= .one (.t (I a)):=by rw[y4,z4,h1]
 have t4:st2.tmps 4= .one (.fn 161 []):=by rw[y7,z7,h4]
 have t11:st2.tmps 11= .one (.t (I i2)):=by rw[y8,z9]
 have hh2:st2.heap=aS h id ver e:=by rw[y1,z1,hh]
 by_cases hgt:i2>j2
 ·rw[if_pos hgt]at hout;simp[b3a,t11,y9,hgt,b83];rw[←hout];exact⟨.inr rfl,⟨by simp,by simp⟩,by simp,by simp,by simp,fun k hk=>by simp[hh2],(aF.put ho hid).above,(aF.put ho hid).below⟩
 ·rw[if_neg hgt]at hout;have hlt:=s5 hgt;have q1:i2<e.size:=by rw[he.1];omega
  have q2:j2<e.size:=by rw[he.1];omega
  have q1':i2<d.size:=by omega
  have q2':j2<d.size:=by omega
  have hdat:Data st2.heap id ver e:=by rw[hh2];exact bH
  have aEG:(st2.heap.rows id).length=e.size:=by rw[hdat.rows];simp
  have g1:=rowAt hdat q1;have g2:=rowAt hdat q2;have w3:IntKind.i64.wrap ((i2:Int)+1)=((i2+1:Nat):Int):=aH _ (by omega) (by omega);have w4:IntKind.i64.wrap ((j2:Int) - 1)=((j2 - 1:Nat):Int):=aH _ (by omega) (by omega);have sh:=eL hh2 q1 q2;simp[aEG,q2]at sh;simp[b3a,b8Z,b80,b81,t0,t1,t4,t11,y9,hgt,w3,w4,hdat.alive,hdat.sz,hdat.open_,aEG,g1,g2,q1,q2,q1',q2',bI,eQ];exact⟨bJ _,bJ _,j2 - 1+1 - (i2+1),by omega,i2+1,j2 - 1,rfl,by omega,by omega,by omega,Sort.swp e i2 j2,he.trans (Keeps.swp q1 q2),sh,hout,rfl,rfl⟩
theorem aTZ(h:Hp)(n0 id ver a b pv:Nat)(tight:Bool)(d:Array Sp)(hd:Data h id ver d)(ho:aF h n0)(hid:id<n0)(hab:a<b)(hb:b≤d.size)(hpv:pv<d.size)(hsz:d.size≤100000)(hsm:∀ x∈d,small x):
  ISp prog 251 h n0 [.one (.ref id ver 0 d.size 2 tight),.one (.t (I a)),.one (.t (I b)),.one (.t (I pv)),.one (.fn 161 [])]
   (.tup [.one (.t (I (Sort.partition ltS d a b pv).1)),.one (.t (.bool (Sort.partition ltS d a b pv).2.1))]) (aS h id ver (Sort.partition ltS d a b pv).2.2):=by
 refine k251.gQ (by simp) ?_;have qa:a<d.size:=by omega
 have hln:(h.rows id).length=d.size:=by rw[hd.rows];simp
 have g1:=rowAt hd qa;have g2:=rowAt hd hpv;have w1:IntKind.i64.wrap ((a:Int)+1)=((a+1:Nat):Int):=aH _ (by omega) (by omega);have w2:IntKind.i64.wrap ((b:Int) - 1)=((b - 1:Nat):Int):=aH _ (by omega) (by omega);have sh:=eL (h:=h) (g:=h) (d:=d) hd.self.symm qa hpv;simp[hln,hpv]at sh;simp[c251,b84,b85,b86,hd.alive,hd.sz,hd.open_,hln,g1,g2,qa,hpv,w1,w2,bI,eQ];refine⟨bJ _,bJ _,?_⟩;rw[sh];have k0:Keeps d (Sort.swp d a pv):=Keeps.swp qa hpv
 have hpart:Sort.partition ltS d a b pv=(if Sort.scanUp (fun x=>ltS x (Sort.swp d a pv)[a]!) (Sort.swp d a pv) (b - 1) (a+1)>Sort.scanDown (fun x=> !ltS x (Sort.swp d a pv)[a]!) (Sort.swp d a pv) (Sort.scanUp (fun x=>ltS x (Sort.swp d a pv)[a]!) (Sort.swp d a pv) (b - 1) (a+1)) (b - 1)
   then(Sort.scanDown (fun x=> !ltS x (Sort.swp d a pv)[a]!) (Sort.swp d a pv) (Sort.scanUp (fun x=>ltS x (Sort.swp d a pv)[a]!) (Sort.swp d a pv) (b - 1) (a+1)) (b - 1),true,Sort.swp (Sort.swp d a pv) (Sort.scanDown (fun x=> !ltS x (Sort.swp d a pv)[a]!) (Sort.swp d a pv) (Sort.scanUp (fun x=>ltS x (Sort.swp d a pv)[a]!) (Sort.swp d a pv) (b - 1) (a+1)) (b - 1)) a)
   else let r:=Sort.partLoop ltS a (Sort.scanUp (fun x=>ltS x (Sort.swp d a pv)[a]!) (Sort.swp d a pv) (b - 1) (a+1)+1) (Sort.scanDown (fun x=> !ltS x (Sort.swp d a pv)[a]!) (Sort.swp d a pv) (Sort.scanUp (fun x=>ltS x (Sort.swp d a pv)[a]!) (Sort.swp d a pv) (b - 1) (a+1)) (b - 1) - 1) (Sort.swp (Sort.swp d a pv) (Sort.scanUp (fun x=>ltS x (Sort.swp d a pv)[a]!) (Sort.swp d a pv) (b - 1) (a+1)) (Sort.scanDown (fun x=> !ltS x (Sort.swp d a pv)[a]!) (Sort.swp d a pv) (Sort.scanUp (fun x=>ltS x (Sort.swp d a pv)[a]!) (Sort.swp d a pv) (b - 1) (a+1)) (b - 1)))
    (r.1,false,Sort.swp r.2 r.1 a)):=rfl
 generalize Sort.swp d a pv=e at*;obtain⟨p,hp⟩:∃ p:Sp→Bool,p=fun x=>ltS x e[a]! :=⟨_,rfl⟩
 obtain⟨q,hq⟩:∃ q:Sp→Bool,q=fun x=> !ltS x e[a]! :=⟨_,rfl⟩
 rw[←hp,←hq]at hpart;obtain⟨s1,s2,s3,s4,s5⟩:=scans (p:=p) (q:=q) (e:=e) (i:=a+1) (j:=b - 1) (fun x=>by rw[hp,hq]) (by omega) (by omega);have hes:d.size=e.size:=k0.1.symm;refine aQX id ver a (a+1) (b - 1) tight h e (by omega) (k0.2 hsm) _ rfl (by simp[hes]) (by simp) (by simp) (by simp) (by simp) (by omega) (by omega) (by omega) p hp fun st1 z1 z2 z3 z4 z5 z6 z7 z8 z9=>?_
 obtain⟨i2,hi2⟩:∃ i2:Nat,i2=Sort.scanUp p e (b - 1) (a+1):=⟨_,rfl⟩;rw[←hi2]at z9 hpart s1 s2 s3 s4 s5;simp at z1 z2 z3 z4 z7 z8;simp;refine aLP id ver a i2 (b - 1) tight h e (by omega) (k0.2 hsm) _ z1 (by rw[z3,hes]) z4 z7 z9 (by rw[z8]) (by omega) (by omega) (by omega) q hq fun st2 y1 y2 y3 y4 y5 y6 y7 y8 y9=>?_
 obtain⟨j2,hj2⟩:∃ j2:Nat,j2=Sort.scanDown q e i2 (b - 1):=⟨_,rfl⟩;rw[←hj2]at y9 hpart s3 s4 s5;have t0:st2.tmps 0= .one (.ref id ver 0 d.size 2 tight):=by rw[y3,z3]
 have t1:st2.tmps 1= .one (.t (I a)):=by rw[y4,z4]
 have t4:st2.tmps 4= .one (.fn 161 []):=by rw[y7,z7]
 have t12:st2.tmps 12= .one (.t (I i2)):=by rw[y8,z9]
 have hh2:st2.heap=aS h id ver e:=by rw[y1,z1]
 have hdat:Data st2.heap id ver e:=by rw[hh2];exact bH
 have aEG:(st2.heap.rows id).length=e.size:=by rw[hdat.rows];simp
 have qae:a<e.size:=by omega
 have q2:j2<e.size:=by omega
 have q2':j2<d.size:=by omega
 have ga:=rowAt hdat qae;have gj:=rowAt hdat q2;have hnx:n0≤st2.nx:=by omega
 by_cases hgt:i2>j2
 ·rw[if_pos hgt]at hpart;have sh:=eL hh2 q2 qae;simp[aEG,qae]at sh;simp[b3d,b89,b9a,t0,t1,t12,y9,hgt,hdat.alive,hdat.sz,hdat.open_,aEG,ga,gj,q2,q2',qa,qae,bI,eQ];rw[sh,hpart];exact⟨bJ _,bJ _,.inr rfl,⟨by simp,by simp⟩,by simp,by simp,by simp,fun k hk=>rfl,(aF.put ho hid).above,(aF.put ho hid).below⟩
 ·rw[if_neg hgt]at hpart;have hlt:=s5 hgt;have q1:i2<e.size:=by omega
  have q1':i2<d.size:=by omega
  have gi:=rowAt hdat q1;have w3:IntKind.i64.wrap ((i2:Int)+1)=((i2+1:Nat):Int):=aH _ (by omega) (by omega);have w4:IntKind.i64.wrap ((j2:Int) - 1)=((j2 - 1:Nat):Int):=aH _ (by omega) (by omega);have sh:=eL hh2 q1 q2;simp[aEG,q2]at sh;simp[b3d,b9b,b9c,b9d,t0,t12,y9,hgt,w3,w4,hdat.alive,hdat.sz,hdat.open_,aEG,gi,gj,q1,q1',q2,q2',bI,eQ];refine⟨bJ _,bJ _,?_⟩;rw[sh];have kE:Keeps d (Sort.swp e i2 j2):=k0.trans (Keeps.swp q1 q2);generalize Sort.swp e i2 j2=e1 at*;clear hp hq sh gi gj ga hdat aEG y9 z9 t12 w3 w4
  refine W.cU (fun k st=>∃ (i j:Nat) (f:Array Sp),k=j+1 - i∧a<i∧i≤j+1∧j<d.size∧Keeps d f∧st.heap=aS h id ver f∧n0≤st.nx∧Sort.partLoop ltS a i j f=Sort.partLoop ltS a (i2+1) (j2 - 1) e1∧
   st.tmps 0= .one (.ref id ver 0 d.size 2 tight)∧st.tmps 1= .one (.t (I a))∧st.tmps 4= .one (.fn 161 [])∧st.tmps 12= .one (.t (I i))∧st.tmps 13= .one (.t (I j))) (j2 - 1+1 - (i2+1))
   ⟨i2+1,j2 - 1,e1,rfl,by omega,by omega,by omega,kE,rfl,by simp;omega,rfl,by simp[t0],by simp[t1],by simp[t4],by simp,by simp⟩ ?_
  rintro k st ⟨i,j,f,hk,hai,hij,hjd,he,hh,hnx3,hout,h0,h1,h4,h12,h13⟩;rw[Sort.partLoop_eq]at hout;obtain⟨p,hp⟩:∃ p:Sp→Bool,p=fun x=>ltS x f[a]! :=⟨_,rfl⟩
  obtain⟨q,hq⟩:∃ q:Sp→Bool,q=fun x=> !ltS x f[a]! :=⟨_,rfl⟩
  rw[←hp,←hq]at hout;obtain⟨s1,s2,s3,s4,s5⟩:=scans (p:=p) (q:=q) (e:=f) (i:=i) (j:=j) (fun x=>by rw[hp,hq]) hij (by omega);rw[←he.1]at h0;simp[b9j];refine aQY id ver a i j tight h f (by rw[he.1];exact hsz) (he.2 hsm) _ hh h0 h1 h4 h12 h13 (by rw[he.1];exact qa) hai (by rw[he.1];exact hjd) p hp fun st3 z1 z2 z3 z4 z5 z6 z7 z8 z9=>?_
  obtain⟨i3,hi3⟩:∃ i3:Nat,i3=Sort.scanUp p f j i:=⟨_,rfl⟩;rw[←hi3]at z9 hout s1 s2 s3 s4 s5;simp;refine aLQ id ver a i3 j tight h f (by rw[he.1];exact hsz) (he.2 hsm) _ (by rw[z1];exact hh) (by rw[z3];exact h0) (by rw[z4];exact h1) (by rw[z7];exact h4) z9 (by rw[z8];exact h13) (by rw[he.1];exact qa) (by omega) (by rw[he.1];exact hjd) q hq fun st4 y1 y2 y3 y4 y5 y6 y7 y8 y9=>?_
  obtain⟨j3,hj3⟩:∃ j3:Nat,j3=Sort.scanDown q f i3 j:=⟨_,rfl⟩;rw[←hj3]at y9 hout s3 s4 s5;have t0:st4.tmps 0= .one (.ref id ver 0 d.size 2 tight):=by rw[y3,z3,h0,he.1]
  have t1:st4.tmps 1= .one (.t (I a)):=by rw[y4,z4,h1]
  have t4:st4.tmps 4= .one (.fn 161 []):=by rw[y7,z7,h4]
  have t12:st4.tmps 12= .one (.t (I i3)):=by rw[y8,z9]
  have hh4:st4.heap=aS h id ver f:=by rw[y1,z1,hh]
  have hdat:Data st4.heap id ver f:=by rw[hh4];exact bH
  have aOP:(st4.heap.rows id).length=f.size:=by rw[hdat.rows];simp
  have hfs:f.size=d.size:=he.1;have q2:j3<f.size:=by omega
  have q2':j3<d.size:=by omega
  have qaf:a<f.size:=by omega
  have gj:=rowAt hdat q2
  by_cases hgt:i3>j3
  ·rw[if_pos hgt]at hout;have ga:=rowAt hdat qaf;have sh:=eL hh4 q2 qaf;simp[aOP,qaf]at sh;simp[b3g,b9k,b9l,t0,t1,t12,y9,hgt,hdat.alive,hdat.sz,hdat.open_,aOP,ga,gj,q2,q2',qa,qaf,bI,eQ];rw[sh,hpart,←hout];exact⟨bJ _,bJ _,.inr rfl,⟨by simp,by simp⟩,by simp,by simp,by simp,fun k hk=>rfl,(aF.put ho hid).above,(aF.put ho hid).below⟩
  ·rw[if_neg hgt]at hout;have hlt:=s5 hgt;have q1:i3<f.size:=by omega
   have q1':i3<d.size:=by omega
   have gi:=rowAt hdat q1;have w3:IntKind.i64.wrap ((i3:Int)+1)=((i3+1:Nat):Int):=aH _ (by omega) (by omega);have w4:IntKind.i64.wrap ((j3:Int) - 1)=((j3 - 1:Nat):Int):=aH _ (by omega) (by omega);have sh:=eL hh4 q1 q2;simp[aOP,q2]at sh;simp[b3g,b9g,b9h,b9i,t0,t1,t4,t12,y9,hgt,w3,w4,hdat.alive,hdat.sz,hdat.open_,aOP,gi,gj,q1,q2,q1',q2',bI,eQ];exact⟨bJ _,bJ _,j3 - 1+1 - (i3+1),by omega,i3+1,j3 - 1,rfl,by omega,by omega,by omega,Sort.swp f i3 j3,he.trans (Keeps.swp q1 q2),sh,by omega,hout,rfl,rfl⟩
structure Kept (st st':St):Prop where
 nx:st.nx≤st'.nx
 t0:st'.tmps 0=st.tmps 0
 t1:st'.tmps 1=st.tmps 1
 t2:st'.tmps 2=st.tmps 2
 t3:st'.tmps 3=st.tmps 3
 t10:st'.tmps 10=st.tmps 10
theorem aGJ{n:Nat}{A:Exit→St→Prop}{ks:List KF}(id ver b i:Nat)(tight:Bool)(h:Hp)(e:Array Sp)(hsz:e.size≤100000)(hse:∀ x∈e,small x)(st:St)(hh:st.heap=aS h id ver e)
  (h0:st.tmps 0= .one (.ref id ver 0 e.size 2 tight)) (h2:st.tmps 2= .one (.t (I b))) (h3:st.tmps 3= .one (.fn 161 [])) (h9:st.tmps 9= .one (.t (I i))) (hi:0<i) (hb:b≤e.size) (_hib:i≤b)
  (K:∀ st':St,st'.heap=st.heap→Kept st st'→st'.tmps 9= .one (.t (I (Sort.scanSorted ltS e b i:Nat)))→cX prog n A ks .normal st'):
  W prog n (.loop a7c) (kont prog n A (.blk 2::ks)) st:=by
 refine W.cU (fun k st1=>∃ x:Nat,k=b - x∧i≤x∧Sort.scanSorted ltS e b x=Sort.scanSorted ltS e b i∧st1.heap=st.heap∧Kept st st1∧st1.tmps 9= .one (.t (I x))) (b - i) ⟨i,rfl,Nat.le_refl _,rfl,rfl,⟨Nat.le_refl _,rfl,rfl,rfl,rfl,rfl⟩,h9⟩ ?_;rintro k st1 ⟨x,hk,hix,hs,hh1,kp,e9⟩;have hdat:Data st1.heap id ver e:=by rw[hh1,hh];exact bH
 have e0:=kp.t0;have e2:=kp.t2;have e3:=kp.t3;rw[h0]at e0;rw[h2]at e2;rw[h3]at e3
 by_cases hlt:x<b
 ·obtain⟨y,hy⟩:∃ y:Nat,y=x - 1:=⟨_,rfl⟩;have hx:x<e.size:=by omega
  have hy':y<e.size:=by omega
  have hln:(st1.heap.rows id).length=e.size:=by rw[hdat.rows];simp
  have g1:=rowAt hdat hx;have g2:=rowAt hdat hy';have sx:small e[x]:=hse _ (Array.getElem_mem _);have sy:small e[y]:=hse _ (Array.getElem_mem _);have hw:IntKind.i64.wrap ((x:Int)+1)=((x+1:Nat):Int):=aH _ (by omega) (by omega);have hw2:IntKind.i64.wrap ((x:Int) - 1)=(y:Int):=aH _ (by omega) (by omega)
  have hstep:Sort.scanSorted ltS e b x=if ¬ltS e[x] e[y]=true then Sort.scanSorted ltS e b (x+1)else x:=by
   rw[Sort.scanSorted];simp[hlt,←hy,getElem!_pos e x hx,getElem!_pos e y hy']
  have fO:(x:Int)<b:=by omega
  simp[a7c,b20,e0,e2,e3,e9,fO,hw2,hdat.alive,hdat.sz,hln,g1,g2,hx,hy',bI];refine⟨161,[],⟨rfl,rfl⟩,cW,?_⟩;refine aD.draw (sP e[x] e[y] sx sy) (by simp[cell]) (by simp[cell]) (by simp) ?_
  by_cases hl:ltS e[x] e[y]=true
  ·have hl':e[x].1 - e[y].1<0:=by simp[ltS]at hl;omega
   simp[hl'];exact K _ (by simp[hh1]) ⟨by simp;have:=kp.nx;omega,by simp[kp.t0],by simp[kp.t1],by simp[kp.t2],by simp[kp.t3],by simp[kp.t10]⟩ (by rw[←hs,hstep];simp[e9,hl])
  ·have hl':¬ e[x].1 - e[y].1<0:=by simp[ltS]at hl;omega
   simp[hl',b8J,e9,hw];exact⟨_,by omega,x+1,rfl,by omega,by rw[←hs,hstep];simp[hl],hh1,⟨by simp;have:=kp.nx;omega,by simp[kp.t0],by simp[kp.t1],by simp[kp.t2],by simp[kp.t3],by simp[kp.t10]⟩,rfl⟩
 ·have fO:¬ (x:Int)<b:=by omega
  have hstop:Sort.scanSorted ltS e b x=x:=by rw[Sort.scanSorted,if_neg];simp[hlt]
  simp[a7c,b20,e0,e2,e3,e9,fO];exact K _ (by simp[hh1]) ⟨by simp;have:=kp.nx;omega,by simp[kp.t0],by simp[kp.t1],by simp[kp.t2],by simp[kp.t3],by simp[kp.t10]⟩ (by rw[←hs,hstop];simp[e9])
theorem yV{n:Nat}{A:Exit→St→Prop}{ks:List KF}(id ver j:Nat)(tight:Bool)(h:Hp)(d0:Array Sp)(hsz:d0.size≤100000)(hse:∀ x∈d0,small x)(st:St)(hh:st.heap=aS h id ver d0)
  (h0:st.tmps 0= .one (.ref id ver 0 d0.size 2 tight)) (h3:st.tmps 3= .one (.fn 161 [])) (h11:st.tmps 11= .one (.t (I j))) (hj:j<d0.size)
  (K:∀ st':St,st'.heap=aS h id ver (Sort.shiftDown ltS j d0)→Kept st st'→st'.tmps 9=st.tmps 9→cX prog n A ks .normal st'):
  W prog n (.loop a7e) (kont prog n A (.blk 4::ks)) st:=by
 refine W.cU (fun k st1=>∃ e:Array Sp,k≤j∧Keeps d0 e∧Sort.shiftDown ltS k e=Sort.shiftDown ltS j d0∧st1.heap=aS h id ver e∧Kept st st1∧st1.tmps 9=st.tmps 9∧st1.tmps 11= .one (.t (I k))) j ⟨d0,Nat.le_refl _,.refl _,rfl,hh,⟨Nat.le_refl _,rfl,rfl,rfl,rfl,rfl⟩,rfl,h11⟩ ?_;rintro k st1 ⟨e,hk,he,hs,hh1,kp,e9,e11⟩;have hdat:Data st1.heap id ver e:=by rw[hh1];exact bH
 have e0:=kp.t0;have e3:=kp.t3;rw[h0]at e0;rw[h3]at e3;cases k with
 | zero=>
  simp[a7e,b23,e11];exact K _ (by rw[←hs];simp[hh1];rfl) ⟨by simp;have:=kp.nx;omega,by simp[kp.t0],by simp[kp.t1],by simp[kp.t2],by simp[kp.t3],by simp[kp.t10]⟩ (by simp[e9])
 | succ y=>
  obtain⟨x,hx0⟩:∃ x:Nat,x=y+1:=⟨_,rfl⟩;have hstep:Sort.shiftDown ltS (y+1) e=if ¬ltS e[x]! e[y]! =true then e else Sort.shiftDown ltS y (Sort.swp e x y):=by rw[Sort.shiftDown,hx0];simp
  rw[←hx0]at e11;have hes:=he.1;have hx:x<e.size:=by omega
  have hy':y<e.size:=by omega
  have hx':x<d0.size:=by omega
  have hy'':y<d0.size:=by omega
  have hln:(st1.heap.rows id).length=e.size:=by rw[hdat.rows];simp
  have g1:=rowAt hdat hx;have g2:=rowAt hdat hy';have sx:small e[x]:=he.2 hse _ (Array.getElem_mem _);have sy:small e[y]:=he.2 hse _ (Array.getElem_mem _);have hw2:IntKind.i64.wrap ((x:Int) - 1)=(y:Int):=aH _ (by omega) (by omega);have h1I:(1:Int)≤x:=by omega
  rw[getElem!_pos e x hx,getElem!_pos e y hy']at hstep;have sh:=eL hh1 hx hy';simp[hln,hy']at sh;simp[a7e,b23,b8O,e0,e3,e11,h1I,hw2,hdat.alive,hdat.sz,hln,g1,g2,hx,hy',hx',hy'',bI];refine⟨161,[],⟨rfl,rfl⟩,cW,?_⟩;refine aD.draw (sP e[x] e[y] sx sy) (by simp[cell]) (by simp[cell]) (by simp) ?_
  by_cases hl:ltS e[x] e[y]=true
  ·have hl':e[x].1 - e[y].1<0:=by simp[ltS]at hl;omega
   simp[hl',b8P,b8Q,e0,e11,hw2,hdat.alive,hdat.sz,hdat.open_,hln,g1,g2,hx,hy',hx',hy'',bI,eQ];refine⟨bJ _,bJ _,y,by omega,by omega,Sort.swp e x y,he.trans (Keeps.swp hx hy'),?_,sh,⟨by simp;have:=kp.nx;omega,by simp[kp.t0],by simp[kp.t1],by simp[kp.t2],by simp[kp.t3],by simp[kp.t10]⟩,e9,rfl⟩;rw[←hs,hstep];simp[hl]
  ·have hl':¬ e[x].1 - e[y].1<0:=by simp[ltS]at hl;omega
   simp[hl'];exact K _ (by rw[←hs,hstep];simp[hh1,hl]) ⟨by simp;have:=kp.nx;omega,by simp[kp.t0],by simp[kp.t1],by simp[kp.t2],by simp[kp.t3],by simp[kp.t10]⟩ (by simp[e9])
theorem aEH{n:Nat}{A:Exit→St→Prop}{ks:List KF}(id ver b j:Nat)(tight:Bool)(h:Hp)(d0:Array Sp)(hsz:d0.size≤100000)(hse:∀ x∈d0,small x)(st:St)(hh:st.heap=aS h id ver d0)
  (h0:st.tmps 0= .one (.ref id ver 0 d0.size 2 tight)) (h2:st.tmps 2= .one (.t (I b))) (h3:st.tmps 3= .one (.fn 161 [])) (h12:st.tmps 12= .one (.t (I j))) (hj:0<j) (hb:b≤d0.size)
  (K:∀ st':St,st'.heap=aS h id ver (Sort.shiftUp ltS b j d0)→Kept st st'→st'.tmps 9=st.tmps 9→cX prog n A ks .normal st'):
  W prog n (.loop a5t) (kont prog n A (.blk 6::ks)) st:=by
 refine W.cU (fun k st1=>∃ (x:Nat) (e:Array Sp),k=b - x∧0<x∧Keeps d0 e∧Sort.shiftUp ltS b x e=Sort.shiftUp ltS b j d0∧st1.heap=aS h id ver e∧Kept st st1∧st1.tmps 9=st.tmps 9∧st1.tmps 12= .one (.t (I x))) (b - j) ⟨j,d0,rfl,hj,.refl _,rfl,hh,⟨Nat.le_refl _,rfl,rfl,rfl,rfl,rfl⟩,rfl,h12⟩ ?_;rintro k st1 ⟨x,e,hk,hx0,he,hs,hh1,kp,e9,e12⟩;have hdat:Data st1.heap id ver e:=by rw[hh1];exact bH
 have e0:=kp.t0;have e2:=kp.t2;have e3:=kp.t3;rw[h0]at e0;rw[h2]at e2;rw[h3]at e3
 by_cases hlt:x<b
 ·obtain⟨y,hy⟩:∃ y:Nat,y=x - 1:=⟨_,rfl⟩;have hstep:Sort.shiftUp ltS b x e=if ¬ltS e[x]! e[y]! =true then e else Sort.shiftUp ltS b (x+1) (Sort.swp e x y):=by rw[Sort.shiftUp,hy];simp[hlt]
  have hes:=he.1;have hx:x<e.size:=by omega
  have hy':y<e.size:=by omega
  have hx':x<d0.size:=by omega
  have hy'':y<d0.size:=by omega
  have hln:(st1.heap.rows id).length=e.size:=by rw[hdat.rows];simp
  have g1:=rowAt hdat hx;have g2:=rowAt hdat hy';have sx:small e[x]:=he.2 hse _ (Array.getElem_mem _);have sy:small e[y]:=he.2 hse _ (Array.getElem_mem _);have hw2:IntKind.i64.wrap ((x:Int) - 1)=(y:Int):=aH _ (by omega) (by omega);have hw:IntKind.i64.wrap ((x:Int)+1)=((x+1:Nat):Int):=aH _ (by omega) (by omega);have fO:(x:Int)<b:=by omega
  rw[getElem!_pos e x hx,getElem!_pos e y hy']at hstep;have sh:=eL hh1 hx hy';simp[hln,hy']at sh;simp[a5t,b25,b8R,e0,e2,e3,e12,fO,hw2,hdat.alive,hdat.sz,hln,g1,g2,hx,hy',hx',hy'',bI];refine⟨161,[],⟨rfl,rfl⟩,cW,?_⟩;refine aD.draw (sP e[x] e[y] sx sy) (by simp[cell]) (by simp[cell]) (by simp) ?_
  by_cases hl:ltS e[x] e[y]=true
  ·have hl':e[x].1 - e[y].1<0:=by simp[ltS]at hl;omega
   simp[hl',b8S,b8T,e0,e12,hw,hw2,hdat.alive,hdat.sz,hdat.open_,hln,g1,g2,hx,hy',hx',hy'',bI,eQ];refine⟨bJ _,bJ _,b - (x+1),by omega,x+1,rfl,by omega,Sort.swp e x y,he.trans (Keeps.swp hx hy'),?_,sh,⟨by simp;have:=kp.nx;omega,by simp[kp.t0],by simp[kp.t1],by simp[kp.t2],by simp[kp.t3],by simp[kp.t10]⟩,e9,rfl⟩;rw[←hs,hstep];simp[hl]
  ·have hl':¬ e[x].1 - e[y].1<0:=by simp[ltS]at hl;omega
   simp[hl'];exact K _ (by rw[←hs,hstep];simp[hh1,hl]) ⟨by simp;have:=kp.nx;omega,by simp[kp.t0],by simp[kp.t1],by simp[kp.t2],by simp[kp.t3],by simp[kp.t10]⟩ (by simp[e9])
 ·have fO:¬ (x:Int)<b:=by omega
  have hstop:Sort.shiftUp ltS b x e=e:=by rw[Sort.shiftUp,if_neg hlt]
  simp[a5t,b25,e2,e12,fO];exact K _ (by rw[←hs,hstop];simp[hh1]) ⟨by simp;have:=kp.nx;omega,by simp[kp.t0],by simp[kp.t1],by simp[kp.t2],by simp[kp.t3],by simp[kp.t10]⟩ (by simp[e9])
theorem jQ(b:Nat)(e:Array Sp):∀ (k i:Nat),b - i=k→i≤b→i≤Sort.scanSorted ltS e b i∧Sort.scanSorted ltS e b i≤b
 | 0,i,hk,hi=>by rw[Sort.scanSorted,if_neg (by simp;omega)];omega
 | k+1,i,hk,hi=>by
  rw[Sort.scanSorted];split
  ·have:=jQ b e k (i+1) (by omega) (by omega);omega
  ·omega
theorem kR:∀ (j:Nat) (d:Array Sp),j<d.size→Keeps d (Sort.shiftDown ltS j d)
 | 0,d,_=> .refl d
 | j+1,d,h=>by
  rw[Sort.shiftDown];split
  ·exact .refl d
  ·exact(Keeps.swp h (by omega)).trans (kR j _ (by rw[swp_size];omega))
theorem mQ(b:Nat):∀ (k j:Nat) (d:Array Sp),b - j=k→b≤d.size→Keeps d (Sort.shiftUp ltS b j d)
 | 0,j,d,hk,_=>by rw[Sort.shiftUp,if_neg (by omega)];exact .refl d
 | k+1,j,d,hk,hb=>by
  rw[Sort.shiftUp];split
  ·split
   ·exact .refl d
   ·exact(Keeps.swp (by omega) (by omega)).trans (mQ b k (j+1) _ (by omega) (by rw[swp_size];omega))
  ·exact .refl d
theorem aEI(h:Hp)(n0 id ver a b:Nat)(tight:Bool)(d:Array Sp)(hd:Data h id ver d)(ho:aF h n0)(hid:id<n0)(hab:a<b)(hb:b≤d.size)(hsz:d.size≤100000)(hsm:∀ x∈d,small x):
  ISp prog 249 h n0 [.one (.ref id ver 0 d.size 2 tight),.one (.t (I a)),.one (.t (I b)),.one (.fn 161 [])]
   (.one (.t (.bool (Sort.partialInsertionSort ltS d a b).2))) (aS h id ver (Sort.partialInsertionSort ltS d a b).1):=by
 refine k249.gQ (by simp) ?_;have w1:IntKind.i64.wrap ((a:Int)+1)=((a+1:Nat):Int):=aH _ (by omega) (by omega);simp[c249,b8G,b8H,b8I,w1]
 refine W.cU (fun k st=>∃ (i:Nat) (e:Array Sp),k≤5∧a<i∧i≤b∧Keeps d e∧st.heap=aS h id ver e∧n0≤st.nx∧Sort.partialIns ltS a b k i e=Sort.partialInsertionSort ltS d a b∧
  st.tmps 0= .one (.ref id ver 0 d.size 2 tight)∧st.tmps 1= .one (.t (I a))∧st.tmps 2= .one (.t (I b))∧st.tmps 3= .one (.fn 161 [])∧st.tmps 9= .one (.t (I i))∧st.tmps 10= .one (.t (I (5 - (k:Int))))) 5
  ⟨a+1,d,Nat.le_refl _,by omega,by omega,.refl _,hd.self.symm,by simp<;>omega,rfl,by simp,by simp,by simp,by simp,by simp,by simp⟩ ?_
 rintro k st ⟨i,e,hk,hai,hib,he,hh,hnx,hout,h0,h1,h2,h3,h9,h10⟩;cases k with
 | zero=>
  simp[b26,b2Z,h10,b27];rw[←hout];exact⟨.inr rfl,⟨by simp,by simp⟩,by simp,by simp[Sort.partialIns],by simp,fun j hj=>by simp[hh,Sort.partialIns],(aF.put ho hid).above,(aF.put ho hid).below⟩
 | succ s=>
  have h5:(5:Int) - ((s+1:Nat):Int)<5:=by omega
  have h5':(5:Int) - ((s:Int)+1)<5:=by omega
  have ws:IntKind.i64.wrap ((5:Int) - ((s:Int)+1)+1)=5 - (s:Int):=by rw[wrap_i64 (by omega) (by omega)];omega
  have hes:=he.1
  have fin:∀ (r:Bool) (f:Array Sp) (st':St),(f,r)=Sort.partialInsertionSort ltS d a b→st'.heap=aS h id ver f→st'.tmps 8= .one (.t (.bool r))→gF [.tmp 8] (.one (.t (.bool (Sort.partialInsertionSort ltS d a b).2))) (aS h id ver (Sort.partialInsertionSort ltS d a b).1) n0 .ret st':=by
   intro r f st' e1 e2 e3;rw[←e1];exact⟨.inr rfl,⟨by simp,by simp⟩,by simp[e3],by simp[e3],by simp[e3],fun j hj=>by simp[e2],(aF.put ho hid).above,(aF.put ho hid).below⟩
  rw[Sort.partialIns]at hout;obtain⟨i2,hi2⟩:∃ i2:Nat,i2=Sort.scanSorted ltS e b i:=⟨_,rfl⟩;obtain⟨r1,r2⟩:=jQ b e _ i rfl hib;rw[←hi2]at r1 r2;simp only[←hi2]at hout;rw[←hes]at h0;simp[b26,b2Z,h10,h5'];refine aGJ id ver b i tight h e (by omega) (he.2 hsm) _ (by simp[hh]) (by simp[h0]) (by simp[h2]) (by simp[h3]) (by simp[h9]) (by omega) (by omega) hib fun st1 z1 kp z9=>?_
  rw[←hi2]at z9;have t0:=kp.t0;have t1:=kp.t1;have t2:=kp.t2;have t3:=kp.t3;have t10:=kp.t10;have tn:=kp.nx;simp[h0,h1,h2,h3,h10]at t0 t1 t2 t3 t10 tn;simp[hh]at z1
  by_cases aQZ:i2=b
  ·rw[if_pos aQZ]at hout;simp[a7d,z9,t2,aQZ,b8K];exact fin true e _ hout (by simp[z1]) (by simp)
  ·rw[if_neg aQZ]at hout;have aU0:¬ (i2:Int)=b:=by omega
   have wl:IntKind.i64.wrap ((b:Int) - a)=((b - a:Nat):Int):=aH _ (by omega) (by omega)
   by_cases h50:b - a<50
   ·rw[if_pos h50]at hout;have aR0:(((b - a:Nat):Int))<50:=by omega
    simp[a7d,z9,t1,t2,aU0,b21,wl,aR0,b8L];exact fin false e _ hout (by simp[z1]) (by simp)
   ·rw[if_neg h50]at hout;have aR0:¬ (((b - a:Nat):Int))<50:=by omega
    obtain⟨y,hy⟩:∃ y:Nat,y=i2 - 1:=⟨_,rfl⟩;rw[←hy]at hout;have q1:i2<e.size:=by omega
    have q2:y<e.size:=by omega
    have q1':i2<d.size:=by omega
    have q2':y<d.size:=by omega
    have hdat:Data st1.heap id ver e:=by rw[z1];exact bH
    have hln:(st1.heap.rows id).length=e.size:=by rw[hdat.rows];simp
    have g1:=rowAt hdat q1;have g2:=rowAt hdat q2;have wy:IntKind.i64.wrap ((i2:Int) - 1)=(y:Int):=aH _ (by omega) (by omega);have wia:IntKind.i64.wrap ((i2:Int) - a)=((i2 - a:Nat):Int):=aH _ (by omega) (by omega);have wbi:IntKind.i64.wrap ((b:Int) - i2)=((b - i2:Nat):Int):=aH _ (by omega) (by omega);have wi1:IntKind.i64.wrap ((i2:Int)+1)=((i2+1:Nat):Int):=aH _ (by omega) (by omega);have sh:=eL z1 q1 q2;simp[hln,q2]at sh;have k1:Keeps d (Sort.swp e i2 y):=he.trans (Keeps.swp q1 q2);simp[a7d,z9,t0,t1,t2,aU0,b21,wl,aR0,b8M,wy,hdat.alive,hdat.sz,hdat.open_,hln,g1,g2,q1,q2,bI,eQ];refine⟨bJ _,bJ _,?_⟩;rw[sh];generalize Sort.swp e i2 y=e1 at*
    -- the greater one to the right
    have last:∀ (J:St→Prop) (f:Array Sp) (tm:Nat→D) (nx:Nat) (g:Hp),Keeps d f→g=aS h id ver f→n0≤nx→tm 0= .one (.ref id ver 0 d.size 2 tight)→tm 1= .one (.t (I a))→tm 2= .one (.t (I b))→tm 3= .one (.fn 161 [])→tm 9= .one (.t (I i2))→tm 10= .one (.t (I (5 - ((s:Int)+1))))→
      (∀st':St,st'.heap=aS h id ver (if b - i2≥2 then Sort.shiftUp ltS b (i2+1) f else f)→n0≤st'.nx→st'.tmps 0= .one (.ref id ver 0 d.size 2 tight)→st'.tmps 1= .one (.t (I a))→st'.tmps 2= .one (.t (I b))→st'.tmps 3= .one (.fn 161 [])→st'.tmps 9= .one (.t (I i2))→st'.tmps 10= .one (.t (I (5 - (s:Int))))→J st')→
      aZ prog 141 (gF [.tmp 8] (.one (.t (.bool (Sort.partialInsertionSort ltS d a b).2))) (aS h id ver (Sort.partialInsertionSort ltS d a b).1) n0) (.seq (.region 18 false 4 a7f) (.cond (X.tmp 104) (.seq (.region 19 false 3 b24) (.block 6 (.loop a5t))) .skip)) [.blk 1,.thn (.region 4 false 3 a7g),.post J,.blk 0,.thn (.seq (.region 24 false 1 b27) .ret)] ⟨tm,g,nx⟩:=by
     intro J f tm nx g kf hg hnx' u0 u1 u2 u3 u9 u10 hJ
     by_cases h2b:b - i2≥2
     ·have h2I:(2:Int)≤((b - i2:Nat):Int):=by omega
      rw[←kf.1]at u0;simp[a7f,u2,u9,wbi,h2I,b24,wi1];refine aEH id ver b (i2+1) tight h f (by rw[kf.1];exact hsz) (kf.2 hsm) _ (by simp[hg]) (by simp[u0]) (by simp[u2]) (by simp[u3]) (by simp) (by omega) (by rw[kf.1];exact hb) fun st3 v1 kp3 v9=>?_
      have v0:=kp3.t0;have v1':=kp3.t1;have v2:=kp3.t2;have v3:=kp3.t3;have v10:=kp3.t10;have vn:=kp3.nx;simp[u0,u1,u2,u3,u9,u10]at v0 v1' v2 v3 v9 v10 vn;simp[a7g,v10,ws];exact hJ _ (by simp[v1,h2b]) (by simp;omega) (by simp[v0,kf.1]) (by simp[v1']) (by simp[v2]) (by simp[v3]) (by simp[v9]) (by simp)
     ·have h2I:¬ (2:Int)≤((b - i2:Nat):Int):=by omega
      simp[a7f,u2,u9,u10,wbi,h2I,a7g,ws];exact hJ _ (by simp[hg,h2b]) (by simp;omega) (by simp[u0]) (by simp[u1]) (by simp[u2]) (by simp[u3]) (by simp[u9]) (by simp)
    have xN:∀ (f:Array Sp),Keeps d f→f=(if i2 - a≥2 then Sort.shiftDown ltS y e1 else e1)→∀st':St,st'.heap=aS h id ver (if b - i2≥2 then Sort.shiftUp ltS b (i2+1) f else f)→n0≤st'.nx→st'.tmps 0= .one (.ref id ver 0 d.size 2 tight)→st'.tmps 1= .one (.t (I a))→st'.tmps 2= .one (.t (I b))→st'.tmps 3= .one (.fn 161 [])→st'.tmps 9= .one (.t (I i2))→st'.tmps 10= .one (.t (I (5 - (s:Int))))→
      ∃k',k'<s+1∧∃(i:Nat) (e:Array Sp),k'≤5∧a<i∧i≤b∧Keeps d e∧st'.heap=aS h id ver e∧n0≤st'.nx∧Sort.partialIns ltS a b k' i e=Sort.partialInsertionSort ltS d a b∧
       st'.tmps 0= .one (.ref id ver 0 d.size 2 tight)∧st'.tmps 1= .one (.t (I a))∧st'.tmps 2= .one (.t (I b))∧st'.tmps 3= .one (.fn 161 [])∧st'.tmps 9= .one (.t (I i))∧st'.tmps 10= .one (.t (I (5 - (k':Int)))):=by
     intro f kf hf st' u1 u2 u3 u4 u5 u6 u7 u8;refine⟨s,by omega,i2,_,by omega,by omega,by omega,?_,u1,u2,?_,u3,u4,u5,u6,u7,u8⟩
     ·split
      ·exact kf.trans (mQ b _ _ f rfl (by rw[kf.1];exact hb))
      ·exact kf
     ·rw[hf];exact hout
    by_cases h2a:i2 - a≥2
    ·have h2I:(2:Int)≤((i2 - a:Nat):Int):=by omega
     have k2:Keeps d (Sort.shiftDown ltS y e1):=k1.trans (kR y e1 (by rw[k1.1];omega));simp[b22,t1,z9,wia,h2I,b8N,wy];refine yV id ver y tight h e1 (by rw[k1.1];exact hsz) (k1.2 hsm) _ (by simp) (by simp[t0,k1.1,hes]) (by simp[t3]) (by simp) (by rw[k1.1];omega) fun st3 v1 kp3 v9=>?_
     have v0:=kp3.t0;have v1':=kp3.t1;have v2:=kp3.t2;have v3:=kp3.t3;have v10:=kp3.t10;have vn:=kp3.nx;simp[t0,t1,t2,t3,t10,z9]at v0 v1' v2 v3 v9 v10 vn;simp;exact last _ (Sort.shiftDown ltS y e1) _ _ _ k2 v1 (by omega) (by rw[v0,hes]) v1' v2 v3 v9 (by rw[v10]) (fun st' u1 u2 u3 u4 u5 u6 u7 u8=>by simpa using xN _ k2 (by rw[if_pos h2a]) st' u1 u2 u3 u4 u5 u6 u7 u8)
    ·have h2I:¬ (2:Int)≤((i2 - a:Nat):Int):=by omega
     simp[b22,t1,z9,wia,h2I];exact last _ e1 _ _ _ k1 rfl (by omega) (by rw[←hes];exact t0) t1 t2 t3 z9 t10 (fun st' u1 u2 u3 u4 u5 u6 u7 u8=>by simpa using xN _ k1 (by rw[if_neg h2a]) st' u1 u2 u3 u4 u5 u6 u7 u8)
theorem sQ:Sort.SWO ltS where
 irrefl:=fun x=>by simp[ltS]
 trans:=fun x y z h1 h2=>by simp[ltS]at*; omega
 ntrans:=fun x y z h1 h2=>by simp[ltS]at*; omega
theorem Keeps.tY{d e:Array Sp}{a b:Nat}(hb:b≤d.size)(h:Sort.PermIn a b d e):Keeps d e:=by
 refine⟨h.1,fun hs x hx=>?_⟩;obtain⟨i,hi,rfl⟩:=Array.getElem_of_mem hx;have hget:e[i]=e[i]! :=(getElem!_pos e i hi).symm;rw[hget];have all:∀ k,k<d.size→small d[k]! :=fun k hk=>by rw[getElem!_pos d k hk];exact hs _ (Array.getElem_mem _)
 by_cases hr:a≤i∧i<b
 ·exact Sort.permIn_all d e a b small hb h (fun k _ hk=>all k (by omega)) i hr.1 hr.2
 ·rw[h.2.1 i (by omega)];exact all i (by rw[←h.1];exact hi)
theorem tZ(a:Nat):∀ (n i j:Nat) (d:Array Sp),j+1 - i≤n→a<i→i≤j+1→j<d.size→Keeps d (Sort.partEqLoop ltS a i j d).2∧i≤(Sort.partEqLoop ltS a i j d).1∧(Sort.partEqLoop ltS a i j d).1≤j+1:=by
 intro n
 induction n with
 | zero=>
  intro i j d hn ha hij hj;rw[Sort.partEqLoop_eq];obtain⟨s1,s2,s3,s4,s5⟩:=scans (p:=fun x=> !ltS d[a]! x) (q:=fun x=>ltS d[a]! x) (e:=d) (i:=i) (j:=j) (fun x=>by simp) hij (by omega);rw[if_pos (by omega)];exact⟨.refl d,s1,s2⟩
 | succ n ih=>
  intro i j d hn ha hij hj;rw[Sort.partEqLoop_eq];obtain⟨s1,s2,s3,s4,s5⟩:=scans (p:=fun x=> !ltS d[a]! x) (q:=fun x=>ltS d[a]! x) (e:=d) (i:=i) (j:=j) (fun x=>by simp) hij (by omega);split
  ·exact⟨.refl d,s1,s2⟩
  ·rename_i h;have hlt:=s5 h;obtain⟨k1,k2,k3⟩:=ih (Sort.scanUp (fun x=> !ltS d[a]! x) d j i+1) (Sort.scanDown (fun x=>ltS d[a]! x) d (Sort.scanUp (fun x=> !ltS d[a]! x) d j i) j - 1) (Sort.swp d (Sort.scanUp (fun x=> !ltS d[a]! x) d j i) (Sort.scanDown (fun x=>ltS d[a]! x) d (Sort.scanUp (fun x=> !ltS d[a]! x) d j i) j)) (by omega) (by omega) (by omega) (by rw[swp_size];omega);exact⟨(Keeps.swp (by omega) (by omega)).trans k1,by omega,by omega⟩
theorem sR{d:Array Sp}{a b pv:Nat}(hab:a<b)(hb:b≤d.size)(hpv:pv<d.size):Keeps d (Sort.partitionEqual ltS d a b pv).2∧a<(Sort.partitionEqual ltS d a b pv).1∧(Sort.partitionEqual ltS d a b pv).1≤b:=by
 obtain⟨k1,k2,k3⟩:=tZ a _ (a+1) (b - 1) (Sort.swp d a pv) (Nat.le_refl _) (by omega) (by omega) (by rw[swp_size];omega);have e:Sort.partitionEqual ltS d a b pv=Sort.partEqLoop ltS a (a+1) (b - 1) (Sort.swp d a pv):=rfl;rw[e];exact⟨(Keeps.swp (by omega) hpv).trans k1,by omega,by omega⟩
theorem xO{d:Array Sp}{a b pv:Nat}(hab:a≤pv)(hpv:pv<b)(hb:b≤d.size):Keeps d (Sort.partition ltS d a b pv).2.2∧a≤(Sort.partition ltS d a b pv).1∧(Sort.partition ltS d a b pv).1<b:=by
 obtain⟨h1,h2,h3,_⟩:=Sort.partition_holds ltS sQ d a b pv hab hpv hb;exact⟨.tY hb h3,h1,h2⟩
theorem jR(a b:Nat):∀ (s i:Nat) (d:Array Sp),a<i→i≤b→b≤d.size→Keeps d (Sort.partialIns ltS a b s i d).1
 | 0,i,d,_,_,_=> .refl d
 | s+1,i,d,ha,hi,hb=>by
  obtain⟨r1,r2⟩:=jQ b d _ i rfl hi;rw[Sort.partialIns];generalize Sort.scanSorted ltS d b i=i2 at*;simp only;split
  ·exact .refl d
  ·split
   ·exact .refl d
   ·rename_i h1 h2;have k1:Keeps d (Sort.swp d i2 (i2 - 1)):=Keeps.swp (by omega) (by omega);generalize Sort.swp d i2 (i2 - 1)=e1 at*
    have k2:Keeps d (if i2 - a≥2 then Sort.shiftDown ltS (i2 - 1) e1 else e1):=by
     split
     ·exact k1.trans (kR _ _ (by rw[k1.1];omega))
     ·exact k1
    generalize (if i2 - a≥2 then Sort.shiftDown ltS (i2 - 1) e1 else e1)=e2 at*
    have k3:Keeps d (if b - i2≥2 then Sort.shiftUp ltS b (i2+1) e2 else e2):=by
     split
     ·exact k2.trans (mQ b _ _ _ rfl (by rw[k2.1];exact hb))
     ·exact k2
    generalize (if b - i2≥2 then Sort.shiftUp ltS b (i2+1) e2 else e2)=e3 at*;exact k3.trans (jR a b s i2 e3 (by omega) (by omega) (by rw[k3.1];exact hb))
def aAV(e:Array Sp)(a b limit pv:Nat)(wb wp:Bool):Array Sp:=
 if a>0&& !ltS e[a - 1]! e[pv]! then
  match Sort.partitionEqual ltS e a b pv with
  | (mid,d4)=>if _h:a<mid∧mid≤b then Sort.pdq ltS d4 mid b limit wb wp else d4
 else
  match Sort.partition ltS e a b pv with
  | (mid,ap,d4)=>
   if _h:a≤mid∧mid<b then
    if mid - a<b - mid then Sort.pdq ltS (Sort.pdq ltS d4 a mid limit true true) (mid+1) b limit (decide (mid - a≥(b - a) / 8)) ap
    else Sort.pdq ltS (Sort.pdq ltS d4 (mid+1) b limit true true) a mid limit (decide (b - mid≥(b - a) / 8)) ap
   else d4
def xP(e:Array Sp)(a b limit pv:Nat)(hint:Sort.Hint)(wb wp:Bool):Array Sp:=
 if wb&&wp&&hint= .increasing then
  if(Sort.partialInsertionSort ltS e a b).2 then(Sort.partialInsertionSort ltS e a b).1 else aAV (Sort.partialInsertionSort ltS e a b).1 a b limit pv wb wp
 else aAV e a b limit pv wb wp
def sS(e:Array Sp)(a b limit pv:Nat)(hint:Sort.Hint)(wb wp:Bool):Array Sp:=
 if hint= .decreasing then xP (Sort.reverseRange e a b) a b limit ((b - 1) - (pv - a)) .increasing wb wp else xP e a b limit pv hint wb wp
def aAW(e:Array Sp)(a b limit:Nat)(wb wp:Bool):Array Sp:=
 let e1:=if !wb then Sort.breakPatterns e a b else e
 sS e1 a b (if !wb then limit - 1 else limit) (Sort.choosePivot ltS e1 a b).1 (Sort.choosePivot ltS e1 a b).2 wb wp
theorem rK(e:Array Sp)(a b limit:Nat)(wb wp:Bool):Sort.pdq ltS e a b limit wb wp=
  if b - a≤12 then Sort.insertionSort ltS e a b else if limit=0 then Sort.heapSort ltS e a b else aAW e a b limit wb wp:=by
 rw[Sort.pdq];split
 ·rfl
 ·split
  ·rfl
  ·unfold aAW sS xP;generalize (if(!wb)=true then Sort.breakPatterns e a b else e)=e1;generalize (if(!wb)=true then limit - 1 else limit)=lim;simp only
   by_cases hd:(Sort.choosePivot ltS e1 a b).2= .decreasing
   ·simp only[if_pos hd];cases wb<;>cases wp<;>rfl
   ·simp only[if_neg hd]
    by_cases hc:(wb&&wp&&decide ((Sort.choosePivot ltS e1 a b).2=Sort.Hint.increasing))=true
    ·simp only[if_pos hc];rfl
    ·simp only[if_neg hc];rfl
theorem kV{e:Array Sp}{a b:Nat}(hab:a≤b)(hb:b≤e.size):Keeps e (Sort.breakPatterns e a b):= .tY hb (Sort.breakPatterns_holds e a b hab hb)
theorem lS{e:Array Sp}{a b:Nat}(hab:a≤b)(hb:b≤e.size):Keeps e (Sort.reverseRange e a b):= .tY hb (Sort.reverseRange_holds e a b hab hb)
theorem aAX:∀ (N:Nat) (e:Array Sp) (a b limit:Nat) (wb wp:Bool),b - a≤N→a≤b→b≤e.size→Keeps e (Sort.pdq ltS e a b limit wb wp):=by
 intro N
 induction N with
 | zero=>
  intro e a b limit wb wp hN hab hb;rw[rK,if_pos (by omega)];exact .tY hb (Sort.insertionSort_holds sQ e a b hab hb).1
 | succ N ih=>
  intro e a b limit wb wp hN hab hb;rw[rK];split
  ·exact .tY hb (Sort.insertionSort_holds sQ e a b hab hb).1
  ·split
   ·exact .tY hb (Sort.heapSort_holds sQ e a b hab hb).1
   ·rename_i h12 h0
    have k6:∀ (f:Array Sp) (lim pv:Nat),Keeps e f→a≤pv→pv<b→Keeps e (aAV f a b lim pv wb wp):=by
     intro f lim pv kf p1 p2;have fs:=kf.1;unfold aAV;split
     ·obtain⟨q1,q2,q3⟩:=sR (d:=f) (a:=a) (b:=b) (pv:=pv) (by omega) (by omega) (by omega);generalize Sort.partitionEqual ltS f a b pv=r at*;obtain⟨mid,d4⟩:=r;simp only at q1 q2 q3 ⊢;rw[dif_pos ⟨q2,q3⟩];exact(kf.trans q1).trans (ih d4 mid b lim wb wp (by omega) (by omega) (by rw[(kf.trans q1).1];exact hb))
     ·obtain⟨q1,q2,q3⟩:=xO (d:=f) (a:=a) (b:=b) (pv:=pv) p1 p2 (by omega);generalize Sort.partition ltS f a b pv=r at*;obtain⟨mid,ap,d4⟩:=r;simp only at q1 q2 q3 ⊢;have k4:=kf.trans q1;rw[dif_pos ⟨q2,q3⟩];split
      ·have k5:=k4.trans (ih d4 a mid lim true true (by omega) (by omega) (by rw[k4.1];omega));exact k5.trans (ih _ (mid+1) b lim _ ap (by omega) (by omega) (by rw[k5.1];exact hb))
      ·have k5:=k4.trans (ih d4 (mid+1) b lim true true (by omega) (by omega) (by rw[k4.1];omega));exact k5.trans (ih _ a mid lim _ ap (by omega) (by omega) (by rw[k5.1];omega))
    have k5:∀ (f:Array Sp) (lim pv:Nat) (hint:Sort.Hint),Keeps e f→a≤pv→pv<b→Keeps e (xP f a b lim pv hint wb wp):=by
     intro f lim pv hint kf p1 p2;have kp:Keeps e (Sort.partialInsertionSort ltS f a b).1:=kf.trans (jR a b 5 (a+1) f (by omega) (by omega) (by rw[kf.1];exact hb));unfold xP;split
     ·split
      ·exact kp
      ·exact k6 _ _ _ kp p1 p2
     ·exact k6 _ _ _ kf p1 p2
    have k4:∀ (f:Array Sp) (lim pv:Nat) (hint:Sort.Hint),Keeps e f→a≤pv→pv<b→Keeps e (sS f a b lim pv hint wb wp):=by
     intro f lim pv hint kf p1 p2;unfold sS;split
     ·exact k5 _ _ _ _ (kf.trans (lS (by omega) (by rw[kf.1];exact hb))) (by omega) (by omega)
     ·exact k5 _ _ _ _ kf p1 p2
    unfold aAW;simp only
    have k1:Keeps e (if(!wb)=true then Sort.breakPatterns e a b else e):=by
     split
     ·exact kV (by omega) hb
     ·exact .refl e
    have pr:=Sort.choosePivot_holds ltS (if(!wb)=true then Sort.breakPatterns e a b else e) a b (by omega);exact k4 _ _ _ _ k1 pr.1 pr.2
def pJ(id ver N:Nat)(tight:Bool):Prop:=
 ∀(h:Hp) (n0 a b limit:Nat) (d:Array Sp),b - a<N→Data h id ver d→aF h n0→id<n0→a≤b→b≤d.size→d.size≤100000→limit≤100→(∀x∈d,small x)→
  ISp prog 207 h n0 [.one (.ref id ver 0 d.size 2 tight),.one (.t (I a)),.one (.t (I b)),.one (.t (I limit)),.one (.fn 161 [])] (.tup []) (aS h id ver (Sort.pdq ltS d a b limit true true))
structure PI (h:Hp) (n0 id ver:Nat) (tight:Bool) (d G:Array Sp) (a b limit:Nat) (wb wp:Bool) (e:Array Sp) (st:St):Prop where
 ab:a≤b
 bs:b≤d.size
 lim:limit≤100
 keeps:Keeps d e
 heap:st.heap=aS h id ver e
 nx:n0≤st.nx
 out:Sort.pdq ltS e a b limit wb wp=G
 t0:st.tmps 0= .one (.ref id ver 0 d.size 2 tight)
 t1:st.tmps 1= .one (.t (I a))
 t2:st.tmps 2= .one (.t (I b))
 t3:st.tmps 3= .one (.t (I limit))
 t4:st.tmps 4= .one (.fn 161 [])
 t10:st.tmps 10= .one (.t (.bool wb))
 t11:st.tmps 11= .one (.t (.bool wp))
def c207s8:aB:= .seq (.region 20 false 11 b2x) (.seq (.region 21 false 2 b2y) (.seq (.region 22 false 8 b2z) (.seq (.region 23 false 3 b2A) (.seq (.region 24 false 3 b2B) (.cond (X.tmp 125) (.seq (.region 25 false 4 b2C) (.seq (.region 26 false 6 b2D) (.region 27 false 3 b2E))) (.seq (.region 28 false 4 b2F) (.seq (.region 29 false 7 b2G) (.region 30 false 2 b2H))))))))
def c207s6:aB:= .seq (.seq (.region 17 true 17 a65) (.cond (X.tmp 97) (.seq (.region 18 false 7 b2v) (.seq (.region 19 false 2 b2w) (.exit 1))) .skip)) c207s8
def c207s5:aB:= .seq (.seq (.region 15 false 8 a63) (.cond (X.tmp 75) (.seq (.region 16 false 5 b2u) (.cond (X.tmp 80) .ret .skip)) .skip)) c207s6
def c207s4:aB:= .seq (.seq (.region 11 false 2 a62) (.cond (X.tmp 56) (.seq (.region 12 false 5 b2r) (.seq (.region 13 false 7 b2s) (.region 14 false 1 b2t))) .skip)) c207s5
def c207s2:aB:= .seq (.seq (.region 7 false 2 a6Z) (.cond (X.tmp 39) (.seq (.region 8 false 5 b2p) (.region 9 false 3 b2q)) .skip)) (.seq (.region 10 false 10 a61) c207s4)
theorem c207b31_eq:b2I= .block 1 (.seq (.region 2 false 4 a3i) (.seq (.seq (.region 3 false 2 a3j) (.cond (X.tmp 25) (.seq (.region 4 false 5 a6X) .ret) .skip)) (.seq (.seq (.region 5 false 2 a6Y) (.cond (X.tmp 32) (.seq (.region 6 false 5 b2o) .ret) .skip)) c207s2))):=rfl
structure PS (h:Hp) (n0 id ver:Nat) (tight:Bool) (d:Array Sp) (a b limit pv:Nat) (wb wp:Bool) (e:Array Sp) (st:St):Prop where
 ab:a+12<b
 bs:b≤d.size
 lim:limit≤100
 p1:a≤pv
 p2:pv<b
 keeps:Keeps d e
 heap:st.heap=aS h id ver e
 nx:n0≤st.nx
 t0:st.tmps 0= .one (.ref id ver 0 d.size 2 tight)
 t1:st.tmps 1= .one (.t (I a))
 t2:st.tmps 2= .one (.t (I b))
 t3:st.tmps 3= .one (.t (I limit))
 t4:st.tmps 4= .one (.fn 161 [])
 t10:st.tmps 10= .one (.t (.bool wb))
 t11:st.tmps 11= .one (.t (.bool wp))
 t12:st.tmps 12= .one (.t (I ((b - a:Nat):Int)))
 t13:st.tmps 13= .one (.t (I pv))
abbrev aJ5 (h:Hp) (n0 id ver:Nat) (G:Array Sp):Exit→St→Prop:=gF [] (.tup []) (aS h id ver G) n0
theorem aLR{h:Hp}{n0 id ver:Nat}{tight:Bool}{d G:Array Sp}{a b limit pv:Nat}{wb wp:Bool}{e:Array Sp}{st:St}{J:St→Prop}(ho:aF h n0)(hid:id<n0)(hsz:d.size≤100000)(hsm:∀ x∈d,small x)
  (ps:PS h n0 id ver tight d a b limit pv wb wp e st) (IH:pJ id ver (b - a) tight)
  (hout:(match Sort.partition ltS e a b pv with
  | (mid,ap,d4)=>
   if _h:a≤mid∧mid<b then
    if mid - a<b - mid then Sort.pdq ltS (Sort.pdq ltS d4 a mid limit true true) (mid+1) b limit (decide (mid - a≥(b - a) / 8)) ap
    else Sort.pdq ltS (Sort.pdq ltS d4 (mid+1) b limit true true) a mid limit (decide (b - mid≥(b - a) / 8)) ap
   else d4)=G)
  (hJ:∀ (a' b':Nat) (wb' wp':Bool) (e':Array Sp) (st':St),b' - a'<b - a→PI h n0 id ver tight d G a' b' limit wb' wp' e' st'→J st'):
  aZ prog 148 (aJ5 h n0 id ver G) c207s8 [.blk 1,.post J,.blk 0] st:=by
 obtain⟨ab,bs,lim,p1,p2,keeps,heap,nx,t0,t1,t2,t3,t4,t10,t11,t12,t13⟩:=ps;have hes:=keeps.1;obtain⟨q1,q2,q3⟩:=xO (d:=e) (a:=a) (b:=b) (pv:=pv) p1 p2 (by omega);have hc:=aTZ st.heap (st.nx+5) id ver a b pv tight e (by rw[heap];exact bH) (by rw[heap];exact aF.more (aF.put ho hid) (by omega)) (by omega) (by omega) (by omega) (by omega) (by omega) (keeps.2 hsm);rw[hes]at hc;simp[c207s8,b2x,t0,t1,t2,t4,t13];refine aD.imp hc ?_;generalize Sort.partition ltS e a b pv=r at*;obtain⟨mid,ap,d4⟩:=r;simp only at q1 q2 q3 hout ⊢;rw[dif_pos ⟨q2,q3⟩]at hout;have k4:=keeps.trans q1;have w1:IntKind.i64.wrap ((mid:Int) - a)=((mid - a:Nat):Int):=aH _ (by omega) (by omega);have w2:IntKind.i64.wrap ((b:Int) - mid)=((b - mid:Nat):Int):=aH _ (by omega) (by omega);obtain⟨l,hl⟩:∃ l:Nat,l=b - a:=⟨_,rfl⟩;rw[←hl]at t12;have w3:IntKind.i64.wrap ((l:Int) / 8)=((l / 8:Nat):Int):=aH _ (by omega) (by omega);have w4:IntKind.i64.wrap ((mid:Int)+1)=((mid+1:Nat):Int):=aH _ (by omega) (by omega);obtain⟨ma,hma⟩:∃ x:Nat,x=mid - a:=⟨_,rfl⟩;obtain⟨bm,hbm⟩:∃ x:Nat,x=b - mid:=⟨_,rfl⟩;obtain⟨l8,hl8⟩:∃ x:Nat,x=l / 8:=⟨_,rfl⟩;obtain⟨m1,hm1⟩:∃ x:Nat,x=mid+1:=⟨_,rfl⟩;rw[←hma]at w1;rw[←hbm]at w2;rw[←hl8]at w3;rw[←hm1]at w4;rw[←hma,←hbm,←hl,←hl8,←hm1]at hout;have hput:aS st.heap id ver d4=aS h id ver d4:=by rw[heap,hU]
 rw[hput];simp[b2y,b2z,b2A,b2B,t1,t2,t12,w1,w2,w3];constructor
 ·intro hlt;rw[if_pos hlt]at hout;have hr:=IH (aS h id ver d4) (st.nx+11+2+8+3+3+4+5) a mid limit d4 (by omega) bH (aF.more (aF.put ho hid) (by omega)) (by omega) (by omega) (by rw[k4.1];omega) (by rw[k4.1];exact hsz) lim (k4.2 hsm);rw[k4.1]at hr;have k5:=k4.trans (aAX _ d4 a mid limit true true (Nat.le_refl _) (by omega) (by rw[k4.1];omega));simp[b2C,b2D,t0,t1,t3,t4];refine aD.imp hr ?_;rw[hU];simp[b2E,w4];refine hJ m1 b _ ap (Sort.pdq ltS d4 a mid limit true true) _ (by omega) ⟨by omega,bs,lim,k5,rfl,by simp;omega,hout,by simp[t0],by simp,by simp[t2],by simp[t3],by simp[t4],?_,by simp⟩;simp
 ·intro hge;have hge':¬ ma<bm:=by omega
  rw[if_neg hge']at hout;have hr:=IH (aS h id ver d4) (st.nx+11+2+8+3+3+4+6) m1 b limit d4 (by omega) bH (aF.more (aF.put ho hid) (by omega)) (by omega) (by omega) (by rw[k4.1];omega) (by rw[k4.1];exact hsz) lim (k4.2 hsm);rw[k4.1]at hr;have k5:=k4.trans (aAX _ d4 m1 b limit true true (Nat.le_refl _) (by omega) (by rw[k4.1];omega));simp[b2F,b2G,t0,t2,t3,t4,w4];refine aD.imp hr ?_;rw[hU];simp[b2H];refine hJ a mid _ ap (Sort.pdq ltS d4 m1 b limit true true) _ (by omega) ⟨by omega,by omega,lim,k5,rfl,by simp;omega,hout,by simp[t0],by simp[t1],by simp,by simp[t3],by simp[t4],?_,by simp⟩;simp
theorem aLS{h:Hp}{n0 id ver:Nat}{tight:Bool}{d G:Array Sp}{a b limit pv:Nat}{wb wp:Bool}{e:Array Sp}{st:St}{J:St→Prop}(ho:aF h n0)(hid:id<n0)(hsz:d.size≤100000)(hsm:∀ x∈d,small x)
  (ps:PS h n0 id ver tight d a b limit pv wb wp e st) (IH:pJ id ver (b - a) tight) (hout:aAV e a b limit pv wb wp=G)
  (hJ:∀ (a' b':Nat) (wb' wp':Bool) (e':Array Sp) (st':St),b' - a'<b - a→PI h n0 id ver tight d G a' b' limit wb' wp' e' st'→J st'):
  aZ prog 148 (aJ5 h n0 id ver G) c207s6 [.blk 1,.post J,.blk 0] st:=by
 have ps':=ps;obtain⟨ab,bs,lim,p1,p2,keeps,heap,nx,t0,t1,t2,t3,t4,t10,t11,t12,t13⟩:=ps;have hes:=keeps.1;have hdat:Data st.heap id ver e:=by rw[heap];exact bH
 have hln:(st.heap.rows id).length=e.size:=by rw[hdat.rows];simp
 unfold aAV at hout
 by_cases ha:a>0
 ·have haI:(0:Int)<a:=by omega
  obtain⟨y,hy⟩:∃ y:Nat,y=a - 1:=⟨_,rfl⟩;have q1:y<e.size:=by omega
  have q2:pv<e.size:=by omega
  have q1':y<d.size:=by omega
  have q2':pv<d.size:=by omega
  have g1:=rowAt hdat q1;have g2:=rowAt hdat q2;have s1:small e[y]:=keeps.2 hsm _ (Array.getElem_mem _);have s2:small e[pv]:=keeps.2 hsm _ (Array.getElem_mem _);have wy:IntKind.i64.wrap ((a:Int) - 1)=(y:Int):=aH _ (by omega) (by omega);rw[←hy,getElem!_pos e y q1,getElem!_pos e pv q2]at hout;simp[c207s6,a65,t0,t1,t4,t13,ha,wy,hdat.alive,hdat.sz,hln,g1,g2,q1,q2,q1',q2',bI];refine⟨161,[],⟨rfl,rfl⟩,cW,?_⟩;refine aD.draw (sP e[y] e[pv] s1 s2) (by simp[cell]) (by simp[cell]) (by simp) ?_
  by_cases hl:ltS e[y] e[pv]=true
  ·have hl':e[y].1 - e[pv].1<0:=by simp[ltS]at hl;omega
   rw[if_neg (by simp[hl])]at hout;simp[hl'];exact aLR (wb:=wb) (wp:=wp) ho hid hsz hsm ⟨ab,bs,lim,p1,p2,keeps,by simp[heap],by simp;omega,by simp[t0],by simp[t1],by simp[t2],by simp[t3],by simp[t4],by simp[t10],by simp[t11],by simp[t12],by simp[t13]⟩ IH hout hJ
  ·have hl':¬ e[y].1 - e[pv].1<0:=by simp[ltS]at hl;omega
   rw[if_pos (by simp[hl,ha])]at hout;simp[hl',b2v,t0,t1,t2,t4,t13];have hc:=aOO st.heap (st.nx+17+5) id ver a b pv tight e hdat (by rw[heap];exact aF.more (aF.put ho hid) (by omega)) (by omega) (by omega) (by omega) q2 (by omega) (keeps.2 hsm);obtain⟨r1,r2,r3⟩:=sR (d:=e) (a:=a) (b:=b) (pv:=pv) (by omega) (by omega) q2;rw[hes]at hc;refine aD.imp hc ?_;generalize Sort.partitionEqual ltS e a b pv=r at*;obtain⟨mid,d4⟩:=r;simp only at r1 r2 r3 hout ⊢;rw[dif_pos ⟨r2,r3⟩]at hout;simp[b2w];exact hJ mid b wb wp d4 _ (by omega) ⟨r3,bs,lim,keeps.trans r1,by simp[heap,hU],by simp;omega,hout,by simp[t0],by simp,by simp[t2],by simp[t3],by simp[t4],by simp[t10],by simp[t11]⟩
 ·have haI:¬ (0:Int)<a:=by omega
  have ha0:a=0:=by omega
  rw[if_neg (by simp[ha])]at hout;simp[c207s6,a65,t0,t1,t4,t13,ha0];exact aLR (wb:=wb) (wp:=wp) ho hid hsz hsm ⟨ab,bs,lim,p1,p2,keeps,by simp[heap],by simp;omega,by simp[t0],by simp[t1],by simp[t2],by simp[t3],by simp[t4],by simp[t10],by simp[t11],by simp[t12],by simp[t13]⟩ IH hout hJ
theorem aLT{h:Hp}{n0 id ver:Nat}{tight:Bool}{d G:Array Sp}{a b limit pv:Nat}{wb wp:Bool}{e:Array Sp}{st:St}{J:St→Prop}(hint:Sort.Hint)(ho:aF h n0)(hid:id<n0)(hsz:d.size≤100000)(hsm:∀ x∈d,small x)
  (ps:PS h n0 id ver tight d a b limit pv wb wp e st) (t14:st.tmps 14= .one (.t (I (nH hint)))) (IH:pJ id ver (b - a) tight) (hout:xP e a b limit pv hint wb wp=G)
  (hJ:∀ (a' b':Nat) (wb' wp':Bool) (e':Array Sp) (st':St),b' - a'<b - a→PI h n0 id ver tight d G a' b' limit wb' wp' e' st'→J st'):
  aZ prog 148 (aJ5 h n0 id ver G) c207s5 [.blk 1,.post J,.blk 0] st:=by
 have ps':=ps;obtain⟨ab,bs,lim,p1,p2,keeps,heap,nx,t0,t1,t2,t3,t4,t10,t11,t12,t13⟩:=ps;have hes:=keeps.1;have hdat:Data st.heap id ver e:=by rw[heap];exact bH
 have hcond:(wb&&wp&&decide (hint= .increasing))=(wb&&wp&&decide (nH hint=1)):=by cases hint<;>rfl
 unfold xP at hout;rw[hcond]at hout
 by_cases hc:(wb&&wp&&decide (nH hint=1))=true
 ·rw[if_pos hc]at hout;simp at hc;obtain⟨⟨rfl,rfl⟩,h1⟩:=hc;simp[c207s5,a63,t0,t1,t2,t4,t10,t11,t14,h1,b2u];have hp:=aEI st.heap (st.nx+8+4) id ver a b tight e hdat (by rw[heap];exact aF.more (aF.put ho hid) (by omega)) (by omega) (by omega) (by omega) (by omega) (keeps.2 hsm);have kp:Keeps d (Sort.partialInsertionSort ltS e a b).1:=keeps.trans (jR a b 5 (a+1) e (by omega) (by omega) (by omega));rw[hes]at hp;refine aD.imp hp ?_;generalize Sort.partialInsertionSort ltS e a b=r at*;obtain⟨f,ok⟩:=r;simp only at kp hout ⊢;cases ok with
  | true=>
   rw[if_pos rfl]at hout;simp;exact fJ (.inr rfl) rfl (by simp[heap,hU,hout]) (aF.put ho hid)
  | false=>
   rw[if_neg (by simp)]at hout;simp;exact aLS ho hid hsz hsm ⟨ab,bs,lim,p1,p2,kp,by simp[heap,hU],by simp;omega,by simp[t0],by simp[t1],by simp[t2],by simp[t3],by simp[t4],by simp[t10],by simp[t11],by simp[t12],by simp[t13]⟩ IH hout hJ
 ·rw[if_neg hc]at hout
  cases wb<;>cases wp<;>simp at hc<;>simp[c207s5,a63,t10,t11,t14,hc]<;>
   exact aLS ho hid hsz hsm ⟨ab,bs,lim,p1,p2,keeps,by simp[heap],by simp;omega,by simp[t0],by simp[t1],by simp[t2],by simp[t3],by simp[t4],by simp[t10],by simp[t11],by simp[t12],by simp[t13]⟩ IH hout hJ
theorem aR1{h:Hp}{n0 id ver:Nat}{tight:Bool}{d G:Array Sp}{a b limit pv:Nat}{wb wp:Bool}{e:Array Sp}{st:St}{J:St→Prop}(hint:Sort.Hint)(ho:aF h n0)(hid:id<n0)(hsz:d.size≤100000)(hsm:∀ x∈d,small x)
  (ps:PS h n0 id ver tight d a b limit pv wb wp e st) (t14:st.tmps 14= .one (.t (I (nH hint)))) (IH:pJ id ver (b - a) tight) (hout:sS e a b limit pv hint wb wp=G)
  (hJ:∀ (a' b':Nat) (wb' wp':Bool) (e':Array Sp) (st':St),b' - a'<b - a→PI h n0 id ver tight d G a' b' limit wb' wp' e' st'→J st'):
  aZ prog 148 (aJ5 h n0 id ver G) c207s4 [.blk 1,.post J,.blk 0] st:=by
 have ps':=ps;obtain⟨ab,bs,lim,p1,p2,keeps,heap,nx,t0,t1,t2,t3,t4,t10,t11,t12,t13⟩:=ps;have hes:=keeps.1;have hdat:Data st.heap id ver e:=by rw[heap];exact bH
 unfold sS at hout
 by_cases hd:hint= .decreasing
 ·rw[if_pos hd]at hout;subst hd;obtain⟨pv2,aXI⟩:∃ x:Nat,x=(b - 1) - (pv - a):=⟨_,rfl⟩;obtain⟨b1,hb1⟩:∃ x:Nat,x=b - 1:=⟨_,rfl⟩;obtain⟨pa,hpa⟩:∃ x:Nat,x=pv - a:=⟨_,rfl⟩;have w1:IntKind.i64.wrap ((b:Int) - 1)=(b1:Int):=aH _ (by omega) (by omega);have w2:IntKind.i64.wrap ((pv:Int) - a)=(pa:Int):=aH _ (by omega) (by omega);have w3:IntKind.i64.wrap ((b1:Int) - pa)=(pv2:Int):=aH _ (by omega) (by omega);rw[←aXI]at hout;simp[c207s4,a62,b2r,t0,t1,t2,t4,t14,nH];have hr:=aLL st.heap (st.nx+2+4) id ver a b tight e hdat (by rw[heap];exact aF.more (aF.put ho hid) (by omega)) (by omega) (by omega) (by omega) (by omega) (.one (.fn 161 [])) rfl;rw[hes]at hr;refine aD.imp hr ?_;simp[b2s,b2t,t1,t2,t13,w1,w2,w3];exact aLT .increasing ho hid hsz hsm ⟨ab,bs,lim,by omega,by omega,keeps.trans (lS (by omega) (by omega)),by simp[heap,hU],by simp;omega,by simp[t0],by simp[t1],by simp[t2],by simp[t3],by simp[t4],by simp[t10],by simp[t11],by simp[t12],by simp⟩ (by simp[nH]) IH hout hJ
 ·rw[if_neg hd]at hout;have hne:¬ nH hint=2:=by cases hint<;>simp[nH]at hd ⊢
  simp[c207s4,a62,t14,hne];exact aLT hint ho hid hsz hsm ⟨ab,bs,lim,p1,p2,keeps,by simp[heap],by simp;omega,by simp[t0],by simp[t1],by simp[t2],by simp[t3],by simp[t4],by simp[t10],by simp[t11],by simp[t12],by simp[t13]⟩ (by simp[t14]) IH hout hJ
theorem aLU{h:Hp}{n0 id ver:Nat}{tight:Bool}{d G:Array Sp}{a b limit:Nat}{wb wp:Bool}{e:Array Sp}{st:St}{J:St→Prop}(ho:aF h n0)(hid:id<n0)(hsz:d.size≤100000)(hsm:∀ x∈d,small x)
  (ab:a+12<b) (bs:b≤d.size) (lim:limit≤100) (keeps:Keeps d e) (heap:st.heap=aS h id ver e) (nx:n0≤st.nx)
  (t0:st.tmps 0= .one (.ref id ver 0 d.size 2 tight)) (t1:st.tmps 1= .one (.t (I a))) (t2:st.tmps 2= .one (.t (I b))) (t3:st.tmps 3= .one (.t (I limit))) (t4:st.tmps 4= .one (.fn 161 []))
  (t10:st.tmps 10= .one (.t (.bool wb))) (t11:st.tmps 11= .one (.t (.bool wp))) (t12:st.tmps 12= .one (.t (I ((b - a:Nat):Int))))
  (IH:pJ id ver (b - a) tight) (hout:sS e a b limit (Sort.choosePivot ltS e a b).1 (Sort.choosePivot ltS e a b).2 wb wp=G)
  (hJ:∀ (a' b':Nat) (wb' wp':Bool) (e':Array Sp) (st':St),b' - a'<b - a→PI h n0 id ver tight d G a' b' limit wb' wp' e' st'→J st'):
  iH prog false st.nx a61 (nR (kont prog 148 (aJ5 h n0 id ver G) [.thn c207s4,.blk 1,.post J,.blk 0]) (st.nx+10)) 0 st.tmps st.heap:=by
 have hes:=keeps.1;have hdat:Data st.heap id ver e:=by rw[heap];exact bH
 have hc:=aCG st.heap (st.nx+4) id ver a b tight e hdat (by rw[heap];exact aF.more (aF.put ho hid) (by omega)) (by omega) (by omega) (by omega) (by omega) (keeps.2 hsm);have pr:=Sort.choosePivot_holds ltS e a b (by omega);rw[hes]at hc;simp[a61,t0,t1,t2,t4];refine aD.imp hc ?_;generalize Sort.choosePivot ltS e a b=r at*;obtain⟨pv,hint⟩:=r;simp only at pr hout ⊢;simp;exact aR1 hint ho hid hsz hsm ⟨ab,bs,lim,pr.1,pr.2,keeps,by simp[heap],by simp;omega,by simp[t0],by simp[t1],by simp[t2],by simp[t3],by simp[t4],by simp[t10],by simp[t11],by simp[t12],by simp⟩ (by simp) IH hout hJ
theorem aR2{h:Hp}{n0 id ver:Nat}{tight:Bool}{d G:Array Sp}{a b limit:Nat}{wb wp:Bool}{e:Array Sp}{st:St}{J:St→Prop}(ho:aF h n0)(hid:id<n0)(hsz:d.size≤100000)(hsm:∀ x∈d,small x)
  (ab:a+12<b) (bs:b≤d.size) (lim:limit≤100) (h0:¬ limit=0) (keeps:Keeps d e) (heap:st.heap=aS h id ver e) (nx:n0≤st.nx)
  (t0:st.tmps 0= .one (.ref id ver 0 d.size 2 tight)) (t1:st.tmps 1= .one (.t (I a))) (t2:st.tmps 2= .one (.t (I b))) (t3:st.tmps 3= .one (.t (I limit))) (t4:st.tmps 4= .one (.fn 161 []))
  (t10:st.tmps 10= .one (.t (.bool wb))) (t11:st.tmps 11= .one (.t (.bool wp))) (t12:st.tmps 12= .one (.t (I ((b - a:Nat):Int))))
  (IH:pJ id ver (b - a) tight) (hout:aAW e a b limit wb wp=G)
  (hJ:∀ (a' b' limit':Nat) (wb' wp':Bool) (e':Array Sp) (st':St),b' - a'<b - a→PI h n0 id ver tight d G a' b' limit' wb' wp' e' st'→J st'):
  aZ prog 148 (aJ5 h n0 id ver G) c207s2 [.blk 1,.post J,.blk 0] st:=by
 have hes:=keeps.1;have hdat:Data st.heap id ver e:=by rw[heap];exact bH
 have hok:aF st.heap n0:=by rw[heap];exact aF.put ho hid
 have r2:∀ w:Bool,aAW e a b limit w wp=(match w with | true=>sS e a b limit (Sort.choosePivot ltS e a b).1 (Sort.choosePivot ltS e a b).2 true wp | false=>sS (Sort.breakPatterns e a b) a b (limit - 1) (Sort.choosePivot ltS (Sort.breakPatterns e a b) a b).1 (Sort.choosePivot ltS (Sort.breakPatterns e a b) a b).2 false wp):=fun w=>by cases w<;>simp[aAW]
 rw[r2]at hout;cases wb with
 | true=>
  simp only at hout;simp[c207s2,a6Z,t10];exact aLU (st:=⟨_,_,_⟩) (limit:=limit) (wb:=true) (wp:=wp) ho hid hsz hsm ab bs lim keeps heap (Nat.le_trans nx (by simp<;>omega)) t0 t1 t2 t3 t4 t10 t11 t12 IH hout fun a' b' wb' wp' e' st' hlt hpi=>hJ a' b' limit wb' wp' e' st' hlt hpi
 | false=>
  simp only at hout;have kb:Keeps e (Sort.breakPatterns e a b):=kV (by omega) (by omega);have wl:IntKind.i64.wrap ((limit:Int) - 1)=((limit - 1:Nat):Int):=aH _ (by omega) (by omega);simp[c207s2,a6Z,b2p,t10,t0,t1,t2,t4];have hbp:=xM st.heap (st.nx+2+4) id ver a b tight e hdat (aF.more hok (by omega)) (by omega) (by omega) (by omega) (by omega) (.one (.fn 161 [])) rfl;rw[hes]at hbp;generalize Sort.breakPatterns e a b=e1 at*;refine aD.imp hbp ?_;simp[b2q,t3,wl];exact aLU (st:=⟨_,_,_⟩) (limit:=limit - 1) (wb:=false) (wp:=wp) (e:=e1) ho hid hsz hsm ab bs (by omega) (keeps.trans kb) (by rw[heap];exact hU) (Nat.le_trans nx (by simp<;>omega)) t0 t1 t2 rfl t4 t10 t11 t12 IH hout fun a' b' wb' wp' e' st' hlt hpi=>hJ a' b' (limit - 1) wb' wp' e' st' hlt hpi
theorem pJ.less{id ver N M:Nat}{tight:Bool}(h:pJ id ver N tight)(hm:M≤N):pJ id ver M tight:=
 fun h' n0 a b limit d hlt=>h h' n0 a b limit d (by omega)
def PIx(h:Hp)(n0 id ver:Nat)(tight:Bool)(d G:Array Sp)(N k:Nat)(st:St):Prop:=∃ (a b limit:Nat) (wb wp:Bool) (e:Array Sp),k=b - a∧k≤N∧PI h n0 id ver tight d G a b limit wb wp e st
theorem aXJ(id ver:Nat)(tight:Bool):∀ N,pJ id ver N tight:=by
 intro N
 induction N with
 | zero=>intro h n0 a b limit d hlt;omega
 | succ N IH=>
  intro h n0 a0 b0 aLV d aGK hd ho hid aXK hb0 hsz aU1 hsm;refine k207.gQ (by simp) ?_;obtain⟨G,hG⟩:∃ G,G=Sort.pdq ltS d a0 b0 aLV true true:=⟨_,rfl⟩;rw[←hG];simp[c207,b2m,b2n]
  refine W.cU (fun k st=>PIx h n0 id ver tight d G N k st) (b0 - a0)
   ⟨a0,b0,aLV,true,true,d,rfl,by omega,⟨aXK,hb0,aU1,.refl d,by simp[hd.self],by simp<;>omega,hG.symm,by simp,by simp,by simp,by simp,by simp,by simp,by simp⟩⟩ ?_
  rintro k st ⟨a,b,limit,wb,wp,e,hk,hkN,pi⟩;obtain⟨ab,bs,lim,keeps,heap,nx,out,t0,t1,t2,t3,t4,t10,t11⟩:=pi;have hes:=keeps.1;have hdat:Data st.heap id ver e:=by rw[heap];exact bH
  have hok:aF st.heap n0:=by rw[heap];exact aF.put ho hid
  obtain⟨l,hl⟩:∃ l:Nat,l=b - a:=⟨_,rfl⟩;have w1:IntKind.i64.wrap ((b:Int) - a)=(l:Int):=aH _ (by omega) (by omega);rw[rK]at out;rw[c207b31_eq]
  by_cases h12:b - a≤12
  ·rw[if_pos h12]at out;have aOQ:(l:Int)≤12:=by omega
   simp[a3i,a3j,a6X,t0,t1,t2,t4,w1,aOQ];have hi:=aGG st.heap (st.nx+4+2+4) id ver a b tight e hdat (aF.more hok (by omega)) (by omega) (by omega) (by omega) (by omega) (keeps.2 hsm);rw[hes]at hi;refine aD.imp hi ?_;simp;exact fJ (.inr rfl) rfl (by simp[heap,hU,out]) (aF.put ho hid)
  ·rw[if_neg h12]at out;have aOQ:¬ (l:Int)≤12:=by omega
   by_cases h0:limit=0
   ·rw[if_pos h0]at out;subst h0;simp[a3i,a3j,a6Y,b2o,t0,t1,t2,t3,t4,w1,aOQ];have hi:=aJ2 st.heap (st.nx+4+2+2+4) id ver a b tight e hdat (aF.more hok (by omega)) (by omega) (by omega) (by omega) (by omega) (keeps.2 hsm);rw[hes]at hi;refine aD.imp hi ?_;simp;exact fJ (.inr rfl) rfl (by simp[heap,hU,out]) (aF.put ho hid)
   ·rw[if_neg h0]at out;have h0I:¬ (limit:Int)=0:=by omega
    have IH':pJ id ver (b - a) tight:=IH.less (by omega);simp[a3i,a3j,a6Y,t1,t2,t3,w1,aOQ,h0];refine aR2 (limit:=limit) (wb:=wb) (wp:=wp) ho hid hsz hsm (by omega) bs lim h0 keeps (by simp[heap]) (by simp;omega) (by simp[t0]) (by simp[t1]) (by simp[t2]) (by simp[t3]) (by simp[t4]) (by simp[t10]) (by simp[t11]) (by simp[hl]) IH' out fun a' b' limit' wb' wp' e' st' hlt hpi=>?_
    exact⟨b' - a',by omega,a',b',limit',wb',wp',e',rfl,by omega,hpi⟩
theorem aJ6(h:Hp)(n0 id ver:Nat)(tight:Bool)(d:Array Sp)(hd:Data h id ver d)(ho:aF h n0)(hid:id<n0)(hsz:d.size≤100000)(hsm:∀ x∈d,small x):
  ISp prog 160 h n0 [.one (.ref id ver 0 d.size 2 tight),.one (.fn 161 [])] (.tup []) (aS h id ver (Sort.sort ltS d)):=by
 refine k160.gQ (by simp) ?_;have w:IntKind.u64.wrap (d.size:Int)=(d.size:Int):=iT (by omega) (by omega);have hb:Sort.bitsLen d.size≤17:=(Sort.bitsLen_le_iff d.size 17).2 (by omega);simp[c160,b2k,b2l,D.dO,D.isInt,w];refine aD.pure (xL d.size hsz) (by simp) (by simp) ?_;simp;refine aD.imp (aXJ id ver tight (d.size+1) h _ 0 d.size (Sort.bitsLen d.size) d (by omega) hd (aF.more ho (by omega)) (by omega) (by omega) (Nat.le_refl _) hsz (by omega) hsm) ?_;exact fJ (.inl rfl) rfl rfl (aF.put ho hid)
theorem aU2:PSp prog 244 [.one (.t (spans [])),.one (.t (I 0)),.one (.t (I 0)),.one (.fn 161 [])] (.tup []):=by
 refine k244.aI (by simp) (by simp[D.closed,A.closed]) rfl ?_;have w:IntKind.i64.wrap 1=1:=wrap_i64 (by omega) (by omega);simp[c244,b2J,w];refine W.cU (fun _ st=>st.tmps 2= .one (.t (I 0))∧st.tmps 8= .one (.t (I 1))∧st.heap=jM) 0 ⟨by simp,by simp,by simp⟩ ?_;rintro k st ⟨h2,h8,hh⟩;simp[a7a,a68,h2,h8,aC]
theorem aU3:PSp prog 207 [.one (.t (spans [])),.one (.t (I 0)),.one (.t (I 0)),.one (.t (I 0)),.one (.fn 161 [])] (.tup []):=by
 refine k207.aI (by simp) (by simp[D.closed,A.closed]) rfl ?_;simp[c207,b2m,b2n];refine W.cU (fun _ st=>st.tmps 0= .one (.t (spans []))∧st.tmps 1= .one (.t (I 0))∧st.tmps 2= .one (.t (I 0))∧st.tmps 4= .one (.fn 161 [])∧st.heap=jM) 0 ⟨by simp,by simp,by simp,by simp,by simp⟩ ?_;rintro k st ⟨h0,h1,h2,h4,hh⟩;have w:IntKind.i64.wrap 0=0:=wrap_i64 (by omega) (by omega);simp[b2I,a3i,a3j,a6X,h0,h1,h2,h4,hh,w];refine aD.pure aU2 (by simp) (by simp) ?_;simp[aC]
theorem aR3:PSp prog 160 [.one (.t (spans [])),.one (.fn 161 [])] (.tup []):=by
 refine k160.aI (by simp) (by simp[D.closed,A.closed]) rfl ?_;have w:IntKind.u64.wrap 0=0:=iT (by omega) (by omega);have hb:=xL 0 (by omega);have e:Sort.bitsLen 0=0:=rfl;rw[e]at hb;simp[c160,b2k,b2l,D.dO,D.isInt,w,spans];refine aD.pure hb (by simp) (by simp) ?_;simp;refine aD.pure aU3 (by simp) (by simp[spans]) ?_;simp[aC]
def bad(x:Sp):Bool:=decide (x.2<x.1)||decide (x.1< -1152921504606846976)||decide (1152921504606846976<x.2)
def eU(n:Int):List Int→List Int
 | []=>[n]
 | x::r=>if x<n then x::eU n r else if x=n then x::r else n::x::r
theorem aHL{n:Int}:∀ (out:List Int) (at':Nat),at'≤out.length→(∀x∈out.take at',x<n)→(∀y,out[at']? =some y→¬y<n)→eU n out=if out[at']? =some n then out else out.take at'++n::out.drop at'
 | [],0,_,_,_=>by simp[eU]
 | x::r,0,_,_,h=>by
  have:=h x rfl
  by_cases e:x=n
  ·simp[eU,e]
  ·simp[eU,this,e]
 | x::r,k+1,h1,h2,h3=>by
  have hx:x<n:=h2 x (by simp);have ih:=aHL r k (by simpa using h1) (fun y hy=>h2 y (by simp[hy])) (fun y hy=>h3 y (by simpa using hy));simp only[eU,hx,if_true,ih];simp only[List.getElem?_cons_succ,List.take_succ_cons,List.drop_succ_cons,List.cons_append];split<;>rfl
theorem sT(n:Int):∀ l:List Int,(eU n l).length≤l.length+1
 | []=>by simp[eU]
 | x::r=>by
  have:=sT n r;unfold eU;split
  ·simp;omega
  ·split<;>simp
def cQ(l:List Sp):List Int:=l.foldl (fun out x=>eU (x.2+1) (eU x.1 out)) []
theorem aEJ(l:List Sp)(x:Sp):cQ (l++[x])=eU (x.2+1) (eU x.1 (cQ l)):=by simp[cQ]
theorem xQ(l:List Sp):(cQ l).length≤2*l.length:=by
 have:∀ (l:List Sp) (o:List Int),(l.foldl (fun out x=>eU (x.2+1) (eU x.1 out)) o).length≤o.length+2*l.length:=by
  intro l
  induction l with
  | nil=>intro o;simp
  | cons x r ih=>
   intro o;have h1:=ih (eU (x.2+1) (eU x.1 o));have h2:=sT (x.2+1) (eU x.1 o);have h3:=sT x.1 o;simp only[List.foldl_cons,List.length_cons];omega
 simpa[cQ]using this l []
def intz(l:List Int):T:= .rows 1 (l.map fun n=>[I n])
def pK(d:D)(l:List Int):Prop:=d= .one (.t (intz l))∨(l=[]∧d= .one (.tt 1 []))
def aHM:aB:=(.seq (.seq (.region 3 false 1 a5u) (.block 0 (.loop a1D))) (.seq (.region 17 false 2 a3r) .ret))
theorem xR(o:List Int)(i m:Nat):∀ r∈List.drop i (List.take m (o.map fun x=>[A.t (I x)])),∀x∈r,x.mI=true:=by
 intro r hr x hx;have:=List.mem_of_mem_take (List.mem_of_mem_drop hr);obtain⟨y,_,rfl⟩:=List.mem_map.1 this;simp at hx;subst hx;rfl
def aU4:aB:=(.seq (.block 4 (.loop a3o)) (.seq (.region 15 false 12 a3p) (.cond (X.tmp 64) (.region 16 true 12 a3q) .skip)))
theorem aEK{n:Nat}{A:Exit→St→Prop}{ks:List KF}{nx nx':Nat}{tm:Nat→D}{h0:Hp}(o:List Int)(ho:o.length≤3000)(n0:Int)(h5:pK (tm 5) o)(h9:tm 9= .one (.t (I n0)))
  (K:∀ st':St,st'.heap=h0→st'.tmps 6=tm 6→st'.tmps 7=tm 7→st'.tmps 8=tm 8→pK (st'.tmps 5) (eU n0 o)→cX prog n A ks .normal st'):
  iH prog false nx a7C (nR (kont prog n A (.thn aU4::ks)) nx') 0 tm h0:=by
 simp[a7C,aU4];refine W.cU (fun k st=>st.heap=h0∧st.tmps 5=tm 5∧st.tmps 6=tm 6∧st.tmps 7=tm 7∧st.tmps 8=tm 8∧st.tmps 9=tm 9∧∃i:Nat,k=o.length - i∧i≤o.length∧st.tmps 10= .one (.t (I i))∧∀x∈o.take i,x<n0) o.length ⟨rfl,by simp,by simp,by simp,by simp,by simp,0,by simp,by simp,by simp,by simp⟩ ?_;rintro k st ⟨hh,e5,e6,e7,e8,e9,i,hk,hi,h10,hall⟩;have hat:=aHL (n:=n0) o i hi hall;rcases Nat.lt_or_ge i o.length with hlt | hge
 ·rcases h5 with h5 | ⟨rfl,_⟩
  case inr=>simp at hlt
  rw[h5]at e5;have hw:IntKind.i64.wrap ((i:Int)+1)=(i:Int)+1:=wrap_i64 (by omega) (by omega);simp[a3o,a5w,e5,e9,h9,h10,intz,hlt];refine⟨fun q=>?_,fun q=>?_⟩
  ·simp[b33,h10,hw,hh,e5,e6,e7,e8,e9,h5,h9,intz];refine⟨o.length - (i+1),by omega,i+1,rfl,hlt,rfl,fun x hx=>?_⟩;rw[List.take_add_one,gE9 hlt]at hx;rcases List.mem_append.1 hx with hx | hx
   ·exact hall x hx
   ·simp at hx;omega
  ·have hat':=hat (fun y hy=>by rw[gE9 hlt]at hy;simp at hy;omega);rw[gE9 hlt]at hat';have hne:¬ (i:Int)=o.length:=by omega
   simp[a3p,e5,e9,h9,h10,intz,hlt,hne];refine⟨fun e=>?_,fun e=>?_⟩
   ·have e':eU n0 o=o.take i++n0::o.drop i:=by rw[hat',if_neg (by simpa using e)]
    have q1:((i:Int)≤o.length):=by omega
    simp[a3q,e5,e9,h9,h10,intz,Function.comp_def,q1,aD9];refine⟨⟨by omega,xR o i o.length⟩,⟨by omega,xR o i o.length⟩,?_⟩;refine K _ hh (by simp[e6]) (by simp[e7]) (by simp[e8]) ?_;left;have e9':List.take o.length (o.map fun n=>[I n])=o.map fun n=>[I n]:=List.take_of_length_le (by simp)
    simp[e',intz,List.map_take,List.map_drop,e9']
   ·have e':eU n0 o=o:=by rw[hat',if_pos (by simpa using e)]
    exact K _ hh (by simp[e6]) (by simp[e7]) (by simp[e8]) (by simp[e5,e',pK])
 ·have:i=o.length:=by omega
  subst this;have hat':=hat (fun y hy=>by simp at hy);simp at hat';rcases h5 with h5 | ⟨rfl,h5⟩
  ·rw[h5]at e5;simp[a3o,a5w,a3p,e5,e9,h9,h10,intz];simp[a3q,e5,e9,h9,h10,intz];refine⟨by omega,K _ hh (by simp[e6]) (by simp[e7]) (by simp[e8]) ?_⟩;left;have e9':List.take o.length (o.map fun n=>[I n])=o.map fun n=>[I n]:=List.take_of_length_le (by simp)
   simp[hat',intz,e9']
  ·rw[h5]at e5;simp[a3o,a5w,a3p,e5,e9,h9,h10];simp[a3q,e5,e9,h9,h10];refine K _ hh (by simp[e6]) (by simp[e7]) (by simp[e8]) ?_;left;simp[eU,intz]
theorem xS{n:Nat}(all:List Sp)(hlen:all.length≤1000)(hok:∀ x∈all,bad x=false)(id ver:Nat)(h0:Hp)(ha:alive h0 id ver)(hr:h0.rows id=all.map fun x=>(spr x).map .t)(hz:h0.sz id=2)
  (st:St) (hst:st.heap=h0) (h6:st.tmps 6= .one (.ref id ver 0 all.length 2 false)) (h5:pK (st.tmps 5) []):
  aZ prog n (aC [RV.tmp 4] (.one (.t (intz (cQ all))))) aHM [] st:=by
 simp[aHM,a5u,hst];refine W.cU (fun k st=>st.heap=h0∧∃i:Nat,k=all.length - i∧i≤all.length∧st.tmps 6= .one (.ref id ver 0 all.length 2 false)∧st.tmps 7= .one (.t (I i))∧pK (st.tmps 5) (cQ (all.take i))) all.length ⟨rfl,0,by simp,by simp,by simpa using h6,by simp,by simpa[cQ]using h5⟩ ?_;rintro k st ⟨hh,i,hk,hi,h6,h7,h5⟩;rcases Nat.lt_or_ge i all.length with hlt | hge
 ·have hx:=hok all[i] (gL9 hlt);simp[bad]at hx;have hw:IntKind.i64.wrap ((i:Int)+1)=(i:Int)+1:=wrap_i64 (by omega) (by omega);have hw2:IntKind.i64.wrap (all[i].2+1)=all[i].2+1:=wrap_i64 (by omega) (by omega);have hE:=xQ (all.take i);have hE':(cQ (all.take i)).length≤2000:=by simp at hE;omega
  have hnext:cQ (all.take (i+1))=eU (all[i].2+1) (eU all[i].1 (cQ (all.take i))):=by
   rw[List.take_add_one,gE9 hlt];exact aEJ _ _
  generalize cQ (all.take i)=E at h5 hE' hnext;simp[a1D,a3n,b31,h6,h7,hh,hlt];refine W.cU (fun k st=>st.heap=h0∧∃kk:Nat,k=2 - kk∧kk≤2∧st.tmps 6= .one (.ref id ver 0 all.length 2 false)∧st.tmps 7= .one (.t (I i))∧st.tmps 8= .one (.t (I kk))∧pK (st.tmps 5) (if kk=0 then E else if kk=1 then eU all[i].1 E else eU (all[i].2+1) (eU all[i].1 E))) 2 ⟨rfl,0,by simp,by simp,by simpa using h6,by simpa using h7,by simp,by simpa using h5⟩ ?_;clear h5 h6 h7 hh st;rintro k1 st ⟨hh,kk,hk1,hkk,h6,h7,h8,h5⟩;have hl1:=sT all[i].1 E;rcases(show kk=0∨kk=1∨kk=2 by omega)with rfl | rfl | rfl
  ·simp at h5;simp[a5x,a5v,a7A,a7B,h6,h7,h8,hh,hlt,ha,hr,hz,spr];refine aEK E (by omega) all[i].1 (by simpa using h5) (by simp) fun st' q1 q2 q3 q4 q5=>?_
   simp[a7D,q1,q2,q3,q4,h6,h7,h8];exact⟨1,by omega,1,rfl,by omega,wrap_i64 (by omega) (by omega),by simpa using q5⟩
  ·simp at h5;simp[a5x,a5v,a7A,a7B,b32,h6,h7,h8,hh,hlt,ha,hr,hz,spr,hw2];refine aEK (eU all[i].1 E) (by omega) (all[i].2+1) (by simpa using h5) (by simp) fun st' q1 q2 q3 q4 q5=>?_
   simp[a7D,q1,q2,q3,q4,h6,h7,h8];exact⟨0,by omega,2,rfl,by omega,wrap_i64 (by omega) (by omega),by simpa using q5⟩
  ·simp at h5;simp[a5x,a5v,b34,h6,h7,h8,hh,hw];exact⟨all.length - (i+1),by omega,i+1,rfl,hlt,rfl,by rw[hnext];exact h5⟩
 ·have:i=all.length:=by omega
  subst this;simp at h5;rcases h5 with h5 | ⟨e,h5⟩
  ·simp[a1D,a3n,a3r,h6,h7,hh,h5,aC,intz]
  ·simp[a1D,a3n,a3r,h6,h7,hh,h5,aC,e,intz]
theorem aR4(a b:List Sp)(ha:a.length≤400)(hb:b.length≤400)(hok:∀ x∈a++b,bad x=false):PSp prog 87 [.one (.t (spans a)),.one (.t (spans b))] (.one (.t (intz (cQ (a++b))))):=by
 refine k87.aI (by simp) rfl rfl ?_;have hc:c87= .seq (.region 0 false 1 a3k) (.seq (.region 1 false 1 a3l) (.seq (.region 2 false 6 a3m) aHM)):=rfl;rw[hc];cases a with
 | nil=>
  cases b with
  | nil=>
   simp[a3k,a3l,a3m,spans,aHM,a5u];refine W.cU (fun k st=>st.tmps 6= .one (.tt 2 [])∧st.tmps 7= .one (.t (I 0))∧st.tmps 5= .one (.tt 1 [])) 0 ⟨by simp,by simp,by simp⟩ ?_;rintro k st ⟨h6,h7,h5⟩;simp[a1D,a3n,a3r,h6,h7,h5,aC,cQ,intz]
  | cons y b=>
   simp[a3k,a3l,a3m,spans];simp at hb ha;exact⟨by omega,xS (y::b) (by simp;omega) (by simpa using hok) 6 0 _ (by simp) (by simp[Function.comp_def]) (by simp) _ rfl (by simp) (by simp[pK])⟩
 | cons x a=>
  simp[a3k,a3l,a3m,spans];simp at hb ha;refine⟨by omega,by omega,?_⟩;have:=xS (n:=77) (x::(a++b)) (by simp;omega) (by simpa using hok) 4 1;exact this _ (by simp) (by simp[Function.comp_def]) (by simp) _ rfl (by simp;omega) (by simp[pK])
def eD(op:Int)(x y:Bool):Bool:=(op==0&&(x||y))||(op==1&&(x&&y))||(op==2&&(x&& !y))
theorem aLW{n:Nat}{A:Exit→St→Prop}{ks:List KF}{nx nx':Nat}{tm:Nat→D}{h0:Hp}(op:Int)(x y:Bool)(e0:tm 0= .one (.t (I op)))(e10:tm 10= .one (.t (.bool x)))(e11:tm 11= .one (.t (.bool y)))
  (K:∀ tm':Nat→D,tm' 0=tm 0→tm' 1=tm 1→tm' 2=tm 2→tm' 7=tm 7→tm' 8=tm 8→tm' 9=tm 9→tm' 12= .one (.t (.bool (eD op x y)))→cX prog n A ks .normal ⟨tm',h0,nx'⟩):
  iH prog false nx a1E (nR (kont prog n A ks) nx') 0 tm h0:=by
 by_cases o0:op=0
 ·subst o0;cases x<;>cases y<;>simp[a1E,e0,e10,e11]<;>exact K _ (by simp) (by simp) (by simp) (by simp) (by simp) (by simp) (by simp[eD])
 by_cases o1:op=1
 ·subst o1;cases x<;>cases y<;>simp[a1E,e0,e10,e11]<;>exact K _ (by simp) (by simp) (by simp) (by simp) (by simp) (by simp) (by simp[eD])
 by_cases o2:op=2
 ·subst o2;cases x<;>cases y<;>simp[a1E,e0,e10,e11]<;>exact K _ (by simp) (by simp) (by simp) (by simp) (by simp) (by simp) (by simp[eD])
 have q0:(op==0)=false:=by simpa using o0
 have q1:(op==1)=false:=by simpa using o1
 have q2:(op==2)=false:=by simpa using o2
 cases x<;>cases y<;>simp[a1E,e0,e10,e11,q0,q1,q2]<;>exact K _ (by simp) (by simp) (by simp) (by simp) (by simp) (by simp) (by simp[eD,o0,o1,o2])
def eG(op:Int)(a b acc:List Sp)(u v:Int):List Sp:=
 if eD op (inS a u) (inS b u)then
  match acc.getLast? with
  | some z=>if z.2+1=u then acc.dropLast++[(z.1,v - 1)] else acc++[(u,v - 1)]
  | none=>[(u,v - 1)]
 else acc
def gS(op:Int)(a b:List Sp):List Sp→List Int→List Sp
 | acc,u::v::r=>gS op a b (eG op a b acc u v) (v::r)
 | acc,_=>acc
def aAY(d:D)(h:Hp)(nx:Nat)(acc:List Sp):Prop:=
 (acc=[]∧d= .one (.tt 2 []))∨(acc≠[]∧∃id ver,id<nx∧d= .one (.ref id ver 0 acc.length 2 false)∧alive h id ver∧h.rows id=(acc.map fun x=>(spr x).map .t)∧h.sz id=2∧h.shut id=false)
theorem aJ7{op:Int}{a b acc:List Sp}:∀ {l:List Int},l.length≤1→gS op a b acc l=acc
 | [],_=>rfl
 | [_],_=>rfl
 | _::_::_,h=>by simp at h
theorem aLX{op:Int}{a b acc:List Sp}{l:List Int}{i:Nat}(h:i+1<l.length):gS op a b acc (l.drop i)=gS op a b (eG op a b acc l[i] l[i+1]) (l.drop (i+1)):=by
 rw[List.drop_eq_getElem_cons (show i<l.length by omega),List.drop_eq_getElem_cons h];rfl
theorem lD{h:Hp}{id ver sz:Nat}{t:Bool}{rs:List (List T)}(hr:h.rows id=rs.map (·.map .t)):(A.ref id ver 0 rs.length sz t).frz h aT= .rows sz rs:=by
 simp[aT,A.frz,hr,List.take_of_length_le,Function.comp_def]
theorem iU{h:Hp}{id ver sz:Nat}{t:Bool}{rs:List (List T)}(ha:alive h id ver)(hz:h.sz id=sz)(hr:h.rows id=rs.map (·.map .t)):(A.ref id ver 0 rs.length sz t).cE h aT:=by
 refine⟨ha,hz,by simp[hr],fun r hr' x hx=>?_⟩;rw[hr]at hr';have:=List.mem_of_mem_drop (List.mem_of_mem_take hr');obtain⟨y,_,rfl⟩:=List.mem_map.1 this;obtain⟨z,_,rfl⟩:=List.mem_map.1 hx;simp
theorem sU{n y:Int}:∀ {l:List Int},y∈eU n l→y=n∨y∈l
 | [],h=>by simpa[eU]using h
 | x::r,h=>by
  unfold eU at h;split at h
  ·rcases List.mem_cons.1 h with h | h
   ·simp[h]
   ·rcases sU h with h | h<;>simp[h]
  ·split at h
   ·exact .inr h
   ·rcases List.mem_cons.1 h with h | h
    ·exact .inl h
    ·exact .inr h
theorem aGL{l:List Sp}{y:Int}:y∈cQ l→∃x∈l,y=x.1∨y=x.2+1:=by
 have:∀ (l:List Sp) (o:List Int),y∈l.foldl (fun out x=>eU (x.2+1) (eU x.1 out)) o→y∈o∨∃x∈l,y=x.1∨y=x.2+1:=by
  intro l
  induction l with
  | nil=>intro o h;exact .inl h
  | cons x r ih=>
   intro o h;rcases ih _ h with h | ⟨z,hz,h⟩
   ·rcases sU h with h | h
    ·exact .inr ⟨x,by simp,.inr h⟩
    ·rcases sU h with h | h
     ·exact .inr ⟨x,by simp,.inl h⟩
     ·exact .inl h
   ·exact .inr ⟨z,by simp[hz],h⟩
 intro h;rcases this l [] h with h | h
 ·simp at h
 ·exact h
theorem aAY.mono{d:D}{h:Hp}{nx nx':Nat}{acc:List Sp}(ho:aAY d h nx acc)(hn:nx≤nx'):aAY d h nx' acc:=by
 rcases ho with ho | ⟨h1,id,ver,h2,h3⟩
 ·exact .inl ho
 ·exact .inr ⟨h1,id,ver,by omega,h3⟩
theorem aEL(op:Int)(a b:List Sp)(ha:a.length≤400)(hb:b.length≤400)(hok:∀ x∈a++b,bad x=false):
  PSp prog 38 [.one (.t (I op)),.one (.t (spans a)),.one (.t (spans b))] (.one (.t (spans (gS op a b [] (cQ (a++b)))))):=by
 refine k38.aI (by simp) rfl rfl ?_;simp[c38,b35,b36];refine aD.pure (aR4 a b ha hb hok) (by simp) (by simp) ?_;have hl:(cQ (a++b)).length≤1600:=by have:=xQ (a++b);simp at this;omega
 have hm:∀ y∈cQ (a++b),-1152921504606846976≤y∧y≤1152921504606846977:=fun y hy=>by
  obtain⟨x,hx,h⟩:=aGL hy;have:=hok x hx;simp[bad]at this;omega
 generalize cQ (a++b)=l at hl hm;simp[b37,b38]
 refine W.cU (fun k st=>∃ (i:Nat) (acc:List Sp),k=l.length - i∧i≤l.length∧st.tmps 0= .one (.t (I op))∧st.tmps 1= .one (.t (spans a))∧st.tmps 2= .one (.t (spans b))∧st.tmps 7= .one (.t (intz l))∧st.tmps 9= .one (.t (I i))∧
  aAY (st.tmps 8) st.heap st.nx acc∧gS op a b [] l=gS op a b acc (l.drop i)∧acc.length≤i∧∀z∈acc,-1152921504606846977≤z.2∧z.2≤1152921504606846976) l.length
  ⟨0,[],by simp,by simp,by simp,by simp,by simp,by simp,by simp,by simp[aAY],by simp,by simp,by simp⟩ ?_
 rintro k st ⟨i,acc,hk,hi,h0,h1,h2,h7,h9,h8,hc,hacc,hbd⟩;have hw:IntKind.i64.wrap ((i:Int)+1)=(i:Int)+1:=wrap_i64 (by omega) (by omega);rcases Nat.lt_or_ge (i+1) l.length with hlt | hge
 ·have aGK:i<l.length:=by omega
  have fO:(i:Int)+1<l.length:=by omega
  rw[hc,aLX hlt];simp[a7I,a7E,b39,h1,h7,h9,hw,intz,aGK,fO];refine aD.draw (InP a l[i] (by omega)) (by simp) (by simp) (by simp) ?_;simp[h2,h7,h9,intz,aGK];refine aD.draw (InP b l[i] (by omega)) (by simp) (by simp) (by simp) ?_;simp;refine aLW op (inS a l[i]) (inS b l[i]) (by simpa using h0) (by simp) (by simp) fun tm' p0 p1 p2 p7 p8 p9 p12=>?_
  simp[h0,h1,h2,h7,h9]at p0 p1 p2 p7 p8 p9;rw[←p8]at h8
  by_cases hs:eD op (inS a l[i]) (inS b l[i])=true
  ·simp[a7F,b4a,p12,hs];have hu:=hm l[i] (gL9 aGK);have hv:=hm l[i+1] (gL9 hlt);have hw2:IntKind.i64.wrap (l[i+1] - 1)=l[i+1] - 1:=wrap_i64 (by omega) (by omega);have hn1:((i:Int)+1).toNat=i+1:=by omega
   rcases h8 with⟨rfl,h8⟩ | ⟨hne,id,ver,hid,h8,q1,q2,q3,q4⟩
   ·simp[h8,a7G];simp[a7H,a3s,h8,p0,p1,p2,p7,p9,intz,hw,aGK,fO,hn1,hlt,hw2];refine⟨by omega,l.length - (i+1),by omega,i+1,rfl,by omega,rfl,[(l[i],l[i+1] - 1)],?_,by simp[eG,hs],by simp,by simp;omega⟩;simp[aAY,spr];exact⟨_,by omega,0,⟨rfl,rfl⟩,by simp,by simp,by simp,by simp⟩
   ·obtain⟨acc',z,rfl⟩:∃ acc' z,acc=acc'++[z]:=by
     rcases List.eq_nil_or_concat acc with e | ⟨x,y,e⟩
     ·exact absurd e hne
     ·exact⟨x,y,by simpa using e⟩
    have hz:=hbd z (by simp);have hlen:acc'.length+1≤i:=by simpa using hacc
    have hw3:IntKind.i64.wrap (acc'.length:Int)=acc'.length:=wrap_i64 (by omega) (by omega);have hw4:IntKind.i64.wrap (z.2+1)=z.2+1:=wrap_i64 (by omega) (by omega);have hg:(st.heap.rows id)[acc'.length]? =some ((spr z).map .t):=by rw[q2];simp
    have hgE:∀ hh:acc'.length<(st.heap.rows id).length,(st.heap.rows id)[acc'.length]'hh=(spr z).map .t:=fun hh=>by simp[q2]
    have hln:(st.heap.rows id).length=acc'.length+1:=by rw[q2];simp
    simp[h8,a7G,hw3,q1,q3,hgE,hln,hw4,p7,p9,intz,aGK,spr];refine⟨by omega,fun heq=>?_,fun hneq=>?_⟩
    ·simp[b4b,a3s,h8,p0,p1,p2,p7,p9,intz,hw,hw2,hw3,fO,hn1,hlt,q1,q3,q4,hgE,hln,spr];refine⟨by omega,by omega,l.length - (i+1),by omega,i+1,rfl,by omega,rfl,acc'++[(z.1,l[i+1] - 1)],.inr ⟨by simp,id,ver,by omega,by simp,by simp,?_,by simp,by simp⟩,by simp[eG,hs,heq],by simp;omega,fun x y hxy=>?_⟩
     ·rw[dP,if_pos rfl,q2];simp[spr]
     ·rcases List.mem_append.1 hxy with h | h
      ·exact hbd (x,y) (by simp[h])
      ·simp at h;omega
    ·simp[a7H,a3s,h8,p0,p1,p2,p7,p9,intz,hw,hw2,aGK,fO,hn1,hlt,q1,q3,hln];refine⟨by omega,by omega,l.length - (i+1),by omega,i+1,rfl,by omega,rfl,acc'++[z]++[(l[i],l[i+1] - 1)],.inr ⟨by simp,id,ver+1,by omega,by simp,by simp,?_,by simp,?_⟩,by simp[eG,hs,hneq],by simp;omega,fun x y hxy=>?_⟩
     ·rw[dP,if_pos rfl,q2];simp[spr]
     ·rw[aD7,if_pos rfl,q4]
     ·rcases List.mem_append.1 hxy with h | h
      ·exact hbd (x,y) h
      ·simp at h;omega
  ·simp[a7F,a3s,p12,hs,p0,p1,p2,p7,p9,hw,intz];exact⟨l.length - (i+1),by omega,i+1,rfl,by omega,rfl,acc,h8.mono (by omega),by simp[eG,hs],by omega,by simpa using hbd⟩
 ·rw[hc,aJ7 (by simp;omega)];have fO:¬ (i:Int)+1<l.length:=by omega
  simp[a7I,a7E,b4c,h7,h9,hw,intz,fO,aC];rcases h8 with⟨rfl,h8⟩ | ⟨_,id,ver,_,h8,q1,q2,q3,q4⟩
  ·simp[h8,spans]
  ·have e1:(acc.map spr).length=acc.length:=by simp
   rw[h8,←e1];have q2':st.heap.rows id=(acc.map spr).map (·.map .t):=by rw[q2];simp[Function.comp_def]
   refine⟨iU q1 q3 q2',?_⟩;simp only[lD q2',spans]
def Gap:List Sp→Prop
 | []=>True
 | x::r=>x.1≤x.2∧(∀y∈r,x.2+1<y.1)∧Gap r
theorem eY{x:Sp}{l:List Sp}{n:Int}:inS (x::l) n=(decide (x.1≤n∧n≤x.2)||inS l n):=by simp[inS]
theorem hX{n:Int}:inS [] n=false:=rfl
theorem fP{a b:List Sp}{n:Int}:inS (a++b) n=(inS a n||inS b n):=by simp[inS]
theorem fM{l:List Sp}{n:Int}:inS l n=true↔∃x∈l,x.1≤n∧n≤x.2:=by simp[inS]
theorem nI{l:List Sp}{n:Int}:inS l n=false↔∀x∈l,¬(x.1≤n∧n≤x.2):=by
 rw[←Bool.not_eq_true,fM];constructor
 ·intro h x hx hh;exact h ⟨x,hx,hh⟩
 ·rintro h ⟨x,hx,hh⟩;exact h x hx hh
theorem Gap.tail{x:Sp}{l:List Sp}(h:Gap (x::l)):Gap l:=h.2.2
theorem Gap.valid:∀ {l:List Sp},Gap l→∀x∈l,x.1≤x.2
 | [],_,x,hx=>by cases hx
 | y::l,h,x,hx=>by
  rcases List.mem_cons.1 hx with rfl | hx
  ·exact h.1
  ·exact Gap.valid h.2.2 x hx
theorem aAZ{x:Sp}{l:List Sp}(h:Gap (x::l)){n:Int}(hn:inS (x::l) n=true):x.1≤n:=by
 obtain⟨y,hy,h1,h2⟩:=fM.1 hn;rcases List.mem_cons.1 hy with rfl | hy
 ·exact h1
 ·have:=h.2.1 y hy;have:=h.1;omega
theorem sV{x:Sp}{l:List Sp}(h:Gap (x::l)):inS (x::l) x.1=true:=fM.2 ⟨x,by simp,by omega,h.1⟩
theorem rL{x:Sp}{l:List Sp}(h:Gap (x::l)){n:Int}(h1:n≤x.2+1):inS l n=false:=nI.2 fun y hy=>by
 have:=h.2.1 y hy;omega
theorem rM:∀ {a b:List Sp},Gap a→Gap b→(∀n,inS a n=inS b n)→a=b
 | [],[],_,_,_=>rfl
 | [],y::b,_,hb,h=>by have:=h y.1;rw[sV hb]at this;simp[inS]at this
 | x::a,[],ha,_,h=>by have:=h x.1;rw[sV ha]at this;simp[inS]at this
 | x::a,y::b,ha,hb,h=>by
  have e1:x.1=y.1:=by
   have h1:=aAZ hb (n:=x.1) (by rw[←h];exact sV ha);have h2:=aAZ ha (n:=y.1) (by rw[h];exact sV hb);omega
  have side:∀ {x y:Sp} {a b:List Sp},Gap (x::a)→Gap (y::b)→(∀n,inS (x::a) n=inS (y::b) n)→x.1=y.1→y.2≤x.2:=fun{x y a b} ha hb h e=>by
   by_cases hlt:x.2<y.2
   ·have h1:=ha.1;have q1:inS (y::b) (x.2+1)=true:=fM.2 ⟨y,by simp,by omega,by omega⟩;rw[←h,eY,rL ha (by omega)]at q1;simp at q1;omega
   ·omega
  have e2:x.2=y.2:=by
   have h1:=side ha hb h e1;have h2:=side hb ha (fun n=>(h n).symm) e1.symm;omega
  have exy:x=y:=Prod.ext e1 e2;subst exy
  have:=rM ha.tail hb.tail fun n=>by
   by_cases hlt:x.2+1<n
   ·have:=h n;rw[eY,eY]at this;have hd:decide (x.1≤n∧n≤x.2)=false:=by simp;omega
    rw[hd]at this;simpa using this
   ·rw[rL ha (by omega),rL hb (by omega)]
  rw[this]
theorem nJ{a:List Sp}{z:Sp}:Gap (a++[z])↔Gap a∧z.1≤z.2∧∀y∈a,y.2+1<z.1:=by
 induction a with
 | nil=>simp[Gap]
 | cons x a ih=>
  simp only[List.cons_append,Gap,ih,List.mem_append,List.mem_cons,List.not_mem_nil,or_false];constructor
  ·rintro⟨h1,h2,h3,h4,h5⟩;refine⟨⟨h1,fun y hy=>h2 y (.inl hy),h3⟩,h4,?_⟩;rintro y (rfl | hy)
   ·exact h2 z (.inr rfl)
   ·exact h5 y hy
  ·rintro⟨⟨h1,h2,h3⟩,h4,h5⟩;refine⟨h1,?_,h3,h4,fun y hy=>h5 y (.inr hy)⟩;rintro y (hy | rfl)
   ·exact h2 y hy
   ·exact h5 x (.inl rfl)
def dJ(acc:List Sp)(s:Sp):List Sp:=
 match acc.getLast? with
 | some z=>if s.1≤z.2+1 then acc.dropLast++[(z.1,max z.2 s.2)] else acc++[s]
 | none=>[s]
def mR(l:List Sp):List Sp:=l.foldl dJ []
theorem qQ{a:List Sp}{z s:Sp}:dJ (a++[z]) s=if s.1≤z.2+1 then a++[(z.1,max z.2 s.2)] else a++[z]++[s]:=by simp[dJ]
theorem aB0:∀ (l acc:List Sp),Gap acc→(∀z∈acc,∀s∈l,z.1≤s.1)→l.Pairwise (fun x y=>x.1≤y.1)→(∀x∈l,x.1≤x.2)→Gap (l.foldl dJ acc)∧∀n,inS (l.foldl dJ acc) n=(inS acc n||inS l n)
 | [],acc,hg,_,_,_=>⟨hg,fun n=>by simp[hX]⟩
 | s::l,acc,hg,hle,hp,hv=>by
  have hs:=hv s (by simp);rw[List.pairwise_cons]at hp
  have step:Gap (dJ acc s)∧(∀z∈dJ acc s,∀t∈l,z.1≤t.1)∧∀n,inS (dJ acc s) n=(inS acc n||decide (s.1≤n∧n≤s.2)):=by
   rcases List.eq_nil_or_concat acc with rfl | ⟨a,z,rfl⟩
   ·refine⟨by simp[dJ,Gap,hs],fun z hz t ht=>?_,fun n=>by simp[dJ,inS]⟩;simp[dJ]at hz;subst hz;exact hp.1 t ht
   ·rw[List.concat_eq_append]at*;rw[qQ];obtain⟨g1,g2,g3⟩:=nJ.1 hg;have hz:=hle z (by simp) s (by simp);split
    ·rename_i hc;refine⟨nJ.2 ⟨g1,by simp;omega,g3⟩,fun y hy t ht=>?_,fun n=>?_⟩
     ·rcases List.mem_append.1 hy with hy | hy
      ·exact hle y (by simp[hy]) t (by simp[ht])
      ·simp at hy;subst hy;exact hle z (by simp) t (by simp[ht])
     ·simp only[fP,eY,hX,Bool.or_false,Bool.or_assoc];congr 1;rw[←Bool.decide_or];refine decide_eq_decide.2 ⟨fun h=>?_,fun h=>?_⟩
      ·omega
      ·omega
    ·rename_i hc;refine⟨nJ.2 ⟨hg,hs,fun y hy=>?_⟩,fun y hy t ht=>?_,fun n=>by simp[fP,eY,hX,Bool.or_assoc]⟩
     ·rcases List.mem_append.1 hy with hy | hy
      ·have:=g3 y hy;omega
      ·simp at hy;subst hy;omega
     ·rcases List.mem_append.1 hy with hy | hy
      ·exact hle y hy t (by simp[ht])
      ·simp at hy;subst hy;exact hp.1 t ht
  obtain⟨q1,q2⟩:=aB0 l (dJ acc s) step.1 step.2.1 hp.2 (fun x hx=>hv x (by simp[hx]));refine⟨q1,fun n=>?_⟩;rw[List.foldl_cons,q2,step.2.2,eY,Bool.or_assoc]
theorem aGM{l:List Sp}(hp:l.Pairwise fun x y=>x.1≤y.1)(hv:∀ x∈l,x.1≤x.2):Gap (mR l)∧∀n,inS (mR l) n=inS l n:=by
 obtain⟨h1,h2⟩:=aB0 l [] trivial (by simp) hp hv;exact⟨h1,fun n=>by rw[mR,h2];simp[hX]⟩
theorem aLY{l l':List Sp}(h:l.Perm l')(n:Int):inS l n=inS l' n:=by
 rw[Bool.eq_iff_iff,fM,fM];constructor
 ·rintro⟨x,hx,hh⟩;exact⟨x,h.mem_iff.1 hx,hh⟩
 ·rintro⟨x,hx,hh⟩;exact⟨x,h.mem_iff.2 hx,hh⟩
def meet(x y:Sp):List Sp:=if max x.1 y.1≤min x.2 y.2 then[(max x.1 y.1,min x.2 y.2)] else[]
def cO(a b:List Sp):List Sp:=a.flatMap fun x=>b.flatMap fun y=>meet x y
theorem vA{α:Type}{l:List α}{f:α→List Sp}{n:Int}:inS (l.flatMap f) n=l.any fun x=>inS (f x) n:=by
 induction l with
 | nil=>rfl
 | cons x l ih=>simp[fP,ih]
theorem aOR{x y:Sp}{n:Int}:inS (meet x y) n=(decide (x.1≤n∧n≤x.2)&&decide (y.1≤n∧n≤y.2)):=by
 unfold meet;split
 ·rename_i h;rw[eY,hX,Bool.or_false,←Bool.decide_and];exact decide_eq_decide.2 ⟨fun h=>by simp at h;omega,fun h=>by simp;omega⟩
 ·rename_i h;rw[hX,←Bool.decide_and];symm;simp;omega
theorem aEM{x:Sp}{n:Int}:∀ {b:List Sp},(b.any fun y=>inS (meet x y) n)=(decide (x.1≤n∧n≤x.2)&&inS b n)
 | []=>by simp[hX]
 | y::b=>by rw[List.any_cons,aEM,aOR,eY,Bool.and_or_distrib_left]
theorem sW:∀ {a b:List Sp} {n:Int},inS (cO a b) n=(inS a n&&inS b n)
 | [],_,_=>rfl
 | x::a,b,n=>by
  have ih:=sW (a:=a) (b:=b) (n:=n);unfold cO at*;rw[List.flatMap_cons,fP,ih,vA,aEM,eY,Bool.and_or_distrib_right]
def iV(y x:Sp):List Sp:=(if x.1<y.1 then[(x.1,min x.2 (y.1 - 1))] else[])++(if y.2<x.2 then[(max x.1 (y.2+1),x.2)] else[])
def jF(a:List Sp)(y:Sp):List Sp:=a.flatMap (iV y)
def aY(a b:List Sp):List Sp:=b.foldl jF a
theorem aLZ{x y:Sp}(_hx:x.1≤x.2)(hy:y.1≤y.2){n:Int}:inS (iV y x) n=(decide (x.1≤n∧n≤x.2)&& !decide (y.1≤n∧n≤y.2)):=by
 unfold iV;rw[Bool.eq_iff_iff];simp only[fP,Bool.or_eq_true,Bool.and_eq_true,decide_eq_true_eq,Bool.not_eq_true',decide_eq_false_iff_not];split<;>split<;>simp[eY,hX]<;>omega
theorem aB1{x y z:Sp}(hx:x.1≤x.2)(_hy:y.1≤y.2)(hz:z∈iV y x):z.1≤z.2∧x.1≤z.1∧z.2≤x.2:=by
 unfold iV at hz;rcases List.mem_append.1 hz with h | h<;>split at h<;>simp at h<;>subst h<;>simp<;>omega
theorem aOS{a:List Sp}{y:Sp}(ha:∀ x∈a,x.1≤x.2)(hy:y.1≤y.2){n:Int}:inS (jF a y) n=(inS a n&& !decide (y.1≤n∧n≤y.2)):=by
 unfold jF;rw[vA]
 induction a with
 | nil=>rfl
 | cons x a ih=>
  rw[List.any_cons,ih (fun z hz=>ha z (by simp[hz])),aLZ (ha x (by simp)) hy,eY,Bool.and_or_distrib_right]
theorem xT{a:List Sp}{y z:Sp}(ha:∀ x∈a,x.1≤x.2)(hy:y.1≤y.2)(hz:z∈jF a y):z.1≤z.2∧∃x∈a,x.1≤z.1∧z.2≤x.2:=by
 obtain⟨x,hx,h⟩:=List.mem_flatMap.1 hz;obtain⟨h1,h2⟩:=aB1 (ha x hx) hy h;exact⟨h1,x,hx,h2⟩
theorem mF:∀ {b a:List Sp},(∀x∈a,x.1≤x.2)→(∀y∈b,y.1≤y.2)→∀{n:Int},inS (aY a b) n=(inS a n&& !inS b n)
 | [],a,_,_,n=>by simp[aY,hX]
 | y::b,a,ha,hb,n=>by
  have:=mF (b:=b) (a:=jF a y) (fun z hz=>(xT ha (hb y (by simp)) hz).1) (fun z hz=>hb z (by simp[hz])) (n:=n);rw[aY]at this;rw[aY,List.foldl_cons,this,aOS ha (hb y (by simp)),eY];cases inS a n<;>cases decide (y.1≤n∧n≤y.2)<;>simp
def Asc:List Sp→Prop
 | []=>True
 | x::r=>x.1≤x.2∧(∀y∈r,x.2<y.1)∧Asc r
theorem Gap.asc:∀ {l:List Sp},Gap l→Asc l
 | [],_=>trivial
 | x::l,h=>⟨h.1,fun y hy=>by have:=h.2.1 y hy;omega,Gap.asc h.2.2⟩
theorem Asc.valid:∀ {l:List Sp},Asc l→∀x∈l,x.1≤x.2
 | [],_,x,hx=>by cases hx
 | y::l,h,x,hx=>by
  rcases List.mem_cons.1 hx with rfl | hx
  ·exact h.1
  ·exact Asc.valid h.2.2 x hx
theorem Asc.append:∀ {a b:List Sp},Asc a→Asc b→(∀x∈a,∀y∈b,x.2<y.1)→Asc (a++b)
 | [],_,_,hb,_=>hb
 | x::a,b,ha,hb,h=>⟨ha.1,fun y hy=>by
   rcases List.mem_append.1 hy with hy | hy
   ·exact ha.2.1 y hy
   ·exact h x (by simp) y hy,Asc.append ha.2.2 hb fun z hz y hy=>h z (by simp[hz]) y hy⟩
theorem aJ8{x y:Sp}(hx:x.1≤x.2)(hy:y.1≤y.2):Asc (iV y x):=by
 unfold iV;split<;>split<;>simp[Asc]<;>omega
theorem aEN:∀ {a:List Sp} {y:Sp},Asc a→y.1≤y.2→Asc (jF a y)
 | [],_,_,_=>trivial
 | x::a,y,ha,hy=>by
  rw[jF,List.flatMap_cons];refine Asc.append (aJ8 ha.1 hy) (aEN ha.2.2 hy) fun z hz t ht=>?_
  have h1:=aB1 ha.1 hy hz;obtain⟨h2,x',hx',h3⟩:=xT (Asc.valid ha.2.2) hy ht;have:=ha.2.1 x' hx';omega
theorem xU:∀ {a:List Sp} {y:Sp},(∀x∈a,y.1≤x.1)→(jF a y).length≤a.length
 | [],_,_=>by simp[jF]
 | x::a,y,h=>by
  have h1:=xU (a:=a) (y:=y) fun z hz=>h z (by simp[hz])
  have h2:=h x (by simp);rw[jF]at h1;rw[jF,List.flatMap_cons,List.length_append,List.length_cons]
  have:(iV y x).length≤1:=by
   unfold iV;rw[if_neg (by omega)];split<;>simp
  omega
theorem xV:∀ {a:List Sp} {y:Sp},Asc a→y.1≤y.2→(jF a y).length≤a.length+1
 | [],_,_,_=>by simp[jF]
 | x::a,y,ha,hy=>by
  have h1:=xV ha.2.2 hy;have h2:(x.1<y.1∧y.2<x.2)→(jF a y).length≤a.length:=fun h=>xU fun z hz=>by have:=ha.2.1 z hz;omega
  have h3:(iV y x).length≤2:=by unfold iV;split<;>split<;>simp
  have h4:¬ (x.1<y.1∧y.2<x.2)→(iV y x).length≤1:=fun h=>by
   unfold iV;split<;>split<;>simp;exact h ⟨by assumption,by assumption⟩
  have e:(jF (x::a) y).length=(iV y x).length+(jF a y).length:=by rw[jF,List.flatMap_cons,List.length_append];rfl
  rw[e,List.length_cons]
  by_cases hc:x.1<y.1∧y.2<x.2
  ·have:=h2 hc;omega
  ·have:=h4 hc;omega
theorem dZ:∀ {b a:List Sp},Asc a→(∀y∈b,y.1≤y.2)→Asc (aY a b)∧(aY a b).length≤a.length+b.length∧∀z∈aY a b,∃x∈a,x.1≤z.1∧z.2≤x.2
 | [],a,ha,_=>⟨ha,by simp[aY],fun z hz=>⟨z,hz,by omega,by omega⟩⟩
 | y::b,a,ha,hb=>by
  have hy:=hb y (by simp);obtain⟨h1,h2,h3⟩:=dZ (b:=b) (a:=jF a y) (aEN ha hy) fun z hz=>hb z (by simp[hz])
  rw[aY]at h1 h2 h3;rw[aY,List.foldl_cons];refine⟨h1,?_,fun z hz=>?_⟩
  ·have:=xV ha hy;simp only[List.length_cons];omega
  ·obtain⟨x,hx,h4⟩:=h3 z hz;obtain⟨_,x',hx',h5⟩:=xT ha.valid hy hx;exact⟨x',hx',by omega,by omega⟩
theorem oD{n y:Int}:∀ {l:List Int},(y=n∨y∈l)→y∈eU n l
 | [],h=>by simpa[eU]using h
 | x::r,h=>by
  unfold eU;split
  ·rcases h with h | h
   ·exact List.mem_cons_of_mem _ (oD (.inl h))
   ·rcases List.mem_cons.1 h with h | h
    ·simp[h]
    ·exact List.mem_cons_of_mem _ (oD (.inr h))
  ·split
   ·rename_i e;rcases h with h | h
    ·simp[h,e]
    ·exact h
   ·rcases h with h | h
    ·simp[h]
    ·exact List.mem_cons_of_mem _ h
theorem pL{n:Int}:∀ {l:List Int},l.Pairwise (· < ·)→(eU n l).Pairwise (· < ·)
 | [],_=>by simp[eU]
 | x::r,h=>by
  rw[List.pairwise_cons]at h;unfold eU;split
  ·refine List.pairwise_cons.2 ⟨fun y hy=>?_,pL h.2⟩;rcases sU hy with rfl | hy
   ·assumption
   ·exact h.1 y hy
  ·split
   ·exact List.pairwise_cons.2 h
   ·refine List.pairwise_cons.2 ⟨fun y hy=>?_,List.pairwise_cons.2 h⟩;rcases List.mem_cons.1 hy with rfl | hy
    ·omega
    ·have:=h.1 y hy;omega
theorem aCI(l:List Sp):(cQ l).Pairwise (· < ·)∧∀x∈l,x.1∈cQ l∧x.2+1∈cQ l:=by
 have:∀ (l:List Sp) (o:List Int),o.Pairwise (· < ·)→(l.foldl (fun out x=>eU (x.2+1) (eU x.1 out)) o).Pairwise (· < ·)∧(∀y∈o,y∈l.foldl (fun out x=>eU (x.2+1) (eU x.1 out)) o)∧
   ∀x∈l,x.1∈l.foldl (fun out x=>eU (x.2+1) (eU x.1 out)) o∧x.2+1∈l.foldl (fun out x=>eU (x.2+1) (eU x.1 out)) o:=by
  intro l
  induction l with
  | nil=>intro o h;exact⟨h,fun y hy=>hy,by simp⟩
  | cons x r ih=>
   intro o h;obtain⟨h1,h2,h3⟩:=ih (eU (x.2+1) (eU x.1 o)) (pL (pL h));refine⟨h1,fun y hy=>h2 y (oD (.inr (oD (.inr hy)))),fun z hz=>?_⟩;rcases List.mem_cons.1 hz with rfl | hz
   ·exact⟨h2 _ (oD (.inr (oD (.inl rfl)))),h2 _ (oD (.inl rfl))⟩
   ·exact h3 z hz
 obtain⟨h1,_,h3⟩:=this l [] List.Pairwise.nil;exact⟨h1,h3⟩
theorem xW{op:Int}:eD op false false=false:=by simp[eD]
theorem yW{op:Int}{a b acc:List Sp}{z:Sp}{u v:Int}(hs:eD op (inS a u) (inS b u)=true):eG op a b (acc++[z]) u v=if z.2+1=u then acc++[(z.1,v - 1)] else acc++[z]++[(u,v - 1)]:=by simp[eG,hs]
theorem aB2(op:Int)(a b:List Sp):∀ (l:List Int) (acc:List Sp),l.Pairwise (· < ·)→Gap acc→(∀z∈acc,∀e∈l,z.2<e)→(∀n,(∀e∈l,n<e)→inS acc n=eD op (inS a n) (inS b n))→
  (∀x∈a++b,((∀e∈l,x.1<e)∨x.1∈l)∧((∀e∈l,x.2+1<e)∨x.2+1∈l))→Gap (gS op a b acc l)∧∀n,inS (gS op a b acc l) n=eD op (inS a n) (inS b n)
 | [],acc,_,hg,_,hacc,_=>⟨hg,fun n=>hacc n (by simp)⟩
 | [u],acc,_,hg,hz,hacc,hE=>by
  refine⟨hg,fun n=>?_⟩;show inS acc n=_
  by_cases hn:n<u
  ·exact hacc n (by simpa using hn)
  ·have h1:inS acc n=false:=nI.2 fun z hz'=>by have:=hz z hz' u (by simp);omega
   have out:∀ c:List Sp,(∀x∈c,x∈a++b)→inS c n=false:=fun c hc=>nI.2 fun x hx=>by
    have:=(hE x (hc x hx)).2;simp at this;omega
   rw[h1,out a (fun x hx=>by simp[hx]),out b (fun x hx=>by simp[hx]),xW]
 | u::v::r,acc,hp,hg,hz,hacc,hE=>by
  rw[List.pairwise_cons]at hp;have huv:u<v:=hp.1 v (by simp);have hvr:=hp.2;rw[List.pairwise_cons]at hvr
  have hvle:∀ e∈v::r,v≤e:=fun e he=>by
   rcases List.mem_cons.1 he with rfl | he
   ·omega
   ·have:=hvr.1 e he;omega
  -- between two edges nothing changes
  have edge:∀ e:Int,((∀e'∈u::v::r,e<e')∨e∈u::v::r)→e≤u∨v≤e:=fun e he=>by
   rcases he with he | he
   ·have:=he u (by simp);omega
   ·rcases List.mem_cons.1 he with rfl | he
    ·omega
    ·have:=hvle e he;omega
  have same:∀ c:List Sp,(∀x∈c,x∈a++b)→∀n,u≤n→n<v→inS c n=inS c u:=fun c hc n h1 h2=>by
   rw[Bool.eq_iff_iff,fM,fM];constructor
   ·rintro⟨x,hx,h3,h4⟩;have e1:=edge _ (hE x (hc x hx)).1;have e2:=edge _ (hE x (hc x hx)).2;exact⟨x,hx,by omega,by omega⟩
   ·rintro⟨x,hx,h3,h4⟩;have e1:=edge _ (hE x (hc x hx)).1;have e2:=edge _ (hE x (hc x hx)).2;exact⟨x,hx,by omega,by omega⟩
  have sa:=same a (fun x hx=>by simp[hx]);have sb:=same b (fun x hx=>by simp[hx]);have hzu:∀ z∈acc,z.2<u:=fun z hz'=>hz z hz' u (by simp)
  have haccu:∀ n,n<u→inS acc n=eD op (inS a n) (inS b n):=fun n hn=>hacc n fun e he=>by
   rcases List.mem_cons.1 he with rfl | he
   ·exact hn
   ·have:=hvle e he;omega
  have haccn:∀ n,u≤n→inS acc n=false:=fun n hn=>nI.2 fun z hz'=>by have:=hzu z hz';omega
  have step:Gap (eG op a b acc u v)∧(∀z∈eG op a b acc u v,z.2<v)∧∀n,n<v→inS (eG op a b acc u v) n=eD op (inS a n) (inS b n):=by
   cases hs:eD op (inS a u) (inS b u)with
   | false=>
    have e:eG op a b acc u v=acc:=by simp[eG,hs]
    rw[e];refine⟨hg,fun z hz'=>by have:=hzu z hz';omega,fun n hn=>?_⟩
    by_cases h:n<u
    ·exact haccu n h
    ·rw[haccn n (by omega),sa n (by omega) hn,sb n (by omega) hn,hs]
   | true=>
    have val:∀ n,n<v→(inS acc n||decide (u≤n∧n≤v - 1))=eD op (inS a n) (inS b n):=fun n hn=>by
     by_cases h:n<u
     ·have:decide (u≤n∧n≤v - 1)=false:=by simp;omega
      rw[this,Bool.or_false,haccu n h]
     ·have:decide (u≤n∧n≤v - 1)=true:=by simp;omega
      rw[this,Bool.or_true,sa n (by omega) hn,sb n (by omega) hn,hs]
    rcases List.eq_nil_or_concat acc with rfl | ⟨acc',z,rfl⟩
    ·have e:eG op a b [] u v=[(u,v - 1)]:=by simp[eG,hs]
     rw[e];refine⟨by simp[Gap];omega,fun z hz'=>by simp at hz';subst hz';simp;omega,fun n hn=>?_⟩;rw[←val n hn,eY,hX,Bool.or_false,Bool.false_or]
    ·rw[List.concat_eq_append]at*;obtain⟨g1,g2,g3⟩:=nJ.1 hg;have hz2:=hzu z (by simp);rw[yW hs];split
     ·rename_i hc;refine⟨nJ.2 ⟨g1,by simp;omega,g3⟩,fun y hy=>?_,fun n hn=>?_⟩
      ·rcases List.mem_append.1 hy with hy | hy
       ·have:=hzu y (by simp[hy]);omega
       ·simp at hy;subst hy;simp;omega
      ·rw[←val n hn];simp only[fP,eY,hX,Bool.or_false,Bool.or_assoc];congr 1;rw[←Bool.decide_or];exact decide_eq_decide.2 ⟨fun h=>by omega,fun h=>by omega⟩
     ·rename_i hc;refine⟨nJ.2 ⟨hg,by simp;omega,fun y hy=>?_⟩,fun y hy=>?_,fun n hn=>?_⟩
      ·rcases List.mem_append.1 hy with hy | hy
       ·have:=g3 y hy;simp;omega
       ·simp at hy;subst hy;simp;omega
      ·rcases List.mem_append.1 hy with hy | hy
       ·have:=hzu y hy;omega
       ·simp at hy;subst hy;simp;omega
      ·rw[←val n hn,fP,eY,hX,Bool.or_false]
  show Gap (gS op a b (eG op a b acc u v) (v::r))∧∀n,inS (gS op a b (eG op a b acc u v) (v::r)) n=_;refine aB2 op a b (v::r) _ hp.2 step.1 (fun z hz' e he=>by have:=step.2.1 z hz';have:=hvle e he;omega) (fun n hn=>step.2.2 n (hn v (by simp))) fun x hx=>?_
  have tail:∀ e:Int,((∀e'∈u::v::r,e<e')∨e∈u::v::r)→(∀e'∈v::r,e<e')∨e∈v::r:=fun e he=>by
   rcases he with he | he
   ·exact .inl fun e' he'=>he e' (List.mem_cons_of_mem _ he')
   ·rcases List.mem_cons.1 he with rfl | he
    ·exact .inl fun e' he'=>hp.1 e' he'
    ·exact .inr he
  exact⟨tail _ (hE x hx).1,tail _ (hE x hx).2⟩
theorem uA(op:Int)(a b:List Sp):Gap (gS op a b [] (cQ (a++b)))∧∀n,inS (gS op a b [] (cQ (a++b))) n=eD op (inS a n) (inS b n):=by
 obtain⟨h1,h2⟩:=aCI (a++b);refine aB2 op a b _ [] h1 trivial (by simp) (fun n hn=>?_) fun x hx=>⟨.inr (h2 x hx).1,.inr (h2 x hx).2⟩
 have out:∀ c:List Sp,(∀x∈c,x∈a++b)→inS c n=false:=fun c hc=>nI.2 fun x hx=>by
  have:=hn _ (h2 x (hc x hx)).1;omega
 rw[out a (fun x hx=>by simp[hx]),out b (fun x hx=>by simp[hx]),xW,hX]
theorem aR5(l:List Sp)(hne:l≠[])(hl:l.length≤100000)(h:Hp)(n0:Nat)(ho:aF h n0):
  ISp prog 159 h n0 [.one (.t (spans l))] (.one (.ref n0 0 0 l.length 2 false)) (aS h n0 0 l.toArray):=by
 refine k159.aPS (by simp) ?_;obtain⟨x,r,rfl⟩:∃ x r,l=x::r:=by cases l with | nil=>exact absurd rfl hne | cons x r=>exact⟨x,r,rfl⟩
 simp[c159,a7O,b4m,a5G,spans,D.notNil];have hcell:(fun y=>List.map A.t (spr y))=cell:=by funext y;rfl
 refine⟨by simp at hl;omega,n0+1+2+2,.inr rfl,⟨by simp,by simp⟩,⟨.ref (n0+1+2+2) 0 0 (r.length+1) 2 false,rfl,by simp[A.only],by simp[A.ren,sE]⟩,by omega,fun id hid=>?_,?_,⟨.arr 0 false 2 (List.map A.t (spr x)::List.map ((fun x=>List.map A.t x)∘spr) r),by simp[Hp.set]⟩,fun id hid=>?_,fun id o hid=>?_⟩
 ·simp only[aS,Hp.set];rw[if_neg (by omega),if_neg (by omega)]
 ·simp only[aS,Hp.set,if_true];simp only[List.map_cons,←hcell];rfl
 ·simp only[aS,Hp.set];rw[if_neg (by omega)];exact ho.above id (by omega)
 ·simp only[aS,Hp.set]at hid;split at hid
  ·simp only[sI9]at hid;subst hid;simp[O.below,cell,A.below]
  ·exact ho.below id o hid
theorem aJ9:PSp prog 159 [.one (.t (spans []))] (.one (.t (spans []))):=by
 refine k159.psp (by simp) rfl rfl ?_;unfold c159;refine W.seq (W.iB _ _ _ ?_);simp[awp,a7O,nR,rX];refine W.seq (W.seq (W.aN4 (sz:=2) rfl fun b=>?_))
 have last:∀ st':St,st'.tmps 0= .one (.t (spans []))→st'.heap=jM→W prog 8 (.seq (.region 3 false 4 a5G) .ret) (aC [.tmp 2] (.one (.t (spans [])))) st':=fun st' e0 e1=>by
  refine W.iB _ _ _ ?_;simp[awp,a5G,nR,rX,e0,e1,spans,aC]
 show W _ _ _ _ _;refine W.iB _ _ _ ?_;cases b
 ·simp[awp,rX];exact last _ rfl rfl
 ·simp[awp,b4n,nR,rX,spans,aC]
def sX(l:List Sp):List Sp:=(Sort.sort ltS l.toArray).toList
theorem qF(l:List Sp):(sX l).Perm l∧(sX l).Pairwise fun x y=>x.1≤y.1:=by
 obtain⟨h1,h2⟩:=Sort.sort_sorts ltS sQ l.toArray;unfold sX;generalize Sort.sort ltS l.toArray=e at*;obtain⟨s,_,p⟩:=h1;have e1:(e.extract 0 l.toArray.size).toList=e.toList:=by rw[←s];simp
 have e2:(l.toArray.extract 0 l.toArray.size).toList=l:=by simp
 rw[e1,e2]at p;refine⟨p,?_⟩;rw[List.pairwise_iff_getElem];intro i j hi hj hij;have hi':i<e.size:=by simpa using hi
 have hj':j<e.size:=by simpa using hj
 have:=h2 i j (Nat.zero_le _) hij (by rw[←s];exact hj');rw[getElem!_pos e i hi',getElem!_pos e j hj']at this;simp[ltS]at this;simpa using this
theorem aB3(l:List Sp):(sX l).length=l.length:=(qF l).1.length_eq
def bK(l:List Sp):List Sp:=mR (sX l)
theorem eV{l:List Sp}(hv:∀ x∈l,x.1≤x.2):Gap (bK l)∧∀n,inS (bK l) n=inS l n:=by
 obtain⟨h1,h2⟩:=qF l;obtain⟨g1,g2⟩:=aGM h2 fun x hx=>hv x (h1.mem_iff.1 hx)
 exact⟨g1,fun n=>by rw[bK,g2,aLY h1]⟩
theorem aJA(x:Sp):∀ y∈cell x,y.mI=true:=fun y hy=>by simp[cell]at hy;rcases hy with rfl | rfl<;>rfl
def uB(d:D)(h:Hp)(nx:Nat)(acc:List Sp)(did:Nat):Prop:=
 (acc=[]∧d= .one (.tt 2 []))∨(acc≠[]∧∃id ver,id<nx∧id≠did∧d= .one (.ref id ver 0 acc.length 2 false)∧alive h id ver∧h.rows id=acc.map cell∧h.sz id=2∧h.shut id=false)
theorem Data.set{h:Hp}{id ver j:Nat}{d:Array Sp}{o:O}(hd:Data h id ver d)(hne:id≠j):Data (h.set j o) id ver d:=by
 obtain⟨a,b,c,e⟩:=hd;refine⟨?_,?_,?_,?_⟩
 ·unfold Ab.alive Hp.set at*; rw[if_neg hne];exact a
 ·unfold Hp.rows Hp.set at*; rw[if_neg hne];exact b
 ·unfold Hp.sz Hp.set at*; rw[if_neg hne];exact c
 ·unfold Hp.shut Hp.set at*; rw[if_neg hne];exact e
theorem vR(l:List Sp)(hl:l.length≤100000)(hok:∀ x∈l,bad x=false):PSp prog 130 [.one (.t (spans l))] (.one (.t (spans (bK l)))):=by
 by_cases hne:l=[]
 ·subst hne
  have e:bK []=[]:=by
   have:=(qF []).1;have:sX []=[]:=List.Perm.eq_nil this;rw[bK,this];rfl
  rw[e];refine k130.aI (by simp) rfl rfl ?_;simp[c130,a7Z,a71];refine aD.pure aJ9 (by simp) (by simp) ?_;simp[a73,spans];refine aD.pure aR3 (by simp[D.cE]) (by simp[D.frz,spans]) ?_;simp[a74,a8a];refine W.cU (fun _ st=>st.tmps 3= .one (.tt 2 [])∧st.tmps 12= .one (.t (I 0))∧st.tmps 13= .one (.t (I 0))) 0 ⟨by simp,by simp,by simp⟩ ?_;rintro k st ⟨h3,h12,h13⟩;simp[a5O,a5M,h3,h12,h13,a8d,aC]
 obtain⟨S,hS⟩:∃ S,S=sX l:=⟨_,rfl⟩;have hSl:S.length=l.length:=by rw[hS];exact aB3 l
 have aXL:∀ x∈S,bad x=false:=fun x hx=>hok x ((qF l).1.mem_iff.1 (by rw[←hS];exact hx))
 have e:bK l=mR S:=by rw[hS];rfl
 have hsort:(Sort.sort ltS l.toArray)=S.toArray:=by rw[hS];simp[sX]
 rw[e];refine k130.aI (by simp) rfl rfl ?_;simp[c130,a7Z,a71];have ho0:∀ n,aF jM n:=fun n=>⟨fun _ _=>rfl,fun id o h=>by cases h⟩
 refine aD.imp (aR5 l hne (by omega) jM _ (ho0 _)) ?_;simp[a73]
 have hsm:∀ x∈l.toArray,small x:=fun x hx=>by
  have:=hok x (by simpa using hx);simp[bad]at this;simp[small];omega
 have hsf:=aJ6 (aS jM 2 0 l.toArray) 5 2 0 false l.toArray bH (aF.more (aF.put (ho0 3) (by omega)) (by omega)) (by omega) (by simpa using hl) hsm;rw[hU,hsort]at hsf;simp only[List.size_toArray]at hsf;refine aD.imp hsf ?_;have aU5:Data (aS jM 2 0 S.toArray) 2 0 S.toArray:=bH;generalize aS jM 2 0 S.toArray=g at*;simp[a74,a8a]
 refine W.cU (fun k st=>∃ (i:Nat) (acc:List Sp),k=S.length - i∧i≤S.length∧st.tmps 11= .one (.ref 2 0 0 S.length 2 false)∧st.tmps 12= .one (.t (I S.length))∧st.tmps 13= .one (.t (I i))∧3≤st.nx∧Data st.heap 2 0 S.toArray∧
  uB (st.tmps 3) st.heap st.nx acc 2∧(S.drop i).foldl dJ acc=mR S∧acc.length≤i∧∀z∈acc,-1152921504606846976≤z.2∧z.2≤1152921504606846976) S.length
  ⟨0,[],by simp,by simp,by simp[hSl],by simp[hSl],by simp,by simp,by simp[aU5],by simp[uB],by simp[mR],by simp,by simp⟩ ?_
 rintro k st ⟨i,acc,hk,hi,h11,h12,h13,hnx,hdat,h3,hout,hacc,hbd⟩;rcases Nat.lt_or_ge i S.length with hlt | hge
 ·have fO:(i:Int)<S.length:=by omega
  have hia:i<S.toArray.size:=by simpa using hlt
  have hsi:=aXL S[i] (gL9 hlt);simp[bad]at hsi;have hw:IntKind.i64.wrap ((i:Int)+1)=((i+1:Nat):Int):=aH _ (by omega) (by omega);have hln:(st.heap.rows 2).length=S.length:=by rw[hdat.rows];simp
  have g1:∀ hh,(st.heap.rows 2)[i]'hh=cell S[i]:=fun hh=>by have:=rowAt hdat hia hh;simpa using this
  have hfold:(S.drop (i+1)).foldl dJ (dJ acc S[i])=mR S:=by
   rw[←hout,List.drop_eq_getElem_cons hlt];rfl
  have hd2:∀ c,¬(2=st.nx+c):=fun c=>by omega
  have hd2':¬ (2=st.nx):=by omega
  simp[a5O,a5M,b4F,b4G,h11,h12,h13,hlt,fO,hdat.alive,hdat.sz,hln,g1,bI];rcases h3 with⟨rfl,h3⟩ | ⟨hne',id,ver,hid,aU6,h3,q1,q2,q3,q4⟩
  ·simp[h3,a8b,a8c,a5N,h11,h12,h13,hw,eQ];refine⟨bJ _,⟨bJ _,aJA _⟩,S.length - (i+1),by omega,i+1,rfl,by omega,by omega,((hdat.set (by omega)).set (by omega)).set (by omega),[S[i]],.inr ⟨by simp,_,0,?_,?_,rfl,by simp,?_,by simp,by simp⟩,hfold,by simp,fun a b hab=>by rw[List.mem_singleton]at hab;rw[←hab]at hsi;simp at hsi;omega⟩
   ·omega
   ·omega
   ·rw[dP,if_pos rfl];rfl
  ·obtain⟨acc',z,rfl⟩:∃ acc' z,acc=acc'++[z]:=by
    rcases List.eq_nil_or_concat acc with e | ⟨x,y,e⟩
    ·exact absurd e hne'
    ·exact⟨x,y,by simpa using e⟩
   have hz:=hbd z (by simp);have hlen:acc'.length+1≤i:=by simpa using hacc
   have hw3:IntKind.i64.wrap (acc'.length:Int)=acc'.length:=wrap_i64 (by omega) (by omega);have hw4:IntKind.i64.wrap (z.2+1)=z.2+1:=wrap_i64 (by omega) (by omega);have hgE:∀ hh:acc'.length<(st.heap.rows id).length,(st.heap.rows id)[acc'.length]'hh=cell z:=fun hh=>by simp[q2]
   have xX:(st.heap.rows id).length=acc'.length+1:=by rw[q2];simp
   have hidn:∀ c,¬id=st.nx+c:=fun c=>by omega
   have hidn':¬ id=st.nx:=by omega
   rw[qQ]at hfold;have aEO:¬ id=st.nx+1+2:=by omega
   have hn2:¬ st.nx+1+2=id:=by omega
   simp[h3,a8b,hw3,hw4,q1,q3,hgE,xX,aEO,cell];refine⟨by omega,fun hle=>?_,fun hgt=>?_⟩
   ·rw[if_pos hle]at hfold;simp[b4H,a5N,h3,h11,h12,h13,hw,hw3,q1,q3,q4,hgE,xX,aEO,cell];have hmax:(if z.2<S[i].2 then S[i].2 else z.2)=max z.2 S[i].2:=by rw[Int.max_def];split<;>split<;>omega
    rw[hmax];refine⟨by omega,S.length - (i+1),by omega,i+1,rfl,by omega,by omega,((hdat.set (by omega)).set (by omega)).set (by omega),acc'++[(z.1,max z.2 S[i].2)],.inr ⟨by simp,id,ver,by omega,aU6,by simp,by simp,?_,by simp,by simp⟩,hfold,by simp;omega,fun a b hab=>?_⟩
    ·rw[dP,if_pos rfl,q2];simp[cell]
    ·rcases List.mem_append.1 hab with h | h
     ·exact hbd (a,b) (by simp[h])
     ·simp at h;omega
   ·have hng:¬ S[i].1≤z.2+1:=by omega
    rw[if_neg hng]at hfold;simp[a8c,a5N,h3,h11,h12,h13,hw,q1,q3,q4,xX,aEO];refine⟨by omega,S.length - (i+1),by omega,i+1,rfl,by omega,by omega,((hdat.set (by omega)).set (by omega)).set (by omega),acc'++[z]++[S[i]],.inr ⟨by simp,id,ver+1,by omega,aU6,by simp,by simp,?_,by simp,by simp⟩,hfold,by simp;omega,fun a b hab=>?_⟩
    ·rw[dP,if_pos rfl,q2];simp[cell]
    ·rcases List.mem_append.1 hab with h | h
     ·exact hbd (a,b) h
     ·rw[List.mem_singleton]at h;rw[←h]at hsi;simp at hsi;omega
 ·have hi':i=S.length:=by omega
  subst hi';have fO:¬ (S.length:Int)<S.length:=by omega
  simp at hout;rw[←hout];simp[a5O,a5M,h12,h13,a8d,aC];rcases h3 with⟨rfl,h3⟩ | ⟨_,id,ver,_,_,h3,q1,q2,q3,q4⟩
  ·simp[h3,spans]
  ·have e1:(acc.map spr).length=acc.length:=by simp
   rw[h3,←e1];have q2':st.heap.rows id=(acc.map spr).map (·.map .t):=by rw[q2,List.map_map];rfl
   refine⟨iU q1 q3 q2',?_⟩;simp only[lD q2',spans]
end Go.Proofs.YtdpbobkcbakpfaaGreatDoor
