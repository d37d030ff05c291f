/- What the law SymbolsResolve alone needs: CodeB. -/
import Derived.Test.YtjajpilacdfnbaaGreatDoorZ0
namespace Go.Proofs.YtjajpilacdfnbaaGreatDoor
open Am Go.Proofs
set_option maxRecDepth 100000
namespace C
def y30.r0 : List AStep := [ah 2]
def y30.r1 : List AStep := [ab 3 0,a2o 4 3 65,ab 5 4,aj 6 5 0,a2d 7 5 6 90,an 8 5 7,ab 9 8,a10 10 9 0,⟨some 11, (some (9, false)), .op (.bin .geq (.t 10) (.c (.i .u8 97)))⟩,a10 12 9 11,aj 13 12 0,a2d 14 12 13 122,a1f 15 9 12 14,av 16 9 15,ab 17 16,a10 18 17 0,⟨some 19, (some (17, false)), .op (.bin .eql (.t 18) (.c (.i .u8 95)))⟩,av 20 17 19,ab 2 20]
def y30 : AFunc := ⟨21, [.t 2], .seq (.post [0] (.region y30.r0)) (.seq (.post [2] (.region y30.r1)) (.ret))⟩
theorem y30.ok : y23 Tryz.prog Tryz.f90 y30 = true := by kernel_rfl
theorem y30.at : Tryz.prog.funcs[y4o]? = some Tryz.f90 := Tryz.func90
def y35.r0 : List AStep := [ah 2]
def y35.r1 : List AStep := [ab 3 0,a2o 4 3 48,ab 5 4,aj 6 5 0,a2d 7 5 6 57,an 8 5 7,ab 2 8]
def y35 : AFunc := ⟨9, [.t 2], .seq (.post [0] (.region y35.r0)) (.seq (.post [2] (.region y35.r1)) (.ret))⟩
theorem y35.ok : y23 Tryz.prog Tryz.f91 y35 = true := by kernel_rfl
theorem y35.at : Tryz.prog.funcs[y5r]? = some Tryz.f91 := Tryz.func91
def y1p.r0 : List AStep := [ah 2]
def y1p.r1 : List AStep := [ab 4 0,a24 5 4,ab 6 5,a10 7 6 0,a1u 8 6 7,a1g 9 6 8 16,av 10 6 9,ab 11 10,a10 12 11 0,⟨some 13, (some (11, false)), .op (.idx (.t 12) (.c (.i .i64 0)))⟩,⟨some 14, (some (11, false)), .call y4o [.t 13]⟩,a1s 15 11 14,av 16 11 15]
def y1p.r2 : List AStep := [ah 2]
def y1p.r3 : List AStep := [ac 3 0]
def y1p.r4 : List AStep := [ab 17 3,ab 18 0,a1b 19 18,am 20 17 19]
def y1p.r5 : List AStep := [ab 23 0,ab 24 3,a1z 25 23 24,⟨some 26, none, .call y4o [.t 25]⟩,a18 27 26,ab 28 27,aj 29 28 0,aj 30 28 3,a33 31 28 29 30,⟨some 32, (some (28, true)), .call y5r [.t 31]⟩,a1r 33 28 32,an 34 28 33]
def y1p.r6 : List AStep := [ah 2]
def y1p.r7 : List AStep := [ab 21 3,ap 22 21 1,ab 3 22]
def y1p.l0 : ACode := .seq (.seq (.post [0, 3, 20] (.region y1p.r4)) (.post [0, 3] (.cond (.t 20) (.skip) (.exit 0)))) (.seq (.post [0, 3] (.block 1 (.seq (.post [0, 3, 34] (.region y1p.r5)) (.post [0, 3] (.cond (.t 34) (.seq (.post [2] (.region y1p.r6)) (.ret)) (.skip)))))) (.post [0, 3] (.region y1p.r7)))
def y1p.r8 : List AStep := [a1a 2]
def y1p : AFunc := ⟨35, [.t 2], .seq (.post [0] (.region y1p.r0)) (.seq (.seq (.post [0, 16] (.region y1p.r1)) (.post [0] (.cond (.t 16) (.seq (.post [2] (.region y1p.r2)) (.ret)) (.skip)))) (.seq (.seq (.post [0, 3] (.region y1p.r3)) (.post [] (.block 0 (.loop y1p.l0)))) (.seq (.post [2] (.region y1p.r8)) (.ret))))⟩
theorem y1p.ok : y23 Tryz.prog Tryz.f47 y1p = true := by kernel_rfl
theorem y1p.at : Tryz.prog.funcs[y61]? = some Tryz.f47 := Tryz.func47
def y1w.r0 : List AStep := [a17 2,a17 3]
def y1w.r1 : List AStep := [ab 6 0,a1b 7 6,a19 8 7 0,ab 9 8,aj 10 9 0,a2r 11 9 10 0,⟨some 12, (some (9, true)), .call y4o [.t 11]⟩,an 13 9 12,ab 4 13]
def y1w.r2 : List AStep := [ac 5 0]
def y1w.r3 : List AStep := [ab 14 5,ab 15 0,a1b 16 15,am 17 14 16,ab 18 17,aj 19 18 0,aj 20 18 5,a33 21 18 19 20,⟨some 22, (some (18, true)), .call y5r [.t 21]⟩,aj 23 18 22,a10 24 23 4,a10 25 23 24,aj 26 25 0,aj 27 25 5,a33 28 25 26 27,⟨some 29, (some (25, true)), .call y4o [.t 28]⟩,a1f 30 23 25 29,a1k 31 18 23 30,an 32 18 31]
def y1w.r4 : List AStep := [ab 33 5,ap 34 33 1,ab 5 34]
def y1w.l0 : ACode := .seq (.seq (.post [0, 4, 5, 32] (.region y1w.r3)) (.post [0, 4, 5] (.cond (.t 32) (.skip) (.exit 0)))) (.post [0, 4, 5] (.block 1 (.post [0, 4, 5] (.region y1w.r4))))
def y1w.r5 : List AStep := [ab 35 0,ab 36 5,a29 37 35 36,ab 38 0,ab 39 5,a2q 40 38 39,ab 2 37,ab 3 40]
def y1w : AFunc := ⟨41, [.t 2, .t 3], .seq (.post [0] (.region y1w.r0)) (.seq (.post [0, 4] (.region y1w.r1)) (.seq (.post [0, 4, 5] (.region y1w.r2)) (.seq (.post [0, 5] (.block 0 (.loop y1w.l0))) (.seq (.post [2, 3] (.draw [0, 0, 3, 0, 0, 24, 7, 127] y1w.r5)) (.ret)))))⟩
theorem y1w.ok : y23 Tryz.prog Tryz.f150 y1w = true := by kernel_rfl
theorem y1w.at : Tryz.prog.funcs[y5s]? = some Tryz.f150 := Tryz.func150
def yp.r0 : List AStep := [ac 2 0,ac 3 0]
def yp.r1 : List AStep := [ab 7 0,a24 8 7]
def yp.r2 : List AStep := [ac 2 0,ac 3 1]
def yp.r3 : List AStep := [ac 4 0]
def yp.r4 : List AStep := [ab 9 4,ab 10 0,a1b 11 10,am 12 9 11]
def yp.r5 : List AStep := [ab 15 0,ab 16 4,a1z 17 15 16,⟨some 18, none, .call y5r [.t 17]⟩,a18 19 18]
def yp.r6 : List AStep := [ac 2 0,ac 3 3]
def yp.r7 : List AStep := [ab 13 4,ap 14 13 1,ab 4 14]
def yp.l0 : ACode := .seq (.seq (.post [0, 4, 12] (.region yp.r4)) (.post [0, 4] (.cond (.t 12) (.skip) (.exit 0)))) (.seq (.post [0, 4] (.block 1 (.seq (.post [0, 4, 19] (.region yp.r5)) (.post [0, 4] (.cond (.t 19) (.seq (.post [2, 3] (.region yp.r6)) (.ret)) (.skip)))))) (.post [0, 4] (.region yp.r7)))
def yp.r8 : List AStep := [ab 20 0,a2p 21 20 0,a28 22 21 48,ab 23 22,aj 24 23 0,a2e 25 23 24,a36 26 23 25 1,an 27 23 26]
def yp.r9 : List AStep := [ac 2 0,ac 3 3]
def yp.r10 : List AStep := [ac 5 0]
def yp.r11 : List AStep := [ac 6 0]
def yp.r12 : List AStep := [ab 28 6,ab 29 0,a1b 30 29,am 31 28 30]
def yp.r13 : List AStep := [ab 34 5,a34 35 10 34,ab 36 0,ab 37 6,a1z 38 36 37,⟨some 39, none, .op (.bin .sub (.t 38) (.c (.i .u8 48)))⟩,⟨some 40, none, .op (.conv .i64 (.t 39))⟩,a1d 41 35 40,ab 5 41]
def yp.r14 : List AStep := [ab 42 5,a19 43 42 268435456]
def yp.r15 : List AStep := [ac 2 0,ac 3 2]
def yp.r16 : List AStep := [ab 32 6,ap 33 32 1,ab 6 33]
def yp.l1 : ACode := .seq (.seq (.post [0, 5, 6, 31] (.region yp.r12)) (.post [0, 5, 6] (.cond (.t 31) (.skip) (.exit 2)))) (.seq (.post [0, 5, 6] (.block 3 (.seq (.post [0, 5, 6] (.region yp.r13)) (.seq (.post [0, 5, 6, 43] (.region yp.r14)) (.post [0, 5, 6] (.cond (.t 43) (.seq (.post [2, 3] (.region yp.r15)) (.ret)) (.skip))))))) (.post [0, 5, 6] (.region yp.r16)))
def yp.r17 : List AStep := [ab 44 5,ab 2 44,ac 3 0]
def yp : AFunc := ⟨45, [.t 2, .t 3], .seq (.post [0] (.region yp.r0)) (.seq (.seq (.post [0, 8] (.region yp.r1)) (.post [0] (.cond (.t 8) (.seq (.post [2, 3] (.region yp.r2)) (.ret)) (.skip)))) (.seq (.seq (.post [0, 4] (.region yp.r3)) (.post [0] (.block 0 (.loop yp.l0)))) (.seq (.seq (.post [0, 27] (.region yp.r8)) (.post [0] (.cond (.t 27) (.seq (.post [2, 3] (.region yp.r9)) (.ret)) (.skip)))) (.seq (.post [0, 5] (.region yp.r10)) (.seq (.seq (.post [0, 5, 6] (.region yp.r11)) (.post [5] (.block 2 (.loop yp.l1)))) (.seq (.post [2, 3] (.region yp.r17)) (.ret)))))))⟩
theorem yp.ok : y23 Tryz.prog Tryz.f127 yp = true := by kernel_rfl
theorem yp.at : Tryz.prog.funcs[y60]? = some Tryz.f127 := Tryz.func127
def yu.r0 : List AStep := [a17 2,ac 3 0,a17 4,a17 5,ac 6 0]
def yu.r1 : List AStep := [ab 16 0,⟨some 17, none, .call y5s [.t 16]⟩,ab 15 17,al 18 0 15,al 19 1 15,ab 7 18,ab 8 19]
def yu.r2 : List AStep := [ac 9 0,ac 10 (-1)]
def yu.r3 : List AStep := [ab 20 8,a1v 21 20,ab 22 21,aj 23 22 8,a2r 24 22 23 0,⟨some 25, (some (22, true)), .op (.bin .eql (.t 24) (.c (.i .u8 126)))⟩,an 26 22 25]
def yu.r4 : List AStep := [ab 28 8,a2s 29 28 1,⟨some 30, none, .call y5s [.t 29]⟩,ab 27 30,al 31 0 27,al 32 1 27,ab 11 31,ab 12 32]
def yu.r5 : List AStep := [ab 34 11,⟨some 35, none, .call y60 [.t 34]⟩,ab 33 35,al 36 0 33,al 37 1 33,ab 9 36]
def yu.r6 : List AStep := [ab 38 12,ab 8 38]
def yu.r7 : List AStep := [a17 13,a17 14]
def yu.r8 : List AStep := [ab 39 8,a1v 40 39,ab 41 40,aj 42 41 8,a2r 43 41 42 0,⟨some 44, (some (41, true)), .op (.bin .neq (.t 43) (.c (.i .u8 43)))⟩,an 45 41 44]
def yu.r9 : List AStep := [ab 46 8,⟨some 47, none, .op (.sls (.t 46) none (some (.c (.i .i64 1))))⟩,ab 13 47]
def yu.r10 : List AStep := [ab 49 8,a2s 50 49 1,⟨some 51, none, .call y5s [.t 50]⟩,ab 48 51,al 52 0 48,al 53 1 48,ab 14 52,ab 8 53]
def yu.r11 : List AStep := [ab 54 13,a2z 55 54 40,ab 56 55,aj 57 56 8,⟨some 58, (some (56, true)), .op (.bin .eql (.t 57) (.c (.s [41])))⟩,an 59 56 58]
def yu.r12 : List AStep := [a17 8]
def yu.r13 : List AStep := [ab 60 8,a1v 61 60,ab 62 61,aj 63 62 8,a2r 64 62 63 0,⟨some 65, (some (62, true)), .op (.bin .eql (.t 64) (.c (.i .u8 43)))⟩,an 66 62 65]
def yu.r14 : List AStep := [ab 68 8,a2s 69 68 1,⟨some 70, none, .call y60 [.t 69]⟩,ab 67 70,al 71 0 67,al 72 1 67,ab 10 71]
def yu.r15 : List AStep := [ab 73 7,ab 74 9,ab 75 13,ab 76 14,ab 77 10,ab 2 73,ab 3 74,ab 4 75,ab 5 76,ab 6 77]
def yu : AFunc := ⟨78, [.t 2, .t 3, .t 4, .t 5, .t 6], .seq (.post [0] (.region yu.r0)) (.seq (.post [7, 8] (.region yu.r1)) (.seq (.post [7, 8, 9, 10] (.region yu.r2)) (.seq (.seq (.post [7, 8, 9, 10, 26] (.region yu.r3)) (.post [7, 8, 9, 10] (.cond (.t 26) (.seq (.post [7, 10, 11, 12] (.region yu.r4)) (.seq (.post [7, 9, 10, 12] (.region yu.r5)) (.post [7, 8, 9, 10] (.region yu.r6)))) (.skip)))) (.seq (.post [7, 8, 9, 10, 13, 14] (.region yu.r7)) (.seq (.seq (.post [7, 8, 9, 10, 13, 14, 45] (.region yu.r8)) (.post [7, 8, 9, 10, 13, 14] (.cond (.t 45) (.seq (.post [7, 8, 9, 10, 13] (.region yu.r9)) (.seq (.post [7, 8, 9, 10, 13, 14] (.region yu.r10)) (.seq (.post [7, 8, 9, 10, 13, 14, 59] (.region yu.r11)) (.post [7, 8, 9, 10, 13, 14] (.cond (.t 59) (.post [7, 8, 9, 10, 13, 14] (.region yu.r12)) (.skip)))))) (.skip)))) (.seq (.seq (.post [7, 8, 9, 10, 13, 14, 66] (.region yu.r13)) (.post [7, 9, 10, 13, 14] (.cond (.t 66) (.post [7, 9, 10, 13, 14] (.region yu.r14)) (.skip)))) (.seq (.post [2, 3, 4, 5, 6] (.region yu.r15)) (.ret))))))))⟩
theorem yu.ok : y23 Tryz.prog Tryz.f126 yu = true := by kernel_rfl
theorem yu.at : Tryz.prog.funcs[y7s]? = some Tryz.f126 := Tryz.func126
def y34.r0 : List AStep := [ah 2]
def y34.r1 : List AStep := [ab 3 0,a1e 4 3 0,ab 5 4,aj 6 5 0,a23 7 5 6 268435456,an 8 5 7,ab 2 8]
def y34 : AFunc := ⟨9, [.t 2], .seq (.post [0] (.region y34.r0)) (.seq (.post [2] (.region y34.r1)) (.ret))⟩
theorem y34.ok : y23 Tryz.prog Tryz.f165 y34 = true := by kernel_rfl
theorem y34.at : Tryz.prog.funcs[y5q]? = some Tryz.f165 := Tryz.func165
def y10.r0 : List AStep := [a14 1 0,ah 2]
def y10.r1 : List AStep := [af 5 0 1,ae 6 1 5,a2j 7 6 1,ab 8 7,aw 9 8 0 1,ax 10 8 1 9,a1g 11 8 10 7,av 12 8 11,ab 13 12,aw 14 13 2 1,ax 15 13 1 14,⟨some 16, (some (13, false)), .call y5q [.t 15]⟩,a1s 17 13 16,av 18 13 17,ab 19 18,aw 20 19 4 1,ax 21 19 1 20,⟨some 22, (some (19, false)), .call y5q [.t 21]⟩,a1s 23 19 22,av 24 19 23,ab 25 24,aw 26 25 5 1,ax 27 25 1 26,a25 28 25 27 (-1),a10 29 25 28,az 30 29 5 1,ay 31 29 1 30,⟨some 32, (some (29, true)), .call y5q [.t 31]⟩,a1r 33 29 32,a1f 34 25 29 33,av 35 25 34]
def y10.r2 : List AStep := [ah 2]
def y10.r3 : List AStep := [af 36 0 1,ae 37 1 36,a11 38 37 1,ab 39 38,aw 40 39 0 1,ax 41 39 1 40,a1t 42 39 41 5,av 43 39 42,ab 44 43,aw 45 44 0 1,ax 46 44 1 45,a1t 47 44 46 6,av 48 44 47,ab 3 48]
def y10.r4 : List AStep := [af 49 0 1,ae 50 1 49,a11 51 50 2,ab 52 51,aw 53 52 0 1,ax 54 52 1 53,a1t 55 52 54 3,av 56 52 55,ab 57 56,aw 58 57 0 1,ax 59 57 1 58,a1t 60 57 59 7,av 61 57 60,ab 4 61]
def y10.r5 : List AStep := [af 63 0 1,ae 64 1 63,a11 65 64 5,af 66 1 1,ae 67 1 66,a24 68 67,⟨some 69, none, .op (.eqk .bool true (.t 65) (.t 68))⟩,ab 70 69,aw 71 70 1 1,ax 72 70 1 71,a3a 73 70 72,a10 74 70 73,az 75 74 1 1,ay 76 74 1 75,⟨some 77, (some (74, true)), .call y61 [.t 76]⟩,a1r 78 74 77,a1f 79 70 74 78,av 80 70 79,ab 81 80,aw 82 81 0 1,ax 83 81 1 82,a1t 84 81 83 5,a10 85 81 84,az 86 85 2 1,ay 87 85 1 86,a3k 88 85 87 0,a1f 89 81 85 88,av 90 81 89,ab 62 90]
def y10.r6 : List AStep := [ah 2]
def y10.r7 : List AStep := [ab 92 3,af 93 3 1,ae 94 1 93,a1v 95 94,⟨some 96, none, .op (.eqk .bool true (.t 92) (.t 95))⟩,ab 97 96,a10 98 97 3,a10 99 97 98,az 100 99 3 1,ay 101 99 1 100,⟨some 102, (some (99, true)), .call y61 [.t 101]⟩,a1r 103 99 102,a1f 104 97 99 103,av 105 97 104,ab 91 105]
def y10.r8 : List AStep := [ah 2]
def y10.r9 : List AStep := [ab 107 4,a18 108 107,ab 109 108,az 110 109 4 1,ay 111 109 1 110,a3k 112 109 111 0,an 113 109 112,ab 114 113,aw 115 114 4 1,ax 116 114 1 115,a1t 117 114 116 0,a10 118 114 117,az 119 118 0 1,ay 120 118 1 119,a1q 121 118 120 3,aj 122 118 121,aw 123 122 0 1,ax 124 122 1 123,a1t 125 122 124 7,a1k 126 118 122 125,a1f 127 114 118 126,av 128 114 127,ab 106 128]
def y10.r10 : List AStep := [ah 2]
def y10.r11 : List AStep := [af 129 0 1,ae 130 1 129,a1e 131 130 5,ab 132 131,aw 133 132 5 1,ax 134 132 1 133,a1t 135 132 134 (-1),av 136 132 135,ab 2 136]
def y10 : AFunc := ⟨137, [.t 2], .seq (.post [1] (.region y10.r0)) (.seq (.seq (.post [1, 35] (.region y10.r1)) (.post [1] (.cond (.t 35) (.seq (.post [2] (.region y10.r2)) (.ret)) (.skip)))) (.seq (.post [1, 3] (.region y10.r3)) (.seq (.post [1, 3, 4] (.region y10.r4)) (.seq (.post [1] (.block 0 (.seq (.post [1, 3, 4, 62] (.region y10.r5)) (.post [1] (.cond (.t 62) (.seq (.post [2] (.region y10.r6)) (.ret)) (.seq (.post [1, 4, 91] (.region y10.r7)) (.post [1] (.cond (.t 91) (.seq (.post [2] (.region y10.r8)) (.ret)) (.seq (.post [1, 106] (.region y10.r9)) (.post [1] (.cond (.t 106) (.seq (.post [2] (.region y10.r10)) (.ret)) (.skip)))))))))))) (.seq (.post [2] (.region y10.r11)) (.ret))))))⟩
theorem y10.ok : y23 Tryz.prog Tryz.f151 y10 = true := by kernel_rfl
theorem y10.at : Tryz.prog.funcs[y7t]? = some Tryz.f151 := Tryz.func151
def y21.r0 : List AStep := [a17 2]
def y21.r1 : List AStep := [ab 4 0,⟨some 5, none, .op (.bin .rem (.t 4) (.c (.i .u64 10)))⟩,⟨some 6, none, .op (.conv .u8 (.t 5))⟩,⟨some 7, none, .op (.bin .add (.c (.i .u8 48)) (.t 6))⟩,⟨some 8, none, .op (.bsl 1 [.i .u8 0] [(0, 1, .t 7)])⟩,⟨some 9, none, .op (.b2s (.t 8))⟩,ab 3 9]
def y21.r2 : List AStep := [ab 10 0,⟨some 11, none, .op (.bin .geq (.t 10) (.c (.i .u64 10)))⟩]
def y21.r3 : List AStep := [ab 12 0,⟨some 13, none, .op (.bin .quo (.t 12) (.c (.i .u64 10)))⟩,ab 0 13]
def y21.r4 : List AStep := [ab 14 0,⟨some 15, none, .op (.bin .rem (.t 14) (.c (.i .u64 10)))⟩,⟨some 16, none, .op (.conv .u8 (.t 15))⟩,⟨some 17, none, .op (.bin .add (.c (.i .u8 48)) (.t 16))⟩,⟨some 18, none, .op (.bsl 1 [.i .u8 0] [(0, 1, .t 17)])⟩,⟨some 19, none, .op (.b2s (.t 18))⟩,ab 20 3,a1d 21 19 20,ab 3 21]
def y21.l0 : ACode := .seq (.seq (.post [0, 3, 11] (.region y21.r2)) (.post [0, 3] (.cond (.t 11) (.skip) (.exit 0)))) (.post [0, 3] (.block 1 (.seq (.post [0, 3] (.region y21.r3)) (.post [0, 3] (.region y21.r4)))))
def y21.r5 : List AStep := [ab 22 3,ab 2 22]
def y21 : AFunc := ⟨23, [.t 2], .seq (.post [0] (.region y21.r0)) (.seq (.post [0, 3] (.region y21.r1)) (.seq (.post [3] (.block 0 (.loop y21.l0))) (.seq (.post [2] (.region y21.r5)) (.ret))))⟩
theorem y21.ok : y23 Tryz.prog Tryz.f166 y21 = true := by kernel_rfl
theorem y21.at : Tryz.prog.funcs[y6l]? = some Tryz.f166 := Tryz.func166
def y2i.r0 : List AStep := [a17 2]
def y2i.r1 : List AStep := [ab 3 0,a1e 4 3 0]
def y2i.r2 : List AStep := [ab 5 0,a3f 6 5,⟨some 7, none, .call y6l [.t 6]⟩,ab 2 7]
def y2i.r3 : List AStep := [ab 8 0,a3f 9 8,⟨some 10, none, .op (.un .neg (.t 9))⟩,⟨some 11, none, .call y6l [.t 10]⟩,⟨some 12, none, .op (.bin .add (.c (.s [45])) (.t 11))⟩,ab 2 12]
def y2i : AFunc := ⟨13, [.t 2], .seq (.post [0] (.region y2i.r0)) (.seq (.seq (.post [0, 4] (.region y2i.r1)) (.post [0] (.cond (.t 4) (.seq (.post [2] (.region y2i.r2)) (.ret)) (.skip)))) (.seq (.post [2] (.region y2i.r3)) (.ret)))⟩
theorem y2i.ok : y23 Tryz.prog Tryz.f152 y2i = true := by kernel_rfl
theorem y2i.at : Tryz.prog.funcs[y4f]? = some Tryz.f152 := Tryz.func152
def yb.r0 : List AStep := [a14 1 0,a17 2,ac 3 0]
def yb.r1 : List AStep := [ar 5 6 1,⟨some 6, none, .call y7t [.t 5]⟩,a18 7 6]
def yb.r2 : List AStep := [a17 2,ac 3 11]
def yb.r3 : List AStep := [af 8 1 1,ae 9 1 8,ab 4 9]
def yb.r4 : List AStep := [af 10 2 1,ae 11 1 10,a19 12 11 0]
def yb.r5 : List AStep := [ab 13 4,a2b 14 13 126,af 15 2 1,ae 16 1 15,⟨some 17, none, .call y4f [.t 16]⟩,a1d 18 14 17,ab 4 18]
def yb.r6 : List AStep := [af 19 0 1,ae 20 1 19]
def yb.r7 : List AStep := [a11 22 20 1,ab 21 22]
def yb.r8 : List AStep := [ab 23 4,a2b 24 23 46,af 25 3 1,ae 26 1 25,a1d 27 24 26,ab 4 27]
def yb.r9 : List AStep := [a11 29 20 2,ab 28 29]
def yb.r10 : List AStep := [ab 30 4,a2b 31 30 36,af 32 4 1,ae 33 1 32,⟨some 34, none, .call y4f [.t 33]⟩,a1d 35 31 34,ab 4 35]
def yb.r11 : List AStep := [a11 37 20 3,ab 36 37]
def yb.r12 : List AStep := [ab 38 4,a2b 39 38 64,af 40 4 1,ae 41 1 40,⟨some 42, none, .call y4f [.t 41]⟩,a1d 43 39 42,ab 4 43]
def yb.r13 : List AStep := [a11 45 20 4,ab 44 45]
def yb.r14 : List AStep := [ab 46 4,⟨some 47, none, .op (.bin .add (.t 46) (.c (.s [40, 41])))⟩,ab 4 47]
def yb.r15 : List AStep := [a11 49 20 5,ab 48 49]
def yb.r16 : List AStep := [af 50 3 1,ae 51 1 50,ab 4 51]
def yb.r17 : List AStep := [a11 53 20 6,ab 52 53]
def yb.r18 : List AStep := [ab 54 4,a2b 55 54 37,af 56 3 1,ae 57 1 56,a1d 58 55 57,ab 4 58]
def yb.r19 : List AStep := [a11 60 20 7,ab 59 60]
def yb.r20 : List AStep := [ab 61 4,a2b 62 61 35,af 63 4 1,ae 64 1 63,⟨some 65, none, .call y4f [.t 64]⟩,a1d 66 62 65,ab 4 66]
def yb.r21 : List AStep := [af 67 5 1,ae 68 1 67,a1e 69 68 0]
def yb.r22 : List AStep := [ab 70 4,a2b 71 70 43,af 72 5 1,ae 73 1 72,⟨some 74, none, .call y4f [.t 73]⟩,a1d 75 71 74,ab 4 75]
def yb.r23 : List AStep := [ab 76 4,ab 2 76,ac 3 0]
def yb : AFunc := ⟨77, [.t 2, .t 3], .seq (.post [1] (.region yb.r0)) (.seq (.seq (.post [1, 7] (.region yb.r1)) (.post [1] (.cond (.t 7) (.seq (.post [2, 3] (.region yb.r2)) (.ret)) (.skip)))) (.seq (.post [1, 4] (.region yb.r3)) (.seq (.seq (.post [1, 4, 12] (.region yb.r4)) (.post [1, 4] (.cond (.t 12) (.post [1, 4] (.region yb.r5)) (.skip)))) (.seq (.seq (.post [1, 4, 20] (.region yb.r6)) (.post [1, 4] (.block 0 (.seq (.post [1, 4, 20, 21] (.region yb.r7)) (.post [1, 4] (.cond (.t 21) (.post [1, 4] (.region yb.r8)) (.seq (.post [1, 4, 20, 28] (.region yb.r9)) (.post [1, 4] (.cond (.t 28) (.post [1, 4] (.region yb.r10)) (.seq (.post [1, 4, 20, 36] (.region yb.r11)) (.post [1, 4] (.cond (.t 36) (.post [1, 4] (.region yb.r12)) (.seq (.post [1, 4, 20, 44] (.region yb.r13)) (.post [1, 4] (.cond (.t 44) (.post [1, 4] (.region yb.r14)) (.seq (.post [1, 4, 20, 48] (.region yb.r15)) (.post [1, 4] (.cond (.t 48) (.post [1, 4] (.region yb.r16)) (.seq (.post [1, 4, 20, 52] (.region yb.r17)) (.post [1, 4] (.cond (.t 52) (.post [1, 4] (.region yb.r18)) (.seq (.post [1, 4, 59] (.region yb.r19)) (.post [1, 4] (.cond (.t 59) (.post [1, 4] (.region yb.r20)) (.skip))))))))))))))))))))))))) (.seq (.seq (.post [1, 4, 69] (.region yb.r21)) (.post [4] (.cond (.t 69) (.post [4] (.region yb.r22)) (.skip)))) (.seq (.post [2, 3] (.region yb.r23)) (.ret)))))))⟩
theorem yb.ok : y23 Tryz.prog Tryz.f128 yb = true := by kernel_rfl
theorem yb.at : Tryz.prog.funcs[y88]? = some Tryz.f128 := Tryz.func128
def y1i.r0 : List AStep := [a1i 2 0 0 0 0,ac 3 0]
def y1i.r1 : List AStep := [ab 16 0,⟨some 17, none, .call y7s [.t 16]⟩,ab 15 17,al 18 0 15,al 19 1 15,al 20 2 15,al 21 3 15,al 22 4 15,ab 4 18,ab 5 19,ab 6 20,ab 7 21,ab 8 22]
def y1i.r2 : List AStep := [ab 24 7,⟨some 25, none, .call y60 [.t 24]⟩,ab 23 25,al 26 0 23,al 27 1 23,ab 9 26,ab 10 27]
def y1i.r3 : List AStep := [ab 28 4,ab 29 5,ab 30 7,a3l 31 0 0 0 0 0 1 1 1 1 28 2 1 29 3 1 30 5 1 (-1),ab 32 4,ab 33 5,ab 34 9,a3l 35 0 0 0 0 0 1 2 1 1 32 2 1 33 4 1 34 5 1 (-1),ab 36 4,ab 37 5,ab 38 9,a3l 39 0 0 0 0 0 1 3 1 1 36 2 1 37 4 1 38 5 1 (-1),ab 40 4,ab 41 5,⟨some 42, none, .op (.build [.i .i64 0, .s [], .i .i64 0, .s [], .i .i64 0, .i .i64 0] [(0, 1, .c (.i .i64 4)), (1, 1, .t 40), (2, 1, .t 41), (5, 1, .c (.i .i64 (-1)))])⟩,ab 43 4,ab 44 8,⟨some 45, none, .op (.build [.i .i64 0, .s [], .i .i64 0, .s [], .i .i64 0, .i .i64 0] [(0, 1, .c (.i .i64 5)), (3, 1, .t 43), (5, 1, .t 44)])⟩,ab 46 4,ab 47 5,ab 48 7,ab 49 8,⟨some 50, none, .op (.build [.i .i64 0, .s [], .i .i64 0, .s [], .i .i64 0, .i .i64 0] [(0, 1, .c (.i .i64 6)), (1, 1, .t 46), (2, 1, .t 47), (3, 1, .t 48), (5, 1, .t 49)])⟩,ab 51 4,ab 52 5,ab 53 9,ab 54 8,⟨some 55, none, .op (.build [.i .i64 0, .s [], .i .i64 0, .s [], .i .i64 0, .i .i64 0] [(0, 1, .c (.i .i64 7)), (1, 1, .t 51), (2, 1, .t 52), (4, 1, .t 53), (5, 1, .t 54)])⟩,⟨some 56, none, .op (.bfz 7 6 [.i .i64 0, .s [], .i .i64 0, .s [], .i .i64 0, .i .i64 0] [(0, 6, .t 31), (6, 6, .t 35), (12, 6, .t 39), (18, 6, .t 42), (24, 6, .t 45), (30, 6, .t 50), (36, 6, .t 55)])⟩,ab 11 56]
def y1i.r4 : List AStep := [ac 12 0]
def y1i.r5 : List AStep := [ab 57 12,ab 58 11,ai 59 58,am 60 57 59]
def y1i.r6 : List AStep := [ab 64 11,ab 65 12,ak 66 6 64 65,ar 67 6 66,⟨some 68, none, .call y88 [.t 67]⟩,ab 63 68,al 69 0 63,al 70 1 63,ab 13 69,ab 14 70]
def y1i.r7 : List AStep := [ab 71 14,a11 72 71 0,ab 73 72,aj 74 73 13,aj 75 73 0,a3g 76 73 74 75,an 77 73 76,ab 78 77,aj 79 78 6,⟨some 80, (some (78, true)), .op (.bin .neq (.t 79) (.c (.s [])))⟩,aj 81 78 80,a10 82 81 11,a10 83 81 12,a27 84 81 6 82 83,aw 85 81 0 84,ax 86 81 1 85,a1t 87 81 86 5,a1k 88 78 81 87,an 89 78 88]
def y1i.r8 : List AStep := [ab 90 11,ab 91 12,ak 92 6 90 91,ar 93 6 92,aq 6 2 93,ac 3 0]
def y1i.r9 : List AStep := [ab 61 12,ap 62 61 1,ab 12 62]
def y1i.l0 : ACode := .seq (.seq (.post [0, 2, 6, 11, 12, 60] (.region y1i.r5)) (.post [0, 2, 6, 11, 12] (.cond (.t 60) (.skip) (.exit 0)))) (.seq (.post [0, 2, 6, 11, 12] (.block 1 (.seq (.post [0, 2, 6, 11, 12, 13, 14] (.region y1i.r6)) (.seq (.post [0, 2, 6, 11, 12, 89] (.region y1i.r7)) (.post [0, 2, 6, 11, 12] (.cond (.t 89) (.seq (.post [2, 3] (.region y1i.r8)) (.ret)) (.skip))))))) (.post [0, 2, 6, 11, 12] (.region y1i.r9)))
def y1i.r10 : List AStep := [⟨some 94, none, .op (.build [.i .i64 0, .s [], .i .i64 0, .s [], .i .i64 0, .i .i64 0] [])⟩,aq 6 2 94,ac 3 11]
def y1i : AFunc := ⟨95, [.cell 2 true 6, .t 3], .seq (.post [0, 2] (.region y1i.r0)) (.seq (.post [0, 2, 4, 5, 6, 7, 8] (.region y1i.r1)) (.seq (.post [0, 2, 4, 5, 6, 7, 8, 9] (.region y1i.r2)) (.seq (.post [0, 2, 6, 11] (.region y1i.r3)) (.seq (.seq (.post [0, 2, 6, 11, 12] (.region y1i.r4)) (.post [2] (.block 0 (.loop y1i.l0)))) (.seq (.post [2, 3] (.region y1i.r10)) (.ret))))))⟩
theorem y1i.ok : y23 Tryz.prog Tryz.f96 y1i = true := by kernel_rfl
theorem y1i.at : Tryz.prog.funcs[y4q]? = some Tryz.f96 := Tryz.func96
def y1s.r0 : List AStep := [ah 6]
def y1s.r1 : List AStep := [ac 7 0]
def y1s.r2 : List AStep := [ab 8 7,ab 9 0,a1b 10 9,am 11 8 10]
def y1s.r3 : List AStep := [ab 14 0,ab 15 7,a1z 16 14 15,⟨some 17, none, .op (.bin .neq (.t 16) (.c (.i .u8 105)))⟩,ab 18 17,aj 19 18 0,aj 20 18 7,a33 21 18 19 20,⟨some 22, (some (18, true)), .op (.bin .neq (.t 21) (.c (.i .u8 112)))⟩,an 23 18 22]
def y1s.r4 : List AStep := [ah 6]
def y1s.r5 : List AStep := [ab 12 7,ap 13 12 1,ab 7 13]
def y1s.l0 : ACode := .seq (.seq (.post [0, 1, 2, 7, 11] (.region y1s.r2)) (.post [0, 1, 2, 7] (.cond (.t 11) (.skip) (.exit 0)))) (.seq (.post [0, 1, 2, 7] (.block 1 (.seq (.post [0, 1, 2, 7, 23] (.region y1s.r3)) (.post [0, 1, 2, 7] (.cond (.t 23) (.seq (.post [6] (.region y1s.r4)) (.ret)) (.skip)))))) (.post [0, 1, 2, 7] (.region y1s.r5)))
def y1s.r6 : List AStep := [ab 24 0,a1b 25 24,ab 26 1,a39 27 25 26,ab 28 27,aj 29 28 0,a2e 30 28 29,aj 31 28 2,⟨some 32, (some (28, true)), .op (.bin .leq (.t 30) (.t 31))⟩,an 33 28 32,ab 6 33]
def y1s : AFunc := ⟨34, [.t 6], .seq (.post [0, 1, 2] (.region y1s.r0)) (.seq (.seq (.post [0, 1, 2, 7] (.region y1s.r1)) (.post [0, 1, 2] (.block 0 (.loop y1s.l0)))) (.seq (.post [6] (.region y1s.r6)) (.ret)))⟩
theorem y1s.ok : y23 Tryz.prog Tryz.f121 y1s = true := by kernel_rfl
theorem y1s.at : Tryz.prog.funcs[y5p]? = some Tryz.f121 := Tryz.func121
def yf.r0 : List AStep := [a14 1 0,ac 2 0]
def yf.r1 : List AStep := [af 9 0 1,ae 10 1 9,⟨some 11, none, .call y4q [.t 10]⟩,ab 8 11,al 12 0 8,al 13 1 8,a1i 3 0 0 0 0,aq 6 3 12,ab 4 13]
def yf.r2 : List AStep := [ab 14 4,a1c 15 14 0,ab 16 15,aw 17 16 0 3,ax 18 16 1 17,a2t 19 16 18 5,av 20 16 19,ab 21 20,aw 22 21 5 3,ax 23 21 1 22,a2g 24 21 23 0,av 25 21 24]
def yf.r3 : List AStep := [ac 2 11]
def yf.r4 : List AStep := [af 26 1 1,ae 27 1 26,⟨some 28, none, .call y5p [.t 27, .c (.i .i64 1), .c (.i .i64 64)]⟩,a18 29 28]
def yf.r5 : List AStep := [ac 2 5]
def yf.r6 : List AStep := [ac 5 0]
def yf.r7 : List AStep := [ab 30 5,af 31 2 1,ae 32 1 31,ai 33 32,am 34 30 33]
def yf.r8 : List AStep := [af 37 2 1,ae 38 1 37,ab 39 5,ak 40 2 38 39,ar 41 2 40,⟨some 6, none, .op (.new [.i .i64 0, .s []])⟩,aq 2 6 41]
def yf.r9 : List AStep := [af 42 0 6,ae 43 1 42,a2j 44 43 0,ab 45 44,aw 46 45 0 6,ax 47 45 1 46,aw 48 45 1 1,ax 49 45 1 48,a1u 50 45 49,⟨some 51, (some (45, false)), .op (.bin .geq (.t 47) (.t 50))⟩,av 52 45 51,ab 53 52,aw 54 53 1 6,ax 55 53 1 54,a1u 56 53 55,a2t 57 53 56 1,av 58 53 57,ab 59 58,aw 60 59 1 6,ax 61 59 1 60,a1u 62 59 61,a1g 63 59 62 60,av 64 59 63,ab 65 64,a10 66 65 5,a1g 67 65 66 0,a10 68 65 67,az 69 68 0 6,ay 70 68 1 69,az 71 68 2 1,ay 72 68 1 71,aj 73 68 5,a2a 74 68 73 1,a1l 75 68 2 72 74,az 76 68 0 75,ay 77 68 1 76,a2m 78 68 70 77,a1f 79 65 68 78,av 80 65 79]
def yf.r10 : List AStep := [ac 2 3]
def yf.r11 : List AStep := [ac 7 0]
def yf.r12 : List AStep := [ab 81 7,ab 82 5,am 83 81 82]
def yf.r13 : List AStep := [af 86 2 1,ae 87 1 86,ab 88 7,ak 89 2 87 88,ar 90 2 89,ar 91 2 6,⟨some 92, none, .op (.eqa false [0, 1] (.t 90) (.t 91))⟩]
def yf.r14 : List AStep := [ac 2 3]
def yf.r15 : List AStep := [ab 84 7,ap 85 84 1,ab 7 85]
def yf.l1 : ACode := .seq (.seq (.post [1, 5, 6, 7, 83] (.region yf.r12)) (.post [1, 5, 6, 7] (.cond (.t 83) (.skip) (.exit 2)))) (.seq (.post [1, 5, 6, 7] (.block 3 (.seq (.post [1, 5, 6, 7, 92] (.draw [0, 1, 0, 7, 15, 0, 63] yf.r13)) (.post [1, 5, 6, 7] (.cond (.t 92) (.seq (.post [2] (.region yf.r14)) (.ret)) (.skip)))))) (.post [1, 5, 6, 7] (.region yf.r15)))
def yf.r16 : List AStep := [ab 35 5,ap 36 35 1,ab 5 36]
def yf.l0 : ACode := .seq (.seq (.post [1, 5, 34] (.region yf.r7)) (.post [1, 5] (.cond (.t 34) (.skip) (.exit 0)))) (.seq (.post [1, 5] (.block 1 (.seq (.post [1, 5, 6] (.region yf.r8)) (.seq (.seq (.post [1, 5, 6, 80] (.draw [0, 1, 3, 7, 15, 31, 15, 79, 207, 511, 1023, 2047, 4095, 8191, 16383, 32767, 65535, 131071, 262143, 524287, 1048575, 2097151, 4194303, 8388607, 16777215, 33554431, 67108863, 134217727, 268435455, 134217727, 671088639, 134217727, 2281701375, 8187281407, 16777215999, 33957085183, 68719476735, 137438953471, 274877906943] yf.r9)) (.post [1, 5, 6] (.cond (.t 80) (.seq (.post [2] (.region yf.r10)) (.ret)) (.skip)))) (.seq (.post [1, 5, 6, 7] (.region yf.r11)) (.post [1, 5] (.block 2 (.loop yf.l1)))))))) (.post [1, 5] (.region yf.r16)))
def yf.r17 : List AStep := [ac 2 0]
def yf : AFunc := ⟨93, [.t 2], .seq (.post [1] (.region yf.r0)) (.seq (.post [1, 3, 4] (.region yf.r1)) (.seq (.seq (.post [1, 25] (.region yf.r2)) (.post [1] (.cond (.t 25) (.seq (.post [2] (.region yf.r3)) (.ret)) (.skip)))) (.seq (.seq (.post [1, 29] (.region yf.r4)) (.post [1] (.cond (.t 29) (.seq (.post [2] (.region yf.r5)) (.ret)) (.skip)))) (.seq (.seq (.post [1, 5] (.region yf.r6)) (.post [] (.block 0 (.loop yf.l0)))) (.seq (.post [2] (.region yf.r17)) (.ret))))))⟩
theorem yf.ok : y23 Tryz.prog Tryz.f92 yf = true := by kernel_rfl
theorem yf.at : Tryz.prog.funcs[y7d]? = some Tryz.f92 := Tryz.func92
def y1n.r0 : List AStep := [a14 1 0,ac 2 0]
def y1n.r1 : List AStep := [af 6 0 1,ae 7 1 6,⟨some 8, none, .call y4q [.t 7]⟩,ab 5 8,al 9 0 5,al 10 1 5,a1i 3 0 0 0 0,aq 6 3 9,ab 4 10]
def y1n.r2 : List AStep := [ab 11 4,a1c 12 11 0,ab 13 12,aw 14 13 0 3,ax 15 13 1 14,a25 16 13 15 4,av 17 13 16]
def y1n.r3 : List AStep := [ac 2 11]
def y1n.r4 : List AStep := [af 18 1 1,ae 19 1 18,⟨some 20, none, .call y5p [.t 19, .c (.i .i64 0), .c (.i .i64 6)]⟩,a18 21 20,ab 22 21,aw 23 22 2 1,ax 24 22 1 23,⟨some 25, (some (22, false)), .op (.bin .neq (.t 24) (.c (.s [105])))⟩,a10 26 22 25,az 27 26 2 1,ay 28 26 1 27,a2h 29 26 28 112,a1f 30 22 26 29,a10 31 22 30,az 32 31 2 1,ay 33 31 1 32,a2h 34 31 33 118,a1f 35 22 31 34,av 36 22 35]
def y1n.r5 : List AStep := [ac 2 5]
def y1n.r6 : List AStep := [ac 2 0]
def y1n : AFunc := ⟨37, [.t 2], .seq (.post [1] (.region y1n.r0)) (.seq (.post [1, 3, 4] (.region y1n.r1)) (.seq (.seq (.post [1, 17] (.region y1n.r2)) (.post [1] (.cond (.t 17) (.seq (.post [2] (.region y1n.r3)) (.ret)) (.skip)))) (.seq (.seq (.post [36] (.region y1n.r4)) (.post [] (.cond (.t 36) (.seq (.post [2] (.region y1n.r5)) (.ret)) (.skip)))) (.seq (.post [2] (.region y1n.r6)) (.ret)))))⟩
theorem y1n.ok : y23 Tryz.prog Tryz.f93 y1n = true := by kernel_rfl
theorem y1n.at : Tryz.prog.funcs[y6s]? = some Tryz.f93 := Tryz.func93
def y2h.r0 : List AStep := [ah 2]
def y2h.r1 : List AStep := [ab 6 0,⟨some 7, none, .call y4q [.t 6]⟩,ab 5 7,al 8 0 5,al 9 1 5,a1i 3 0 0 0 0,aq 6 3 8,ab 4 9]
def y2h.r2 : List AStep := [ab 10 4,a11 11 10 0,ab 12 11,az 13 12 0 3,ay 14 12 1 13,a23 15 12 14 3,aj 16 12 15,aw 17 16 5 3,ax 18 16 1 17,a2g 19 16 18 0,a1k 20 12 16 19,an 21 12 20,ab 2 21]
def y2h : AFunc := ⟨22, [.t 2], .seq (.post [0] (.region y2h.r0)) (.seq (.post [3, 4] (.region y2h.r1)) (.seq (.post [2] (.region y2h.r2)) (.ret)))⟩
theorem y2h.ok : y23 Tryz.prog Tryz.f51 y2h = true := by kernel_rfl
theorem y2h.at : Tryz.prog.funcs[y5f]? = some Tryz.f51 := Tryz.func51
def y2f.r0 : List AStep := [ah 2]
def y2f.r1 : List AStep := [ab 6 0,⟨some 7, none, .call y4q [.t 6]⟩,ab 5 7,al 8 0 5,al 9 1 5,a1i 3 0 0 0 0,aq 6 3 8,ab 4 9]
def y2f.r2 : List AStep := [ab 10 4,a11 11 10 0,ab 12 11,az 13 12 0 3,ay 14 12 1 13,a1q 15 12 14 4,aj 16 12 15,aw 17 16 5 3,ax 18 16 1 17,a2g 19 16 18 0,a1k 20 12 16 19,an 21 12 20,ab 2 21]
def y2f : AFunc := ⟨22, [.t 2], .seq (.post [0] (.region y2f.r0)) (.seq (.post [3, 4] (.region y2f.r1)) (.seq (.post [2] (.region y2f.r2)) (.ret)))⟩
theorem y2f.ok : y23 Tryz.prog Tryz.f122 y2f = true := by kernel_rfl
theorem y2f.at : Tryz.prog.funcs[y7q]? = some Tryz.f122 := Tryz.func122
def y1x.r0 : List AStep := [a17 2,a17 3,ah 4]
def y1x.r1 : List AStep := [ac 5 0]
def y1x.r2 : List AStep := [ab 7 5,ab 8 0,a1b 9 8,am 10 7 9]
def y1x.r3 : List AStep := [ab 13 0,ab 14 5,a1z 15 13 14,a28 16 15 62]
def y1x.r4 : List AStep := [ab 17 0,ab 18 5,ap 19 18 1,a2q 20 17 19,ab 6 20]
def y1x.r5 : List AStep := [ab 21 0,ab 22 5,a29 23 21 22,ab 24 6,ab 25 0,ab 26 5,a29 27 25 26,⟨some 28, none, .call y5p [.t 27, .c (.i .i64 0), .c (.i .i64 6)]⟩,ab 29 28,aj 30 29 6,a35 31 29 30,aj 32 29 31,a10 33 32 6,⟨some 34, (some (32, false)), .op (.bin .eql (.t 33) (.c (.s [105])))⟩,a1k 35 29 32 34,aj 36 29 35,a10 37 36 6,⟨some 38, (some (36, false)), .op (.bin .eql (.t 37) (.c (.s [112])))⟩,a1k 39 29 36 38,an 40 29 39,ab 2 23,ab 3 24,ab 4 40]
def y1x.r6 : List AStep := [ab 11 5,ap 12 11 1,ab 5 12]
def y1x.l0 : ACode := .seq (.seq (.post [0, 5, 10] (.region y1x.r2)) (.post [0, 5] (.cond (.t 10) (.skip) (.exit 0)))) (.seq (.post [0, 5] (.block 1 (.seq (.post [0, 5, 16] (.region y1x.r3)) (.post [0, 5] (.cond (.t 16) (.seq (.post [0, 5, 6] (.region y1x.r4)) (.seq (.post [2, 3, 4] (.draw [0, 0, 3, 0, 0, 0, 48, 112, 240, 496, 1008, 2032, 4080, 8176, 16368, 32752, 65520, 131056, 262128, 524272, 65527, 1114111, 4194303] y1x.r5)) (.ret))) (.skip)))))) (.post [0, 5] (.region y1x.r6)))
def y1x.r7 : List AStep := [a17 2,a17 3,ah 4]
def y1x : AFunc := ⟨41, [.t 2, .t 3, .t 4], .seq (.post [0] (.region y1x.r0)) (.seq (.seq (.post [0, 5] (.region y1x.r1)) (.post [] (.block 0 (.loop y1x.l0)))) (.seq (.post [2, 3, 4] (.region y1x.r7)) (.ret)))⟩
theorem y1x.ok : y23 Tryz.prog Tryz.f149 y1x = true := by kernel_rfl
theorem y1x.at : Tryz.prog.funcs[y8p]? = some Tryz.f149 := Tryz.func149
def y14.r0 : List AStep := [a14 1 0,ac 2 0]
def y14.r1 : List AStep := [af 9 4 1,ae 10 1 9,⟨some 11, none, .call y8p [.t 10]⟩,ab 8 11,al 12 0 8,al 13 1 8,al 14 2 8,ab 3 12,ab 4 13,ab 5 14]
def y14.r2 : List AStep := [ab 15 5,a18 16 15,ab 17 16,aw 18 17 3 1,ax 19 17 1 18,a25 20 17 19 0,av 21 17 20,ab 22 21,aw 23 22 5 1,ax 24 22 1 23,a1p 25 22 24,a10 26 22 3,a1u 27 22 26,⟨some 28, (some (22, false)), .op (.bin .add (.t 27) (.c (.i .i64 1)))⟩,a26 29 22 25 28,av 30 22 29]
def y14.r3 : List AStep := [ac 2 3]
def y14.r4 : List AStep := [ac 6 0]
def y14.r5 : List AStep := [ab 31 6,af 32 5 1,ae 33 1 32,ai 34 33,am 35 31 34]
def y14.r6 : List AStep := [ab 38 4,a2z 39 38 112,ab 7 39]
def y14.r7 : List AStep := [ab 40 6,a19 41 40 0]
def y14.r8 : List AStep := [ab 42 3,ab 43 6,a32 44 43 1,a1z 45 42 44,a28 46 45 112,ab 7 46]
def y14.r9 : List AStep := [af 47 5 1,ae 48 1 47,ab 49 6,ak 50 1 48 49,ae 51 1 50,a1v 52 51,ab 53 52,aj 54 53 7,a1r 55 53 54,aj 56 53 55,aw 57 56 5 1,ax 58 56 1 57,a10 59 56 6,a27 60 56 1 58 59,ax 61 56 1 60,⟨some 62, (some (56, false)), .call y5f [.t 61]⟩,a1s 63 56 62,a1k 64 53 56 63,an 65 53 64]
def y14.r10 : List AStep := [ac 2 3]
def y14.r11 : List AStep := [ab 36 6,ap 37 36 1,ab 6 37]
def y14.l0 : ACode := .seq (.seq (.post [1, 3, 4, 6, 35] (.region y14.r5)) (.post [1, 3, 4, 6] (.cond (.t 35) (.skip) (.exit 0)))) (.seq (.post [1, 3, 4, 6] (.block 1 (.seq (.post [1, 3, 4, 6, 7] (.region y14.r6)) (.seq (.seq (.post [1, 3, 4, 6, 7, 41] (.region y14.r7)) (.post [1, 3, 4, 6, 7] (.cond (.t 41) (.post [1, 3, 4, 6, 7] (.region y14.r8)) (.skip)))) (.seq (.post [1, 3, 4, 6, 65] (.region y14.r9)) (.post [1, 3, 4, 6] (.cond (.t 65) (.seq (.post [2] (.region y14.r10)) (.ret)) (.skip)))))))) (.post [1, 3, 4, 6] (.region y14.r11)))
def y14.r12 : List AStep := [ac 2 0]
def y14 : AFunc := ⟨66, [.t 2], .seq (.post [1] (.region y14.r0)) (.seq (.post [1, 3, 4, 5] (.region y14.r1)) (.seq (.seq (.post [1, 3, 4, 30] (.region y14.r2)) (.post [1, 3, 4] (.cond (.t 30) (.seq (.post [2] (.region y14.r3)) (.ret)) (.skip)))) (.seq (.seq (.post [1, 3, 4, 6] (.region y14.r4)) (.post [] (.block 0 (.loop y14.l0)))) (.seq (.post [2] (.region y14.r12)) (.ret)))))⟩
theorem y14.ok : y23 Tryz.prog Tryz.f123 y14 = true := by kernel_rfl
theorem y14.at : Tryz.prog.funcs[y87]? = some Tryz.f123 := Tryz.func123
def yw.r0 : List AStep := [a14 1 0,ac 2 0]
def yw.r1 : List AStep := [af 5 0 1,ae 6 1 5,a2j 7 6 1,ab 8 7,aw 9 8 0 1,ax 10 8 1 9,a1g 11 8 10 6,av 12 8 11]
def yw.r2 : List AStep := [ac 2 5]
def yw.r3 : List AStep := [af 14 1 1,ae 15 1 14,⟨some 16, none, .call y4q [.t 15]⟩,ab 13 16,al 17 0 13,al 18 1 13,a1i 3 0 0 0 0,aq 6 3 17,ab 4 18]
def yw.r4 : List AStep := [af 19 1 1,ae 20 1 19,⟨some 21, none, .call y5f [.t 20]⟩,a18 22 21,ab 23 22,aw 24 23 0 1,ax 25 23 1 24,a1t 26 23 25 6,a10 27 23 26,aj 28 27 4,a3k 29 27 28 0,aj 30 27 29,aw 31 30 0 3,ax 32 30 1 31,a25 33 30 32 3,a1k 34 27 30 33,a1f 35 23 27 34,av 36 23 35,ab 37 36,aw 38 37 0 1,ax 39 37 1 38,a1t 40 37 39 1,a10 41 37 40,az 42 41 2 1,ay 43 41 1 42,⟨some 44, (some (41, true)), .call y7q [.t 43]⟩,a1r 45 41 44,a1f 46 37 41 45,av 47 37 46,ab 48 47,aw 49 48 0 1,ax 50 48 1 49,a25 51 48 50 1,a10 52 48 51,az 53 52 2 1,ay 54 52 1 53,⟨some 55, (some (52, true)), .call y5f [.t 54]⟩,a1r 56 52 55,a1f 57 48 52 56,av 58 48 57]
def yw.r5 : List AStep := [ac 2 11]
def yw.r6 : List AStep := [af 60 0 1,ae 61 1 60,a11 62 61 6,ab 59 62]
def yw.r7 : List AStep := [ar 63 6 1,⟨some 64, none, .call y87 [.t 63]⟩,ab 2 64]
def yw.r8 : List AStep := [af 66 5 1,ae 67 1 66,ai 68 67,a19 69 68 0,ab 65 69]
def yw.r9 : List AStep := [ac 2 3]
def yw.r10 : List AStep := [af 71 0 1,ae 72 1 71,a11 73 72 5,ab 70 73]
def yw.r11 : List AStep := [af 74 3 1,ae 75 1 74,a2j 76 75 0,ab 77 76,aw 78 77 3 1,ax 79 77 1 78,a1g 80 77 79 64,av 81 77 80,ab 82 81,aw 83 82 4 1,ax 84 82 1 83,a1u 85 82 84,a2t 86 82 85 1,av 87 82 86,ab 88 87,aw 89 88 4 1,ax 90 88 1 89,a1u 91 88 90,a1g 92 88 91 60,av 93 88 92]
def yw.r12 : List AStep := [ac 2 3]
def yw.r13 : List AStep := [ac 2 0]
def yw.r14 : List AStep := [af 95 3 1,ae 96 1 95,a1c 97 96 0,ab 98 97,aw 99 98 4 1,ax 100 98 1 99,a3a 101 98 100,av 102 98 101,ab 94 102]
def yw.r15 : List AStep := [ac 2 3]
def yw.r16 : List AStep := [ac 2 0]
def yw : AFunc := ⟨103, [.t 2], .seq (.post [1] (.region yw.r0)) (.seq (.seq (.post [1, 12] (.region yw.r1)) (.post [1] (.cond (.t 12) (.seq (.post [2] (.region yw.r2)) (.ret)) (.skip)))) (.seq (.post [1, 3, 4] (.region yw.r3)) (.seq (.seq (.post [1, 58] (.region yw.r4)) (.post [1] (.cond (.t 58) (.seq (.post [2] (.region yw.r5)) (.ret)) (.skip)))) (.seq (.post [] (.block 0 (.seq (.post [1, 59] (.region yw.r6)) (.post [] (.cond (.t 59) (.seq (.post [2] (.region yw.r7)) (.ret)) (.seq (.post [1, 65] (.region yw.r8)) (.post [] (.cond (.t 65) (.seq (.post [2] (.region yw.r9)) (.ret)) (.seq (.post [1, 70] (.region yw.r10)) (.post [] (.cond (.t 70) (.seq (.seq (.post [93] (.region yw.r11)) (.post [] (.cond (.t 93) (.seq (.post [2] (.region yw.r12)) (.ret)) (.skip)))) (.seq (.post [2] (.region yw.r13)) (.ret))) (.seq (.post [94] (.region yw.r14)) (.post [] (.cond (.t 94) (.seq (.post [2] (.region yw.r15)) (.ret)) (.skip))))))))))))))) (.seq (.post [2] (.region yw.r16)) (.ret))))))⟩
theorem yw.ok : y23 Tryz.prog Tryz.f94 yw = true := by kernel_rfl
theorem yw.at : Tryz.prog.funcs[y8q]? = some Tryz.f94 := Tryz.func94
def y28.r0 : List AStep := [ac 4 0]
def y28.r1 : List AStep := [ab 6 0,ab 7 1,am 8 6 7,ab 5 8]
def y28.r2 : List AStep := [ac 4 (-1)]
def y28.r3 : List AStep := [ab 10 0,ab 11 1,a2n 12 10 11,ab 9 12]
def y28.r4 : List AStep := [ac 4 1]
def y28.r5 : List AStep := [ac 4 0]
def y28 : AFunc := ⟨13, [.t 4], .seq (.post [0, 1] (.region y28.r0)) (.seq (.post [] (.block 0 (.seq (.post [0, 1, 5] (.region y28.r1)) (.post [] (.cond (.t 5) (.seq (.post [4] (.region y28.r2)) (.ret)) (.seq (.post [9] (.region y28.r3)) (.post [] (.cond (.t 9) (.seq (.post [4] (.region y28.r4)) (.ret)) (.skip))))))))) (.seq (.post [4] (.region y28.r5)) (.ret)))⟩
theorem y28.ok : y23 Tryz.prog Tryz.f124 y28 = true := by kernel_rfl
theorem y28.at : Tryz.prog.funcs[y5z]? = some Tryz.f124 := Tryz.func124
def y25.r0 : List AStep := [ac 4 0]
def y25.r1 : List AStep := [ab 6 0,ab 7 1,am 8 6 7,ab 5 8]
def y25.r2 : List AStep := [ac 4 (-1)]
def y25.r3 : List AStep := [ab 10 0,ab 11 1,a2n 12 10 11,ab 9 12]
def y25.r4 : List AStep := [ac 4 1]
def y25.r5 : List AStep := [ac 4 0]
def y25 : AFunc := ⟨13, [.t 4], .seq (.post [0, 1] (.region y25.r0)) (.seq (.post [] (.block 0 (.seq (.post [0, 1, 5] (.region y25.r1)) (.post [] (.cond (.t 5) (.seq (.post [4] (.region y25.r2)) (.ret)) (.seq (.post [9] (.region y25.r3)) (.post [] (.cond (.t 9) (.seq (.post [4] (.region y25.r4)) (.ret)) (.skip))))))))) (.seq (.post [4] (.region y25.r5)) (.ret)))⟩
theorem y25.ok : y23 Tryz.prog Tryz.f125 y25 = true := by kernel_rfl
theorem y25.at : Tryz.prog.funcs[y4w]? = some Tryz.f125 := Tryz.func125
def yt.r0 : List AStep := [a14 2 0,a14 3 1,ac 4 0]
def yt.r1 : List AStep := [af 8 0 2,ae 9 1 8,af 10 0 3,ae 11 1 10,⟨some 12, none, .call y5z [.t 9, .t 11]⟩,af 13 1 2,ae 14 1 13,af 15 1 3,ae 16 1 15,⟨some 17, none, .call y4w [.t 14, .t 16]⟩,af 18 2 2,ae 19 1 18,af 20 2 3,ae 21 1 20,⟨some 22, none, .call y4w [.t 19, .t 21]⟩,af 23 3 2,ae 24 1 23,af 25 3 3,ae 26 1 25,⟨some 27, none, .call y5z [.t 24, .t 26]⟩,af 28 4 2,ae 29 1 28,af 30 4 3,ae 31 1 30,⟨some 32, none, .call y4w [.t 29, .t 31]⟩,⟨some 33, none, .op (.bsl 5 [.i .i64 0] [(0, 1, .t 12), (1, 1, .t 17), (2, 1, .t 22), (3, 1, .t 27), (4, 1, .t 32)])⟩,ab 5 33]
def yt.r2 : List AStep := [ac 6 0]
def yt.r3 : List AStep := [ab 34 6,af 35 5 2,ae 36 1 35,ai 37 36,am 38 34 37,ab 39 38,aj 40 39 6,az 41 39 5 3,ay 42 39 1 41,a2l 43 39 42,a2m 44 39 40 43,an 45 39 44]
def yt.r4 : List AStep := [ab 48 5,af 49 5 2,ae 50 1 49,ab 51 6,ak 52 1 50 51,ae 53 1 52,af 54 5 3,ae 55 1 54,ab 56 6,ak 57 1 55 56,ae 58 1 57,⟨some 59, none, .call y4w [.t 53, .t 58]⟩,⟨some 60, none, .op (.bfz 1 1 [.i .i64 0] [(0, 1, .t 59)])⟩,a1n 61 1 8 48 60,ab 5 61]
def yt.r5 : List AStep := [ab 46 6,ap 47 46 1,ab 6 47]
def yt.l0 : ACode := .seq (.seq (.post [2, 3, 5, 6, 45] (.region yt.r3)) (.post [2, 3, 5, 6] (.cond (.t 45) (.skip) (.exit 0)))) (.seq (.post [2, 3, 5, 6] (.block 1 (.post [2, 3, 5, 6] (.draw [0, 0, 2, 0, 14, 30, 0, 64, 0, 448, 960, 2046, 4094, 8191, 16383] yt.r4)))) (.post [2, 3, 5, 6] (.region yt.r5)))
def yt.r6 : List AStep := [ab 62 5,af 63 5 2,ae 64 1 63,ai 65 64,af 66 5 3,ae 67 1 66,ai 68 67,⟨some 69, none, .call y5z [.t 65, .t 68]⟩,⟨some 70, none, .op (.bfz 1 1 [.i .i64 0] [(0, 1, .t 69)])⟩,a1n 71 1 8 62 70,ab 5 71]
def yt.r7 : List AStep := [ac 7 0]
def yt.r8 : List AStep := [ab 72 7,ab 73 5,ai 74 73,am 75 72 74]
def yt.r9 : List AStep := [ab 78 5,ab 79 7,ak 80 1 78 79,ae 81 1 80,a1c 82 81 0]
def yt.r10 : List AStep := [ab 83 5,ab 84 7,ak 85 1 83 84,ae 86 1 85,ab 4 86]
def yt.r11 : List AStep := [ab 76 7,ap 77 76 1,ab 7 77]
def yt.l1 : ACode := .seq (.seq (.post [5, 7, 75] (.region yt.r8)) (.post [5, 7] (.cond (.t 75) (.skip) (.exit 2)))) (.seq (.post [5, 7] (.block 3 (.seq (.post [5, 7, 82] (.region yt.r9)) (.post [5, 7] (.cond (.t 82) (.seq (.post [4] (.region yt.r10)) (.ret)) (.skip)))))) (.post [5, 7] (.region yt.r11)))
def yt.r12 : List AStep := [ac 4 0]
def yt : AFunc := ⟨87, [.t 4], .seq (.post [2, 3] (.region yt.r0)) (.seq (.post [2, 3, 5] (.draw [0, 1, 0, 4, 15, 0, 32, 0, 128, 511, 0, 1024, 0, 4096, 16383, 0, 32768, 0, 131072, 524287, 0, 1048576, 0, 4194304, 16777215, 33554431, 67108863] yt.r1)) (.seq (.seq (.post [2, 3, 5, 6] (.region yt.r2)) (.post [2, 3, 5] (.block 0 (.loop yt.l0)))) (.seq (.post [5] (.region yt.r6)) (.seq (.seq (.post [5, 7] (.region yt.r7)) (.post [] (.block 2 (.loop yt.l1)))) (.seq (.post [4] (.region yt.r12)) (.ret))))))⟩
theorem yt.ok : y23 Tryz.prog Tryz.f95 yt = true := by kernel_rfl
theorem yt.at : Tryz.prog.funcs[y77]? = some Tryz.f95 := Tryz.func95
def y9.r0 : List AStep := [a14 1 0,ac 2 0]
def y9.r1 : List AStep := [af 9 0 1,ae 10 1 9,ai 11 10,a19 12 11 600,ab 13 12,aw 14 13 1 1,ax 15 13 1 14,a1p 16 13 15,a1g 17 13 16 600,av 18 13 17,ab 19 18,aw 20 19 2 1,ax 21 19 1 20,a1p 22 19 21,a1g 23 19 22 6000,av 24 19 23]
def y9.r2 : List AStep := [ac 2 4]
def y9.r3 : List AStep := [ac 3 0]
def y9.r4 : List AStep := [ab 25 3,af 26 0 1,ae 27 1 26,ai 28 27,am 29 25 28]
def y9.r5 : List AStep := [af 32 0 1,ae 33 1 32,ab 34 3,ak 35 3 33 34,ar 36 3 35,⟨some 37, none, .call y7d [.t 36]⟩,ab 4 37]
def y9.r6 : List AStep := [ab 38 4,a1c 39 38 0]
def y9.r7 : List AStep := [ab 40 4,ab 2 40]
def y9.r8 : List AStep := [ab 41 3,a19 42 41 0,ab 43 42,az 44 43 0 1,ay 45 43 1 44,aj 46 43 3,a2a 47 43 46 1,a1l 48 43 3 45 47,az 49 43 0 48,ay 50 43 1 49,az 51 43 0 1,ay 52 43 1 51,aj 53 43 3,a1l 54 43 3 52 53,az 55 43 0 54,ay 56 43 1 55,⟨some 57, (some (43, true)), .op (.bin .geq (.t 50) (.t 56))⟩,an 58 43 57]
def y9.r9 : List AStep := [ac 2 13]
def y9.r10 : List AStep := [ab 30 3,ap 31 30 1,ab 3 31]
def y9.l0 : ACode := .seq (.seq (.post [1, 3, 29] (.region y9.r4)) (.post [1, 3] (.cond (.t 29) (.skip) (.exit 0)))) (.seq (.post [1, 3] (.block 1 (.seq (.post [1, 3, 4] (.region y9.r5)) (.seq (.seq (.post [1, 3, 4, 39] (.region y9.r6)) (.post [1, 3] (.cond (.t 39) (.seq (.post [2] (.region y9.r7)) (.ret)) (.skip)))) (.seq (.post [1, 3, 58] (.draw [0, 1, 3, 7, 15, 7, 39, 127, 255, 511, 7, 1031, 7, 7175, 15367, 31751, 65535, 131071] y9.r8)) (.post [1, 3] (.cond (.t 58) (.seq (.post [2] (.region y9.r9)) (.ret)) (.skip)))))))) (.post [1, 3] (.region y9.r10)))
def y9.r11 : List AStep := [ac 5 0]
def y9.r12 : List AStep := [ab 59 5,af 60 1 1,ae 61 1 60,ai 62 61,am 63 59 62]
def y9.r13 : List AStep := [af 66 1 1,ae 67 1 66,ab 68 5,ak 69 3 67 68,ar 70 3 69,⟨some 71, none, .call y6s [.t 70]⟩,ab 6 71]
def y9.r14 : List AStep := [ab 72 6,a1c 73 72 0]
def y9.r15 : List AStep := [ab 74 6,ab 2 74]
def y9.r16 : List AStep := [ab 75 5,a19 76 75 0,ab 77 76,az 78 77 1 1,ay 79 77 1 78,aj 80 77 5,a2a 81 77 80 1,a1l 82 77 3 79 81,az 83 77 0 82,ay 84 77 1 83,az 85 77 1 1,ay 86 77 1 85,aj 87 77 5,a1l 88 77 3 86 87,az 89 77 0 88,ay 90 77 1 89,⟨some 91, (some (77, true)), .op (.bin .geq (.t 84) (.t 90))⟩,an 92 77 91]
def y9.r17 : List AStep := [ac 2 13]
def y9.r18 : List AStep := [ab 64 5,ap 65 64 1,ab 5 65]
def y9.l1 : ACode := .seq (.seq (.post [1, 5, 63] (.region y9.r12)) (.post [1, 5] (.cond (.t 63) (.skip) (.exit 2)))) (.seq (.post [1, 5] (.block 3 (.seq (.post [1, 5, 6] (.region y9.r13)) (.seq (.seq (.post [1, 5, 6, 73] (.region y9.r14)) (.post [1, 5] (.cond (.t 73) (.seq (.post [2] (.region y9.r15)) (.ret)) (.skip)))) (.seq (.post [1, 5, 92] (.draw [0, 1, 3, 7, 15, 7, 39, 127, 255, 511, 7, 1031, 7, 7175, 15367, 31751, 65535, 131071] y9.r16)) (.post [1, 5] (.cond (.t 92) (.seq (.post [2] (.region y9.r17)) (.ret)) (.skip)))))))) (.post [1, 5] (.region y9.r18)))
def y9.r19 : List AStep := [ac 7 0]
def y9.r20 : List AStep := [ab 93 7,af 94 2 1,ae 95 1 94,ai 96 95,am 97 93 96]
def y9.r21 : List AStep := [af 100 2 1,ae 101 1 100,ab 102 7,ak 103 6 101 102,ar 104 6 103,⟨some 105, none, .call y8q [.t 104]⟩,ab 8 105]
def y9.r22 : List AStep := [ab 106 8,a1c 107 106 0]
def y9.r23 : List AStep := [ab 108 8,ab 2 108]
def y9.r24 : List AStep := [ab 109 7,a19 110 109 0,ab 111 110,az 112 111 2 1,ay 113 111 1 112,aj 114 111 7,a2a 115 111 114 1,a1l 116 111 6 113 115,a1h 117 111 6 116,az 118 111 2 1,ay 119 111 1 118,aj 120 111 7,a1l 121 111 6 119 120,a1h 122 111 6 121,⟨some 123, (some (111, true)), .call y77 [.t 117, .t 122]⟩,a2f 124 111 123 0,an 125 111 124]
def y9.r25 : List AStep := [ac 2 13]
def y9.r26 : List AStep := [ab 98 7,ap 99 98 1,ab 7 99]
def y9.l2 : ACode := .seq (.seq (.post [1, 7, 97] (.region y9.r20)) (.post [1, 7] (.cond (.t 97) (.skip) (.exit 4)))) (.seq (.post [1, 7] (.block 5 (.seq (.post [1, 7, 8] (.region y9.r21)) (.seq (.seq (.post [1, 7, 8, 107] (.region y9.r22)) (.post [1, 7] (.cond (.t 107) (.seq (.post [2] (.region y9.r23)) (.ret)) (.skip)))) (.seq (.post [1, 7, 125] (.draw [0, 1, 3, 7, 15, 7, 39, 127, 255, 7, 519, 7, 3591, 7687, 16383, 32767, 65535] y9.r24)) (.post [1, 7] (.cond (.t 125) (.seq (.post [2] (.region y9.r25)) (.ret)) (.skip)))))))) (.post [1, 7] (.region y9.r26)))
def y9.r27 : List AStep := [ac 2 0]
def y9 : AFunc := ⟨126, [.t 2], .seq (.post [1] (.region y9.r0)) (.seq (.seq (.post [1, 24] (.region y9.r1)) (.post [1] (.cond (.t 24) (.seq (.post [2] (.region y9.r2)) (.ret)) (.skip)))) (.seq (.seq (.post [1, 3] (.region y9.r3)) (.post [1] (.block 0 (.loop y9.l0)))) (.seq (.seq (.post [1, 5] (.region y9.r11)) (.post [1] (.block 2 (.loop y9.l1)))) (.seq (.seq (.post [1, 7] (.region y9.r19)) (.post [] (.block 4 (.loop y9.l2)))) (.seq (.post [2] (.region y9.r27)) (.ret))))))⟩
theorem y9.ok : y23 Tryz.prog Tryz.f48 y9 = true := by kernel_rfl
theorem y9.at : Tryz.prog.funcs[y7r]? = some Tryz.f48 := Tryz.func48
def y2e.r0 : List AStep := [ah 2]
def y2e.r1 : List AStep := [ac 3 1]
def y2e.r2 : List AStep := [ab 4 3,ab 5 0,ai 6 5,am 7 4 6]
def y2e.r3 : List AStep := [ab 10 0,ab 11 3,ak 12 1 10 11,ae 13 1 12,ab 14 0,ab 15 3,a32 16 15 1,ak 17 1 14 16,ae 18 1 17,⟨some 19, none, .op (.bin .leq (.t 13) (.t 18))⟩]
def y2e.r4 : List AStep := [ah 2]
def y2e.r5 : List AStep := [ab 8 3,ap 9 8 1,ab 3 9]
def y2e.l0 : ACode := .seq (.seq (.post [0, 3, 7] (.region y2e.r2)) (.post [0, 3] (.cond (.t 7) (.skip) (.exit 0)))) (.seq (.post [0, 3] (.block 1 (.seq (.post [0, 3, 19] (.draw [0, 0, 3, 7, 0, 0, 32, 112, 240, 511] y2e.r3)) (.post [0, 3] (.cond (.t 19) (.seq (.post [2] (.region y2e.r4)) (.ret)) (.skip)))))) (.post [0, 3] (.region y2e.r5)))
def y2e.r6 : List AStep := [a1a 2]
def y2e : AFunc := ⟨20, [.t 2], .seq (.post [0] (.region y2e.r0)) (.seq (.seq (.post [0, 3] (.region y2e.r1)) (.post [] (.block 0 (.loop y2e.l0)))) (.seq (.post [2] (.region y2e.r6)) (.ret)))⟩
theorem y2e.at : Tryz.prog.funcs[y6k]? = some Tryz.f49 := Tryz.func49
def y19.r0 : List AStep := [a14 2 0,ah 4]
def y19.r1 : List AStep := [ac 5 0]
def y19.r2 : List AStep := [ab 7 5,af 8 0 2,ae 9 1 8,ai 10 9,am 11 7 10]
def y19.r3 : List AStep := [af 14 0 2,ae 15 1 14,ab 16 5,ak 17 3 15 16,af 18 0 17,ae 19 1 18,ab 20 1,a1x 21 19 20]
def y19.r4 : List AStep := [a1a 4]
def y19.r5 : List AStep := [ab 12 5,ap 13 12 1,ab 5 13]
def y19.l0 : ACode := .seq (.seq (.post [1, 2, 5, 11] (.region y19.r2)) (.post [1, 2, 5] (.cond (.t 11) (.skip) (.exit 0)))) (.seq (.post [1, 2, 5] (.block 1 (.seq (.post [1, 2, 5, 21] (.region y19.r3)) (.post [1, 2, 5] (.cond (.t 21) (.seq (.post [4] (.region y19.r4)) (.ret)) (.skip)))))) (.post [1, 2, 5] (.region y19.r5)))
def y19.r6 : List AStep := [ac 6 0]
def y19.r7 : List AStep := [ab 22 6,af 23 1 2,ae 24 1 23,ai 25 24,am 26 22 25]
def y19.r8 : List AStep := [af 29 1 2,ae 30 1 29,ab 31 6,ak 32 3 30 31,af 33 0 32,ae 34 1 33,ab 35 1,a1x 36 34 35]
def y19.r9 : List AStep := [a1a 4]
def y19.r10 : List AStep := [ab 27 6,ap 28 27 1,ab 6 28]
def y19.l1 : ACode := .seq (.seq (.post [1, 2, 6, 26] (.region y19.r7)) (.post [1, 2, 6] (.cond (.t 26) (.skip) (.exit 2)))) (.seq (.post [1, 2, 6] (.block 3 (.seq (.post [1, 2, 6, 36] (.region y19.r8)) (.post [1, 2, 6] (.cond (.t 36) (.seq (.post [4] (.region y19.r9)) (.ret)) (.skip)))))) (.post [1, 2, 6] (.region y19.r10)))
def y19.r11 : List AStep := [ah 4]
def y19 : AFunc := ⟨37, [.t 4], .seq (.post [1, 2] (.region y19.r0)) (.seq (.seq (.post [1, 2, 5] (.region y19.r1)) (.post [1, 2] (.block 0 (.loop y19.l0)))) (.seq (.seq (.post [1, 2, 6] (.region y19.r6)) (.post [] (.block 2 (.loop y19.l1)))) (.seq (.post [4] (.region y19.r11)) (.ret))))⟩
theorem y19.ok : y23 Tryz.prog Tryz.f50 y19 = true := by kernel_rfl
theorem y19.at : Tryz.prog.funcs[y7o]? = some Tryz.f50 := Tryz.func50
def y6.r0 : List AStep := [a14 1 0,ac 2 0]
def y6.r1 : List AStep := [af 9 0 1,ae 10 1 9,⟨some 11, none, .call y61 [.t 10]⟩,a18 12 11]
def y6.r2 : List AStep := [ac 2 11]
def y6.r3 : List AStep := [af 13 4 1,ar 14 3 13,⟨some 15, none, .call y7r [.t 14]⟩,ab 3 15]
def y6.r4 : List AStep := [ab 16 3,a1c 17 16 0]
def y6.r5 : List AStep := [ab 18 3,ab 2 18]
def y6.r6 : List AStep := [ac 4 0]
def y6.r7 : List AStep := [ab 19 4,a2j 20 19 2]
def y6.r8 : List AStep := [af 23 1 1,ae 24 1 23,af 25 2 1,ae 26 1 25,⟨some 27, none, .op (.bfz 2 1 [.sl none 0 0] [(0, 1, .t 24), (1, 1, .t 26)])⟩,ab 28 4,ak 29 1 27 28,ae 30 1 29,ab 5 30]
def y6.r9 : List AStep := [ab 31 5,⟨some 32, none, .call y6k [.t 31]⟩,a18 33 32]
def y6.r10 : List AStep := [ac 2 13]
def y6.r11 : List AStep := [ac 6 0]
def y6.r12 : List AStep := [ab 34 6,ab 35 5,ai 36 35,am 37 34 36]
def y6.r13 : List AStep := [af 40 4 1,ar 41 3 40,ab 42 5,ab 43 6,ak 44 1 42 43,ae 45 1 44,⟨some 46, none, .call y7o [.t 41, .t 45]⟩,a18 47 46]
def y6.r14 : List AStep := [ac 2 7]
def y6.r15 : List AStep := [ab 38 6,ap 39 38 1,ab 6 39]
def y6.l1 : ACode := .seq (.seq (.post [1, 4, 5, 6, 37] (.region y6.r12)) (.post [1, 4, 5, 6] (.cond (.t 37) (.skip) (.exit 2)))) (.seq (.post [1, 4, 5, 6] (.block 3 (.seq (.post [1, 4, 5, 6, 47] (.draw [0, 1, 0, 0, 12, 28, 63, 127] y6.r13)) (.post [1, 4, 5, 6] (.cond (.t 47) (.seq (.post [2] (.region y6.r14)) (.ret)) (.skip)))))) (.post [1, 4, 5, 6] (.region y6.r15)))
def y6.r16 : List AStep := [ab 21 4,ap 22 21 1,ab 4 22]
def y6.l0 : ACode := .seq (.seq (.post [1, 4, 20] (.region y6.r7)) (.post [1, 4] (.cond (.t 20) (.skip) (.exit 0)))) (.seq (.post [1, 4] (.block 1 (.seq (.post [1, 4, 5] (.region y6.r8)) (.seq (.seq (.post [1, 4, 5, 33] (.region y6.r9)) (.post [1, 4, 5] (.cond (.t 33) (.seq (.post [2] (.region y6.r10)) (.ret)) (.skip)))) (.seq (.post [1, 4, 5, 6] (.region y6.r11)) (.post [1, 4] (.block 2 (.loop y6.l1)))))))) (.post [1, 4] (.region y6.r16)))
def y6.r17 : List AStep := [ac 7 0]
def y6.r18 : List AStep := [ab 48 7,af 49 1 1,ae 50 1 49,ai 51 50,am 52 48 51]
def y6.r19 : List AStep := [af 55 2 1,ae 56 1 55,af 57 1 1,ae 58 1 57,ab 59 7,ak 60 1 58 59,ae 61 1 60,⟨some 62, none, .call y46 [.t 56, .t 61]⟩,a1e 63 62 0]
def y6.r20 : List AStep := [ac 2 8]
def y6.r21 : List AStep := [ab 53 7,ap 54 53 1,ab 7 54]
def y6.l2 : ACode := .seq (.seq (.post [1, 7, 52] (.region y6.r18)) (.post [1, 7] (.cond (.t 52) (.skip) (.exit 4)))) (.seq (.post [1, 7] (.block 5 (.seq (.post [1, 7, 63] (.draw [0, 1, 0, 4, 0, 28, 60, 127, 255] y6.r19)) (.post [1, 7] (.cond (.t 63) (.seq (.post [2] (.region y6.r20)) (.ret)) (.skip)))))) (.post [1, 7] (.region y6.r21)))
def y6.r22 : List AStep := [af 64 3 1,ae 65 1 64,ai 66 65,a19 67 66 6000]
def y6.r23 : List AStep := [ac 2 4]
def y6.r24 : List AStep := [af 68 3 1,ae 69 1 68,⟨some 70, none, .call y6k [.t 69]⟩,a18 71 70]
def y6.r25 : List AStep := [ac 2 13]
def y6.r26 : List AStep := [ac 8 0]
def y6.r27 : List AStep := [ab 72 8,af 73 3 1,ae 74 1 73,ai 75 74,am 76 72 75]
def y6.r28 : List AStep := [af 79 3 1,ae 80 1 79,ab 81 8,ak 82 1 80 81,ae 83 1 82,⟨some 84, none, .call y5f [.t 83]⟩,a18 85 84]
def y6.r29 : List AStep := [ac 2 11]
def y6.r30 : List AStep := [ab 77 8,ap 78 77 1,ab 8 78]
def y6.l3 : ACode := .seq (.seq (.post [1, 8, 76] (.region y6.r27)) (.post [1, 8] (.cond (.t 76) (.skip) (.exit 6)))) (.seq (.post [1, 8] (.block 7 (.seq (.post [1, 8, 85] (.region y6.r28)) (.post [1, 8] (.cond (.t 85) (.seq (.post [2] (.region y6.r29)) (.ret)) (.skip)))))) (.post [1, 8] (.region y6.r30)))
def y6.r31 : List AStep := [ac 2 0]
def y6 : AFunc := ⟨86, [.t 2], .seq (.post [1] (.region y6.r0)) (.seq (.seq (.post [1, 12] (.region y6.r1)) (.post [1] (.cond (.t 12) (.seq (.post [2] (.region y6.r2)) (.ret)) (.skip)))) (.seq (.post [1, 3] (.region y6.r3)) (.seq (.seq (.post [1, 3, 17] (.region y6.r4)) (.post [1] (.cond (.t 17) (.seq (.post [2] (.region y6.r5)) (.ret)) (.skip)))) (.seq (.seq (.post [1, 4] (.region y6.r6)) (.post [1] (.block 0 (.loop y6.l0)))) (.seq (.seq (.post [1, 7] (.region y6.r17)) (.post [1] (.block 4 (.loop y6.l2)))) (.seq (.seq (.post [1, 67] (.region y6.r22)) (.post [1] (.cond (.t 67) (.seq (.post [2] (.region y6.r23)) (.ret)) (.skip)))) (.seq (.seq (.post [1, 71] (.region y6.r24)) (.post [1] (.cond (.t 71) (.seq (.post [2] (.region y6.r25)) (.ret)) (.skip)))) (.seq (.seq (.post [1, 8] (.region y6.r26)) (.post [] (.block 6 (.loop y6.l3)))) (.seq (.post [2] (.region y6.r31)) (.ret))))))))))⟩
theorem y6.ok : y23 Tryz.prog Tryz.f18 y6 = true := by kernel_rfl
theorem y6.at : Tryz.prog.funcs[y7p]? = some Tryz.f18 := Tryz.func18
def y1t.r0 : List AStep := [a1j 4 0 0]
def y1t.r1 : List AStep := [ac 5 0]
def y1t.r2 : List AStep := [ab 7 5,ab 8 0,ai 9 8,am 10 7 9,ab 11 10,aj 12 11 0,aj 13 11 5,a1l 14 11 1 12 13,ay 15 11 1 14,aj 16 11 1,a2m 17 11 15 16,an 18 11 17]
def y1t.r3 : List AStep := [ab 19 5,ap 20 19 1,ab 5 20]
def y1t.l0 : ACode := .seq (.seq (.post [0, 1, 5, 18] (.region y1t.r2)) (.post [0, 1, 5] (.cond (.t 18) (.skip) (.exit 0)))) (.post [0, 1, 5] (.block 1 (.post [0, 1, 5] (.region y1t.r3))))
def y1t.r4 : List AStep := [ab 21 5,ab 22 0,ai 23 22,am 24 21 23,ab 25 24,aj 26 25 0,aj 27 25 5,a1l 28 25 1 26 27,ay 29 25 1 28,aj 30 25 1,a3g 31 25 29 30,an 32 25 31]
def y1t.r5 : List AStep := [ab 33 0,ab 4 33]
def y1t.r6 : List AStep := [⟨some 34, none, .op (.bz 1)⟩,ab 35 0,ab 36 5,⟨some 37, none, .op (.slc 1 (.t 35) none (some (.t 36)))⟩,a1n 38 1 16 34 37,ab 6 38]
def y1t.r7 : List AStep := [ab 39 6,ab 40 1,a2k 41 1 1 0 1 40,a1n 42 1 16 39 41,ab 6 42]
def y1t.r8 : List AStep := [ab 43 6,ab 44 0,ab 45 5,⟨some 46, none, .op (.slc 1 (.t 44) (some (.t 45)) none)⟩,a1n 47 1 16 43 46,ab 4 47]
def y1t : AFunc := ⟨48, [.t 4], .seq (.post [0, 1] (.region y1t.r0)) (.seq (.post [0, 1, 5] (.region y1t.r1)) (.seq (.post [0, 1, 5] (.block 0 (.loop y1t.l0))) (.seq (.seq (.post [0, 1, 5, 32] (.region y1t.r4)) (.post [0, 1, 5] (.cond (.t 32) (.seq (.post [4] (.region y1t.r5)) (.ret)) (.skip)))) (.seq (.post [0, 1, 5, 6] (.region y1t.r6)) (.seq (.post [0, 5, 6] (.region y1t.r7)) (.seq (.post [4] (.region y1t.r8)) (.ret)))))))⟩
theorem y1t.ok : y23 Tryz.prog Tryz.f52 y1t = true := by kernel_rfl
theorem y1t.at : Tryz.prog.funcs[y5g]? = some Tryz.f52 := Tryz.func52
def y16.r0 : List AStep := [a1j 2 0 0]
def y16.r1 : List AStep := [a1j 3 0 0]
def y16.r2 : List AStep := [ac 4 0]
def y16.r3 : List AStep := [ab 7 4,ab 8 0,ai 9 8,am 10 7 9]
def y16.r4 : List AStep := [ac 5 0]
def y16.r5 : List AStep := [ab 13 5,ab 14 0,ab 15 4,ak 16 7 14 15,af 17 4 16,af 18 0 17,ae 19 1 18,ai 20 19,am 21 13 20]
def y16.r6 : List AStep := [ab 24 3,ab 25 0,ab 26 4,ak 27 7 25 26,af 28 4 27,af 29 0 28,ae 30 1 29,ab 31 5,ak 32 3 30 31,af 33 0 32,ae 34 1 33,⟨some 35, none, .call y5g [.t 24, .t 34]⟩,ab 3 35]
def y16.r7 : List AStep := [ab 22 5,ap 23 22 1,ab 5 23]
def y16.l1 : ACode := .seq (.seq (.post [0, 3, 4, 5, 21] (.region y16.r5)) (.post [0, 3, 4, 5] (.cond (.t 21) (.skip) (.exit 2)))) (.seq (.post [0, 3, 4, 5] (.block 3 (.post [0, 3, 4, 5] (.region y16.r6)))) (.post [0, 3, 4, 5] (.region y16.r7)))
def y16.r8 : List AStep := [ac 6 0]
def y16.r9 : List AStep := [ab 36 6,ab 37 0,ab 38 4,ak 39 7 37 38,af 40 4 39,af 41 1 40,ae 42 1 41,ai 43 42,am 44 36 43]
def y16.r10 : List AStep := [ab 47 3,ab 48 0,ab 49 4,ak 50 7 48 49,af 51 4 50,af 52 1 51,ae 53 1 52,ab 54 6,ak 55 3 53 54,af 56 0 55,ae 57 1 56,⟨some 58, none, .call y5g [.t 47, .t 57]⟩,ab 3 58]
def y16.r11 : List AStep := [ab 45 6,ap 46 45 1,ab 6 46]
def y16.l2 : ACode := .seq (.seq (.post [0, 3, 4, 6, 44] (.region y16.r9)) (.post [0, 3, 4, 6] (.cond (.t 44) (.skip) (.exit 4)))) (.seq (.post [0, 3, 4, 6] (.block 5 (.post [0, 3, 4, 6] (.region y16.r10)))) (.post [0, 3, 4, 6] (.region y16.r11)))
def y16.r12 : List AStep := [ab 11 4,ap 12 11 1,ab 4 12]
def y16.l0 : ACode := .seq (.seq (.post [0, 3, 4, 10] (.region y16.r3)) (.post [0, 3, 4] (.cond (.t 10) (.skip) (.exit 0)))) (.seq (.post [0, 3, 4] (.block 1 (.seq (.seq (.post [0, 3, 4, 5] (.region y16.r4)) (.post [0, 3, 4] (.block 2 (.loop y16.l1)))) (.seq (.post [0, 3, 4, 6] (.region y16.r8)) (.post [0, 3, 4] (.block 4 (.loop y16.l2))))))) (.post [0, 3, 4] (.region y16.r12)))
def y16.r13 : List AStep := [ab 59 3,ab 2 59]
def y16 : AFunc := ⟨60, [.t 2], .seq (.post [0] (.region y16.r0)) (.seq (.post [0, 3] (.region y16.r1)) (.seq (.seq (.post [0, 3, 4] (.region y16.r2)) (.post [3] (.block 0 (.loop y16.l0)))) (.seq (.post [2] (.region y16.r13)) (.ret))))⟩
theorem y16.ok : y23 Tryz.prog Tryz.f20 y16 = true := by kernel_rfl
theorem y16.at : Tryz.prog.funcs[y8o]? = some Tryz.f20 := Tryz.func20
def y1o.r0 : List AStep := [a14 2 0,a1o 4 0 0,a2u 5,ah 6]
def y1o.r1 : List AStep := [ac 7 0]
def y1o.r2 : List AStep := [ab 9 7,af 10 0 2,ae 11 1 10,ai 12 11,am 13 9 12]
def y1o.r3 : List AStep := [af 16 0 2,ae 17 1 16,ab 18 7,ak 19 3 17 18,af 20 0 19,ae 21 1 20,ab 22 1,a1x 23 21 22]
def y1o.r4 : List AStep := [af 24 0 2,ae 25 1 24,ab 26 7,ak 27 3 25 26,ar 28 3 27,⟨some 29, none, .op (.build [.s [], .s [], .s []] [])⟩,aq 3 4 28,aq 3 5 29,a1a 6]
def y1o.r5 : List AStep := [ab 14 7,ap 15 14 1,ab 7 15]
def y1o.l0 : ACode := .seq (.seq (.post [1, 2, 4, 5, 7, 13] (.region y1o.r2)) (.post [1, 2, 4, 5, 7] (.cond (.t 13) (.skip) (.exit 0)))) (.seq (.post [1, 2, 4, 5, 7] (.block 1 (.seq (.post [1, 2, 4, 5, 7, 23] (.region y1o.r3)) (.post [1, 2, 4, 5, 7] (.cond (.t 23) (.seq (.post [4, 5, 6] (.region y1o.r4)) (.ret)) (.skip)))))) (.post [1, 2, 4, 5, 7] (.region y1o.r5)))
def y1o.r6 : List AStep := [ac 8 0]
def y1o.r7 : List AStep := [ab 30 8,af 31 1 2,ae 32 1 31,ai 33 32,am 34 30 33]
def y1o.r8 : List AStep := [af 37 1 2,ae 38 1 37,ab 39 8,ak 40 3 38 39,af 41 0 40,ae 42 1 41,ab 43 1,a1x 44 42 43]
def y1o.r9 : List AStep := [a2w 45 0 0,af 46 1 2,ae 47 1 46,ab 48 8,ak 49 3 47 48,ar 50 3 49,aq 3 4 45,aq 3 5 50,a1a 6]
def y1o.r10 : List AStep := [ab 35 8,ap 36 35 1,ab 8 36]
def y1o.l1 : ACode := .seq (.seq (.post [1, 2, 4, 5, 8, 34] (.region y1o.r7)) (.post [1, 2, 4, 5, 8] (.cond (.t 34) (.skip) (.exit 2)))) (.seq (.post [1, 2, 4, 5, 8] (.block 3 (.seq (.post [1, 2, 4, 5, 8, 44] (.region y1o.r8)) (.post [1, 2, 4, 5, 8] (.cond (.t 44) (.seq (.post [4, 5, 6] (.draw [0, 0, 2, 0, 14, 30, 1, 127, 255] y1o.r9)) (.ret)) (.skip)))))) (.post [1, 2, 4, 5, 8] (.region y1o.r10)))
def y1o.r11 : List AStep := [a2w 51 0 0,⟨some 52, none, .op (.build [.s [], .s [], .s []] [])⟩,aq 3 4 51,aq 3 5 52,ah 6]
def y1o : AFunc := ⟨53, [.cell 4 true 3, .cell 5 true 3, .t 6], .seq (.post [1, 2, 4, 5] (.region y1o.r0)) (.seq (.seq (.post [1, 2, 4, 5, 7] (.region y1o.r1)) (.post [1, 2, 4, 5] (.block 0 (.loop y1o.l0)))) (.seq (.seq (.post [1, 2, 4, 5, 8] (.region y1o.r6)) (.post [4, 5] (.block 2 (.loop y1o.l1)))) (.seq (.post [4, 5, 6] (.region y1o.r11)) (.ret))))⟩
theorem y1o.ok : y23 Tryz.prog Tryz.f53 y1o = true := by kernel_rfl
theorem y1o.at : Tryz.prog.funcs[y98]? = some Tryz.f53 := Tryz.func53
def y1b.r0 : List AStep := [a14 2 0,a14 3 1,ah 4]
def y1b.r1 : List AStep := [af 6 0 2,ae 7 1 6,af 8 0 3,ae 9 1 8,a1m 10 7 9,ab 11 10,aw 12 11 1 2,ax 13 11 1 12,aw 14 11 1 3,ax 15 11 1 14,a26 16 11 13 15,av 17 11 16,ab 18 17,aw 19 18 2 2,ax 20 18 1 19,a1p 21 18 20,aw 22 18 2 3,ax 23 18 1 22,a1p 24 18 23,a26 25 18 21 24,av 26 18 25]
def y1b.r2 : List AStep := [ah 4]
def y1b.r3 : List AStep := [ac 5 0]
def y1b.r4 : List AStep := [ab 27 5,af 28 2 2,ae 29 1 28,ai 30 29,am 31 27 30,ab 32 31,aj 33 32 5,az 34 32 2 3,ay 35 32 1 34,a2l 36 32 35,a2m 37 32 33 36,an 38 32 37]
def y1b.r5 : List AStep := [af 41 2 2,ae 42 1 41,ab 43 5,ak 44 2 42 43,ar 45 2 44,af 46 2 3,ae 47 1 46,ab 48 5,ak 49 2 47 48,ar 50 2 49,⟨some 51, none, .op (.eqa true [0, 1] (.t 45) (.t 50))⟩]
def y1b.r6 : List AStep := [ah 4]
def y1b.r7 : List AStep := [ab 39 5,ap 40 39 1,ab 5 40]
def y1b.l0 : ACode := .seq (.seq (.post [2, 3, 5, 38] (.region y1b.r4)) (.post [2, 3, 5] (.cond (.t 38) (.skip) (.exit 0)))) (.seq (.post [2, 3, 5] (.block 1 (.seq (.post [2, 3, 5, 51] (.draw [0, 1, 0, 7, 15, 0, 32, 0, 224, 480, 1023] y1b.r5)) (.post [2, 3, 5] (.cond (.t 51) (.seq (.post [4] (.region y1b.r6)) (.ret)) (.skip)))))) (.post [2, 3, 5] (.region y1b.r7)))
def y1b.r8 : List AStep := [a1a 4]
def y1b : AFunc := ⟨52, [.t 4], .seq (.post [2, 3] (.region y1b.r0)) (.seq (.seq (.post [2, 3, 26] (.region y1b.r1)) (.post [2, 3] (.cond (.t 26) (.seq (.post [4] (.region y1b.r2)) (.ret)) (.skip)))) (.seq (.seq (.post [2, 3, 5] (.region y1b.r3)) (.post [] (.block 0 (.loop y1b.l0)))) (.seq (.post [4] (.region y1b.r8)) (.ret))))⟩
theorem y1b.ok : y23 Tryz.prog Tryz.f54 y1b = true := by kernel_rfl
theorem y1b.at : Tryz.prog.funcs[y76]? = some Tryz.f54 := Tryz.func54
def y7.r0 : List AStep := [a1o 4 0 0,ah 5,ac 6 0]
def y7.r1 : List AStep := [ab 20 1,⟨some 21, none, .op (.build [.s [], .s [], .sl none 0 0] [(0, 1, .t 20)])⟩,a1o 7 0 0,aq 3 7 21]
def y7.r2 : List AStep := [ac 8 0,ac 9 0]
def y7.r3 : List AStep := [ah 10,a1a 11]
def y7.r4 : List AStep := [a1o 12 0 0]
def y7.r5 : List AStep := [a2u 13]
def y7.r6 : List AStep := [ac 14 0]
def y7.r7 : List AStep := [ab 22 14,ab 23 0,ai 24 23,am 25 22 24]
def y7.r8 : List AStep := [ab 29 0,ab 30 14,ak 31 7 29 30,af 32 4 31,ar 33 3 32,ab 34 1,⟨some 35, none, .call y98 [.t 33, .t 34]⟩,ab 28 35,al 36 0 28,al 37 1 28,al 38 2 28,a1o 15 0 0,a2u 16,aq 3 15 36,aq 3 16 37,ab 17 38]
def y7.r9 : List AStep := [ab 39 17,a18 40 39]
def y7.r10 : List AStep := [ab 41 0,ab 42 14,ak 43 7 41 42,af 44 1 43,ae 45 1 44,ab 46 1,⟨some 47, none, .call y46 [.t 45, .t 46]⟩,a1e 48 47 0,ab 18 48]
def y7.r11 : List AStep := [ab 49 0,ab 50 14,ak 51 7 49 50,af 52 2 51,ae 53 1 52,ab 54 1,⟨some 55, none, .call y46 [.t 53, .t 54]⟩,a1e 56 55 0,ab 19 56]
def y7.r12 : List AStep := [ab 57 9,a19 58 57 0,ab 59 58,a1h 60 59 3 15,a1h 61 59 3 12,⟨some 62, (some (59, true)), .call y76 [.t 60, .t 61]⟩,a1r 63 59 62,aj 64 59 63,a2c 65 64 3 16,a2c 66 64 3 13,⟨some 67, (some (64, false)), .op (.eqa true [1, 1, 1] (.t 65) (.t 66))⟩,a1k 68 59 64 67,an 69 59 68]
def y7.r13 : List AStep := [ah 11]
def y7.r14 : List AStep := [ar 70 3 15,aq 3 12 70]
def y7.r15 : List AStep := [ar 71 3 16,aq 3 13 71]
def y7.r16 : List AStep := [ab 72 9,ap 73 72 1,ab 9 73]
def y7.r17 : List AStep := [ab 74 18]
def y7.r18 : List AStep := [ab 75 8,ap 76 75 1,ab 8 76]
def y7.r19 : List AStep := [ab 77 0,ab 78 14,ak 79 7 77 78,af 80 0 79,ae 81 1 80,af 82 1 7,aq 1 82 81]
def y7.r20 : List AStep := [ab 83 19]
def y7.r21 : List AStep := [af 84 2 7,ae 85 1 84,ab 86 0,ab 87 14,ak 88 7 86 87,af 89 0 88,ae 90 1 89,⟨some 91, none, .call y5g [.t 85, .t 90]⟩,af 92 2 7,aq 1 92 91]
def y7.r22 : List AStep := [ab 93 10,ab 94 93,a10 95 94 18,a1s 96 94 95,a10 97 94 96,aj 98 97 19,a1r 99 97 98,a1f 100 94 97 99,av 101 94 100,ab 10 101]
def y7.r23 : List AStep := [ab 26 14,ap 27 26 1,ab 14 27]
def y7.l0 : ACode := .seq (.seq (.post [0, 1, 4, 7, 8, 9, 10, 11, 12, 13, 14, 25] (.region y7.r7)) (.post [0, 1, 4, 7, 8, 9, 10, 11, 12, 13, 14] (.cond (.t 25) (.skip) (.exit 0)))) (.seq (.post [0, 1, 4, 7, 8, 9, 10, 11, 12, 13, 14] (.block 1 (.seq (.post [0, 1, 4, 7, 8, 9, 10, 11, 12, 13, 14, 15, 16, 17] (.region y7.r8)) (.seq (.seq (.post [0, 1, 4, 7, 8, 9, 10, 11, 12, 13, 14, 15, 16, 40] (.region y7.r9)) (.post [0, 1, 4, 7, 8, 9, 10, 11, 12, 13, 14, 15, 16] (.cond (.t 40) (.exit 1) (.skip)))) (.seq (.post [0, 1, 4, 7, 8, 9, 10, 11, 12, 13, 14, 15, 16, 18] (.region y7.r10)) (.seq (.post [0, 1, 4, 7, 8, 9, 10, 11, 12, 13, 14, 15, 16, 18, 19] (.region y7.r11)) (.seq (.seq (.post [0, 1, 4, 7, 8, 9, 10, 11, 12, 13, 14, 15, 16, 18, 19, 69] (.region y7.r12)) (.post [0, 1, 4, 7, 8, 9, 10, 11, 12, 13, 14, 15, 16, 18, 19] (.cond (.t 69) (.post [0, 1, 4, 7, 8, 9, 10, 11, 12, 13, 14, 15, 16, 18, 19] (.region y7.r13)) (.skip)))) (.seq (.post [0, 1, 4, 7, 8, 9, 10, 11, 12, 13, 14, 16, 18, 19] (.region y7.r14)) (.seq (.post [0, 1, 4, 7, 8, 9, 10, 11, 12, 13, 14, 18, 19] (.region y7.r15)) (.seq (.post [0, 1, 4, 7, 8, 9, 10, 11, 12, 13, 14, 18, 19] (.region y7.r16)) (.seq (.seq (.post [0, 1, 4, 7, 8, 9, 10, 11, 12, 13, 14, 18, 19, 74] (.region y7.r17)) (.post [0, 1, 4, 7, 8, 9, 10, 11, 12, 13, 14, 18, 19] (.cond (.t 74) (.seq (.post [0, 1, 4, 7, 8, 9, 10, 11, 12, 13, 14, 18, 19] (.region y7.r18)) (.post [0, 1, 4, 7, 8, 9, 10, 11, 12, 13, 14, 18, 19] (.region y7.r19))) (.skip)))) (.seq (.seq (.post [0, 1, 4, 7, 8, 9, 10, 11, 12, 13, 14, 18, 19, 83] (.region y7.r20)) (.post [0, 1, 4, 7, 8, 9, 10, 11, 12, 13, 14, 18, 19] (.cond (.t 83) (.post [0, 1, 4, 7, 8, 9, 10, 11, 12, 13, 14, 18, 19] (.draw [0, 1, 0, 0, 12, 28, 60, 127, 255, 511] y7.r21)) (.skip)))) (.post [0, 1, 4, 7, 8, 9, 10, 11, 12, 13, 14] (.region y7.r22)))))))))))))) (.post [0, 1, 4, 7, 8, 9, 10, 11, 12, 13, 14] (.region y7.r23)))
def y7.r24 : List AStep := [ab 103 8,a19 104 103 1,ab 105 104,a10 106 105 9,a1g 107 105 106 1,a10 108 105 107,aj 109 108 10,a1f 110 105 108 109,av 111 105 110,ab 102 111]
def y7.r25 : List AStep := [a2w 112 0 0,aq 3 4 112,ah 5,ac 6 8]
def y7.r26 : List AStep := [ab 114 11,a18 115 114,ab 113 115]
def y7.r27 : List AStep := [a2w 116 0 0,aq 3 4 116,ah 5,ac 6 12]
def y7.r28 : List AStep := [af 118 2 7,ae 119 1 118,ai 120 119,a19 121 120 0,ab 122 121,aj 123 122 8,a1q 124 122 123 0,an 125 122 124,ab 117 125]
def y7.r29 : List AStep := [a2w 126 0 0,aq 3 4 126,ah 5,ac 6 7]
def y7.r30 : List AStep := [ar 127 3 7,ab 128 8,a11 129 128 1,aq 3 4 127,ab 5 129,ac 6 0]
def y7 : AFunc := ⟨130, [.cell 4 true 3, .t 5, .t 6], .seq (.post [0, 1, 4] (.region y7.r0)) (.seq (.post [0, 1, 4, 7] (.region y7.r1)) (.seq (.post [0, 1, 4, 7, 8, 9] (.region y7.r2)) (.seq (.post [0, 1, 4, 7, 8, 9, 10, 11] (.region y7.r3)) (.seq (.post [0, 1, 4, 7, 8, 9, 10, 11, 12] (.region y7.r4)) (.seq (.post [0, 1, 4, 7, 8, 9, 10, 11, 12, 13] (.region y7.r5)) (.seq (.seq (.post [0, 1, 4, 7, 8, 9, 10, 11, 12, 13, 14] (.region y7.r6)) (.post [4, 7, 8, 9, 10, 11] (.block 0 (.loop y7.l0)))) (.seq (.post [4, 7, 8] (.block 2 (.seq (.post [4, 7, 8, 11, 102] (.region y7.r24)) (.post [4, 7, 8] (.cond (.t 102) (.seq (.post [4, 5, 6] (.region y7.r25)) (.ret)) (.seq (.post [4, 7, 8, 113] (.region y7.r26)) (.post [4, 7, 8] (.cond (.t 113) (.seq (.post [4, 5, 6] (.region y7.r27)) (.ret)) (.seq (.post [4, 7, 8, 117] (.region y7.r28)) (.post [4, 7, 8] (.cond (.t 117) (.seq (.post [4, 5, 6] (.region y7.r29)) (.ret)) (.skip)))))))))))) (.seq (.post [4, 5, 6] (.region y7.r30)) (.ret)))))))))⟩
theorem y7.ok : y23 Tryz.prog Tryz.f21 y7 = true := by kernel_rfl
theorem y7.at : Tryz.prog.funcs[y8n]? = some Tryz.f21 := Tryz.func21
def ya.r0 : List AStep := [a1j 2 0 0,a17 3,ac 4 0]
def ya.r1 : List AStep := [ab 14 0,ai 15 14,a19 16 15 8]
def ya.r2 : List AStep := [a1j 2 0 0,a17 3,ac 4 4]
def ya.r3 : List AStep := [a1j 5 0 0]
def ya.r4 : List AStep := [ac 6 0]
def ya.r5 : List AStep := [ab 17 6,ab 18 0,ai 19 18,am 20 17 19]
def ya.r6 : List AStep := [ab 23 0,ab 24 6,ak 25 7 23 24,ar 26 7 25,⟨some 27, none, .call y7p [.t 26]⟩,ab 7 27]
def ya.r7 : List AStep := [ab 28 7,a11 29 28 0,ab 30 29,aj 31 30 5,aj 32 30 0,aj 33 30 6,a1l 34 30 7 32 33,az 35 30 0 34,ay 36 30 1 35,⟨some 37, (some (30, true)), .call y46 [.t 31, .t 36]⟩,a2f 38 30 37 0,an 39 30 38]
def ya.r8 : List AStep := [ac 7 8]
def ya.r9 : List AStep := [ab 40 7,a1c 41 40 0]
def ya.r10 : List AStep := [ab 42 0,ab 43 6,ak 44 7 42 43,af 45 0 44,ae 46 1 45,ab 47 7,a1j 2 0 0,ab 3 46,ab 4 47]
def ya.r11 : List AStep := [ab 48 5,ab 49 0,ab 50 6,ak 51 7 49 50,af 52 0 51,ae 53 1 52,a2k 54 1 1 0 1 53,a1n 55 1 16 48 54,ab 5 55]
def ya.r12 : List AStep := [ab 21 6,ap 22 21 1,ab 6 22]
def ya.l0 : ACode := .seq (.seq (.post [0, 5, 6, 20] (.region ya.r5)) (.post [0, 5, 6] (.cond (.t 20) (.skip) (.exit 0)))) (.seq (.post [0, 5, 6] (.block 1 (.seq (.post [0, 5, 6, 7] (.region ya.r6)) (.seq (.seq (.post [0, 5, 6, 7, 39] (.region ya.r7)) (.post [0, 5, 6, 7] (.cond (.t 39) (.post [0, 5, 6, 7] (.region ya.r8)) (.skip)))) (.seq (.seq (.post [0, 5, 6, 7, 41] (.region ya.r9)) (.post [0, 5, 6] (.cond (.t 41) (.seq (.post [2, 3, 4] (.draw [0, 0, 3, 7, 15, 0, 0, 95, 255] ya.r10)) (.ret)) (.skip)))) (.post [0, 5, 6] (.region ya.r11))))))) (.post [0, 5, 6] (.region ya.r12)))
def ya.r13 : List AStep := [a1j 8 0 0]
def ya.r14 : List AStep := [ab 56 0,⟨some 57, none, .call y8o [.t 56]⟩,ab 9 57]
def ya.r15 : List AStep := [ac 10 0]
def ya.r16 : List AStep := [ab 58 10,ab 59 9,ai 60 59,am 61 58 60]
def ya.r17 : List AStep := [ab 65 0,ab 66 9,ab 67 10,ak 68 1 66 67,ae 69 1 68,⟨some 70, none, .call y8n [.t 65, .t 69]⟩,ab 64 70,al 71 0 64,al 72 1 64,al 73 2 64,a1o 11 0 0,aq 3 11 71,ab 12 72,ab 13 73]
def ya.r18 : List AStep := [ab 74 13,a1c 75 74 0]
def ya.r19 : List AStep := [ab 76 9,ab 77 10,ak 78 1 76 77,ae 79 1 78,ab 80 13,a1j 2 0 0,ab 3 79,ab 4 80]
def ya.r20 : List AStep := [ab 81 12]
def ya.r21 : List AStep := [ab 82 8,ar 83 3 11,a3d 84 1 3 0 0 0 3 83,a1n 85 3 56 82 84,ab 8 85]
def ya.r22 : List AStep := [ab 62 10,ap 63 62 1,ab 10 63]
def ya.l1 : ACode := .seq (.seq (.post [0, 8, 9, 10, 61] (.region ya.r16)) (.post [0, 8, 9, 10] (.cond (.t 61) (.skip) (.exit 2)))) (.seq (.post [0, 8, 9, 10] (.block 3 (.seq (.post [0, 8, 9, 10, 11, 12, 13] (.region ya.r17)) (.seq (.seq (.post [0, 8, 9, 10, 11, 12, 13, 75] (.region ya.r18)) (.post [0, 8, 9, 10, 11, 12] (.cond (.t 75) (.seq (.post [2, 3, 4] (.draw [0, 0, 3, 7, 0, 0, 47, 127] ya.r19)) (.ret)) (.skip)))) (.seq (.post [0, 8, 9, 10, 11, 81] (.region ya.r20)) (.post [0, 8, 9, 10] (.cond (.t 81) (.post [0, 8, 9, 10] (.region ya.r21)) (.skip)))))))) (.post [0, 8, 9, 10] (.region ya.r22)))
def ya.r23 : List AStep := [ab 86 8,ab 2 86,a17 3,ac 4 0]
def ya : AFunc := ⟨87, [.t 2, .t 3, .t 4], .seq (.post [0] (.region ya.r0)) (.seq (.seq (.post [0, 16] (.region ya.r1)) (.post [0] (.cond (.t 16) (.seq (.post [2, 3, 4] (.region ya.r2)) (.ret)) (.skip)))) (.seq (.post [0, 5] (.region ya.r3)) (.seq (.seq (.post [0, 5, 6] (.region ya.r4)) (.post [0] (.block 0 (.loop ya.l0)))) (.seq (.post [0, 8] (.region ya.r13)) (.seq (.post [0, 8, 9] (.region ya.r14)) (.seq (.seq (.post [0, 8, 9, 10] (.region ya.r15)) (.post [8] (.block 2 (.loop ya.l1)))) (.seq (.post [2, 3, 4] (.region ya.r23)) (.ret))))))))⟩
theorem ya.ok : y23 Tryz.prog Tryz.f7 ya = true := by kernel_rfl
theorem ya.at : Tryz.prog.funcs[y75]? = some Tryz.f7 := Tryz.func7
def yg.r0 : List AStep := [ah 2]
def yg.r1 : List AStep := [ab 10 0,⟨some 11, none, .call y6t [.t 10]⟩]
def yg.r2 : List AStep := [a1a 2]
def yg.r3 : List AStep := [ab 13 0,⟨some 14, none, .call y5u [.t 13]⟩,ab 12 14,al 15 0 12,al 16 1 12,al 17 2 12,ab 3 15,ab 4 16,ab 5 17]
def yg.r4 : List AStep := [ab 19 0,⟨some 20, none, .call y75 [.t 19]⟩,ab 18 20,al 21 0 18,al 22 1 18,al 23 2 18,ab 6 21,ab 7 22,ab 8 23]
def yg.r5 : List AStep := [ab 24 3,ai 25 24,ab 26 6,ai 27 26,a1m 28 25 27,ab 29 28,a10 30 29 4,a10 31 29 7,a26 32 29 30 31,av 33 29 32,ab 34 33,a10 35 34 5,a10 36 34 8,a26 37 34 35 36,av 38 34 37]
def yg.r6 : List AStep := [ah 2]
def yg.r7 : List AStep := [ac 9 0]
def yg.r8 : List AStep := [ab 39 9,ab 40 3,ai 41 40,am 42 39 41,ab 43 42,aj 44 43 9,aj 45 43 6,a2l 46 43 45,a2m 47 43 44 46,an 48 43 47]
def yg.r9 : List AStep := [ab 51 3,ab 52 9,ak 53 3 51 52,af 54 0 53,ae 55 1 54,ab 56 6,ab 57 9,ak 58 3 56 57,af 59 0 58,ae 60 1 59,a1m 61 55 60,ab 62 61,a10 63 62 3,a10 64 62 9,a27 65 62 3 63 64,aw 66 62 1 65,ax 67 62 1 66,a10 68 62 6,a10 69 62 9,a27 70 62 3 68 69,aw 71 62 1 70,ax 72 62 1 71,a26 73 62 67 72,av 74 62 73,ab 75 74,a10 76 75 3,a10 77 75 9,a27 78 75 3 76 77,aw 79 75 2 78,ax 80 75 1 79,a10 81 75 6,a10 82 75 9,a27 83 75 3 81 82,aw 84 75 2 83,ax 85 75 1 84,⟨some 86, (some (75, false)), .call y70 [.t 80, .t 85]⟩,a1s 87 75 86,av 88 75 87]
def yg.r10 : List AStep := [ah 2]
def yg.r11 : List AStep := [ab 49 9,ap 50 49 1,ab 9 50]
def yg.l0 : ACode := .seq (.seq (.post [3, 6, 9, 48] (.region yg.r8)) (.post [3, 6, 9] (.cond (.t 48) (.skip) (.exit 0)))) (.seq (.post [3, 6, 9] (.block 1 (.seq (.post [3, 6, 9, 88] (.draw [0, 0, 3, 7, 15, 0, 0, 96, 224, 480, 1023, 2047, 4095, 4095, 16383, 32767, 65535, 4095, 4095, 397311, 921599, 1970175, 4194303, 8388607, 16777215, 33554431, 33554431, 134217727, 268435455, 536870911, 33554431, 33554431, 3254779903, 7549747199, 16139681791, 34359738367, 68719476735, 137438953471] yg.r9)) (.post [3, 6, 9] (.cond (.t 88) (.seq (.post [2] (.region yg.r10)) (.ret)) (.skip)))))) (.post [3, 6, 9] (.region yg.r11)))
def yg.r12 : List AStep := [⟨some 89, none, .call y7u []⟩,ab 2 89]
def yg : AFunc := ⟨90, [.t 2], .seq (.post [0] (.region yg.r0)) (.seq (.seq (.post [0, 11] (.region yg.r1)) (.post [0] (.cond (.t 11) (.seq (.post [2] (.region yg.r2)) (.ret)) (.skip)))) (.seq (.post [0, 3, 4, 5] (.region yg.r3)) (.seq (.post [3, 4, 5, 6, 7, 8] (.region yg.r4)) (.seq (.seq (.post [3, 6, 38] (.region yg.r5)) (.post [3, 6] (.cond (.t 38) (.seq (.post [2] (.region yg.r6)) (.ret)) (.skip)))) (.seq (.seq (.post [3, 6, 9] (.region yg.r7)) (.post [] (.block 0 (.loop yg.l0)))) (.seq (.post [2] (.region yg.r12)) (.ret)))))))⟩
theorem yg.ok : y23 Tryz.prog Tryz.f3 yg = true := by kernel_rfl
theorem yg.at : Tryz.prog.funcs[y5a]? = some Tryz.f3 := Tryz.func3
end C
end Go.Proofs.YtjajpilacdfnbaaGreatDoor
