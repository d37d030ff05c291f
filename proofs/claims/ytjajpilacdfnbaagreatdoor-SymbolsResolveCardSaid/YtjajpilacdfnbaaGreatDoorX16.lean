/- Part 16 of the proof of the laws of the queries: CodeB, CodeC. -/
import Derived.Test.YtjajpilacdfnbaaGreatDoorX15
namespace Go.Proofs.YtjajpilacdfnbaaGreatDoor
open Am Go.Proofs
set_option maxRecDepth 100000
namespace C
def yh.r0 : List AStep := [a2i 5 2,a1o 6 0 0,ac 7 0]
def yh.r1 : List AStep := [ab 14 1,⟨some 15, none, .op (.build [.s [], .s [], .sl none 0 0] [(0, 1, .t 14)])⟩,a1o 8 0 0,aq 3 8 15]
def yh.r2 : List AStep := [ac 9 0,ac 10 0]
def yh.r3 : List AStep := [ae 16 1 5,ai 17 16,ac 18 0]
def yh.r4 : List AStep := [am 19 18 17]
def yh.r5 : List AStep := [ak 20 4 16 18,ar 21 4 20,⟨some 12, none, .op (.new [.i .i64 0, .sl none 0 0, .sl none 0 0, .sl none 0 0])⟩,aq 4 12 21]
def yh.r6 : List AStep := [ab 22 0,af 23 0 12,ae 24 1 23,ak 25 7 22 24,ar 26 7 25,a3b 13 0 0 0 0 0 0 0 0 0 0 0 0,aq 7 13 26]
def yh.r7 : List AStep := [af 30 1 13,ae 31 1 30,ab 32 1,⟨some 33, none, .call y3r [.t 31, .t 32]⟩,ab 29 33]
def yh.r8 : List AStep := [ab 34 9,ap 35 34 1,ab 9 35]
def yh.r9 : List AStep := [af 36 0 13,ae 37 1 36,af 38 1 8,aq 1 38 37]
def yh.r10 : List AStep := [af 40 2 13,ae 41 1 40,ab 42 1,⟨some 43, none, .call y3r [.t 41, .t 42]⟩,ab 39 43]
def yh.r11 : List AStep := [af 44 2 8,ae 45 1 44,af 46 0 13,ae 47 1 46,a2k 48 1 1 0 1 47,a1n 49 1 16 45 48,af 50 2 8,aq 1 50 49]
def yh.r12 : List AStep := [ab 27 10,ap 28 27 1,ab 10 28]
def yh.r13 : List AStep := [ap 51 18 1,ab 18 51]
def yh.l0 : ACode := .seq (.post [0, 1, 5, 6, 8, 9, 10, 16, 17, 18, 19] (.region yh.r4)) (.seq (.post [0, 1, 5, 6, 8, 9, 10, 16, 17, 18] (.cond (.t 19) (.skip) (.exit 0))) (.seq (.post [0, 1, 5, 6, 8, 9, 10, 16, 17, 18] (.block 1 (.seq (.post [0, 1, 5, 6, 8, 9, 10, 12, 16, 17, 18] (.region yh.r5)) (.seq (.post [0, 1, 5, 6, 8, 9, 10, 13, 16, 17, 18] (.region yh.r6)) (.post [0, 1, 5, 6, 8, 9, 10, 16, 17, 18] (.block 2 (.seq (.post [0, 1, 5, 6, 8, 9, 10, 13, 16, 17, 18, 29] (.region yh.r7)) (.post [0, 1, 5, 6, 8, 9, 10, 16, 17, 18] (.cond (.t 29) (.seq (.post [0, 1, 5, 6, 8, 9, 10, 13, 16, 17, 18] (.region yh.r8)) (.post [0, 1, 5, 6, 8, 9, 10, 16, 17, 18] (.region yh.r9))) (.seq (.post [0, 1, 5, 6, 8, 9, 10, 13, 16, 17, 18, 39] (.region yh.r10)) (.post [0, 1, 5, 6, 8, 9, 10, 16, 17, 18] (.cond (.t 39) (.post [0, 1, 5, 6, 8, 9, 10, 16, 17, 18] (.region yh.r11)) (.post [0, 1, 5, 6, 8, 9, 10, 16, 17, 18] (.region yh.r12)))))))))))))) (.post [0, 1, 5, 6, 8, 9, 10, 16, 17, 18] (.region yh.r13))))
def yh.r14 : List AStep := [af 52 2 8,ae 53 1 52,⟨some 54, none, .call y57 [.t 53]⟩,af 55 2 8,aq 1 55 54]
def yh.r15 : List AStep := [ab 57 9,a19 58 57 1,ab 59 58,a10 60 59 10,a1g 61 59 60 0,a10 62 59 61,ay 63 62 1 5,a2l 64 62 63,a36 65 62 64 1,a1f 66 59 62 65,av 67 59 66,ab 56 67]
def yh.r16 : List AStep := [ar 68 3 8,aq 3 6 68,ac 7 8]
def yh.r17 : List AStep := [ae 70 1 5,⟨some 71, none, .op (.mkfn y5i [.t 5])⟩,⟨some 72, none, .call y2n [.t 70, .t 71]⟩,ab 69 72]
def yh.r18 : List AStep := [ar 73 3 8,aq 3 6 73,ac 7 12]
def yh.r19 : List AStep := [af 75 2 8,ae 76 1 75,ai 77 76,a19 78 77 0,ab 79 78,aj 80 79 9,a1q 81 79 80 0,an 82 79 81,ab 74 82]
def yh.r20 : List AStep := [ar 83 3 8,aq 3 6 83,ac 7 7]
def yh.r21 : List AStep := [ar 84 3 8,aq 3 6 84,ac 7 0]
def yh : AFunc := ⟨85, [.cell 6 true 3, .t 7], .seq (.post [0, 1, 5, 6] (.region yh.r0)) (.seq (.post [0, 1, 5, 6, 8] (.region yh.r1)) (.seq (.post [0, 1, 5, 6, 8, 9, 10] (.region yh.r2)) (.seq (.seq (.post [0, 1, 5, 6, 8, 9, 10, 16, 17, 18] (.region yh.r3)) (.post [5, 6, 8, 9, 10] (.block 0 (.loop yh.l0)))) (.seq (.post [5, 6, 8, 9, 10] (.region yh.r14)) (.seq (.post [6, 8] (.block 3 (.seq (.post [5, 6, 8, 9, 56] (.region yh.r15)) (.post [6, 8] (.cond (.t 56) (.seq (.post [6, 7] (.region yh.r16)) (.ret)) (.seq (.post [6, 8, 9, 69] (.region yh.r17)) (.post [6, 8] (.cond (.t 69) (.seq (.post [6, 7] (.region yh.r18)) (.ret)) (.seq (.post [6, 8, 74] (.region yh.r19)) (.post [6, 8] (.cond (.t 74) (.seq (.post [6, 7] (.region yh.r20)) (.ret)) (.skip)))))))))))) (.seq (.post [6, 7] (.region yh.r21)) (.ret)))))))⟩
theorem yh.ok : y23 Tryz.prog Tryz.f17 yh = true := by kernel_rfl
theorem yh.at : Tryz.prog.funcs[y8a]? = some Tryz.f17 := Tryz.func17
def y8.r0 : List AStep := [a1j 2 0 0,a17 3,ac 4 0]
def y8.r1 : List AStep := [ab 16 0,ai 17 16,a19 18 17 8]
def y8.r2 : List AStep := [a1j 2 0 0,a17 3,ac 4 4]
def y8.r3 : List AStep := [ab 19 0,ai 20 19,ac 21 0]
def y8.r4 : List AStep := [am 22 21 20]
def y8.r5 : List AStep := [ab 23 21,ak 24 7 19 21,ar 25 7 24,a3b 6 0 0 0 0 0 0 0 0 0 0 0 0,ab 5 23,aq 7 6 25]
def y8.r6 : List AStep := [ar 26 7 6,⟨some 27, none, .call y8r [.t 26]⟩,ab 7 27]
def y8.r7 : List AStep := [ab 28 7,a11 29 28 0,ab 30 29,aj 31 30 0,aj 32 30 5,⟨some 33, (some (30, true)), .op (.slc 7 (.t 31) none (some (.t 32)))⟩,⟨some 34, (some (30, true)), .op (.mkfn y5w [.t 6])⟩,⟨some 35, (some (30, true)), .call y3s [.t 33, .t 34]⟩,an 36 30 35]
def y8.r8 : List AStep := [ac 7 8]
def y8.r9 : List AStep := [ab 37 7,a1c 38 37 0]
def y8.r10 : List AStep := [af 39 0 6,ae 40 1 39,ab 41 7,a1j 2 0 0,ab 3 40,ab 4 41]
def y8.r11 : List AStep := [ap 42 21 1,ab 21 42]
def y8.l0 : ACode := .seq (.post [0, 19, 20, 21, 22] (.region y8.r4)) (.seq (.post [0, 19, 20, 21] (.cond (.t 22) (.skip) (.exit 0))) (.seq (.post [0, 19, 20, 21] (.block 1 (.seq (.post [0, 5, 6, 19, 20, 21] (.region y8.r5)) (.seq (.post [0, 5, 6, 7, 19, 20, 21] (.region y8.r6)) (.seq (.seq (.post [0, 6, 7, 19, 20, 21, 36] (.region y8.r7)) (.post [0, 6, 7, 19, 20, 21] (.cond (.t 36) (.post [0, 6, 7, 19, 20, 21] (.region y8.r8)) (.skip)))) (.seq (.post [0, 6, 7, 19, 20, 21, 38] (.region y8.r9)) (.post [0, 19, 20, 21] (.cond (.t 38) (.seq (.post [2, 3, 4] (.draw [0, 1, 0, 0, 11, 31] y8.r10)) (.ret)) (.skip))))))))) (.post [0, 19, 20, 21] (.region y8.r11))))
def y8.r12 : List AStep := [ab 43 0,⟨some 44, none, .call y89 [.t 43]⟩,ab 8 44]
def y8.r13 : List AStep := [a1j 9 0 0]
def y8.r14 : List AStep := [ab 45 8,⟨some 46, none, .op (.rgm (.t 45))⟩]
def y8.r15 : List AStep := [⟨some 47, none, .nxt (.t 46)⟩,al 48 0 47]
def y8.r16 : List AStep := [⟨some 49, none, .op (.enm (.t 46))⟩,al 50 0 49,ab 10 50]
def y8.r17 : List AStep := [ab 51 9,ab 52 10,a2k 53 1 1 0 1 52,a1n 54 1 16 51 53,ab 9 54]
def y8.l1 : ACode := .seq (.post [0, 8, 9, 46, 48] (.region y8.r15)) (.seq (.post [0, 8, 9, 46] (.cond (.t 48) (.skip) (.exit 2))) (.post [0, 8, 9, 46] (.block 3 (.seq (.post [0, 8, 9, 10, 46] (.region y8.r16)) (.post [0, 8, 9, 46] (.region y8.r17))))))
def y8.r18 : List AStep := [ab 55 9,⟨some 56, none, .call y4d [.t 55]⟩]
def y8.r19 : List AStep := [a1j 11 0 0]
def y8.r20 : List AStep := [ab 57 9,ai 58 57,ac 59 0]
def y8.r21 : List AStep := [am 60 59 58]
def y8.r22 : List AStep := [ak 61 1 57 59,ae 62 1 61,ab 13 62]
def y8.r23 : List AStep := [ab 64 0,ab 65 13,ab 66 8,ab 67 13,a3c 68 0 0 66 67,⟨some 69, none, .call y8a [.t 64, .t 65, .t 68]⟩,ab 63 69,al 70 0 63,al 71 1 63,a1o 14 0 0,aq 3 14 70,ab 15 71]
def y8.r24 : List AStep := [ab 72 15,a1c 73 72 0]
def y8.r25 : List AStep := [ab 74 13,ab 75 15,a1j 2 0 0,ab 3 74,ab 4 75]
def y8.r26 : List AStep := [af 76 1 14,ae 77 1 76,a1v 78 77]
def y8.r27 : List AStep := [ab 79 11,ar 80 3 14,a3d 81 1 3 0 0 0 3 80,a1n 82 3 56 79 81,ab 11 82]
def y8.r28 : List AStep := [ap 83 59 1,ab 59 83]
def y8.l2 : ACode := .seq (.post [0, 8, 11, 57, 58, 59, 60] (.region y8.r21)) (.seq (.post [0, 8, 11, 57, 58, 59] (.cond (.t 60) (.skip) (.exit 4))) (.seq (.post [0, 8, 11, 57, 58, 59] (.block 5 (.seq (.post [0, 8, 11, 13, 57, 58, 59] (.region y8.r22)) (.seq (.post [0, 8, 11, 13, 14, 15, 57, 58, 59] (.region y8.r23)) (.seq (.seq (.post [0, 8, 11, 13, 14, 15, 57, 58, 59, 73] (.region y8.r24)) (.post [0, 8, 11, 14, 57, 58, 59] (.cond (.t 73) (.seq (.post [2, 3, 4] (.region y8.r25)) (.ret)) (.skip)))) (.seq (.post [0, 8, 11, 14, 57, 58, 59, 78] (.region y8.r26)) (.post [0, 8, 11, 57, 58, 59] (.cond (.t 78) (.post [0, 8, 11, 57, 58, 59] (.region y8.r27)) (.skip))))))))) (.post [0, 8, 11, 57, 58, 59] (.region y8.r28))))
def y8.r29 : List AStep := [ab 84 11,ab 2 84,a17 3,ac 4 0]
def y8 : AFunc := ⟨85, [.t 2, .t 3, .t 4], .seq (.post [0] (.region y8.r0)) (.seq (.seq (.post [0, 18] (.region y8.r1)) (.post [0] (.cond (.t 18) (.seq (.post [2, 3, 4] (.region y8.r2)) (.ret)) (.skip)))) (.seq (.seq (.post [0, 19, 20, 21] (.region y8.r3)) (.post [0] (.block 0 (.loop y8.l0)))) (.seq (.post [0, 8] (.region y8.r12)) (.seq (.post [0, 8, 9] (.region y8.r13)) (.seq (.seq (.post [0, 8, 9, 46] (.region y8.r14)) (.post [0, 8, 9] (.block 2 (.loop y8.l1)))) (.seq (.post [0, 8, 9] (.region y8.r18)) (.seq (.post [0, 8, 9, 11] (.region y8.r19)) (.seq (.seq (.post [0, 8, 11, 57, 58, 59] (.region y8.r20)) (.post [11] (.block 4 (.loop y8.l2)))) (.seq (.post [2, 3, 4] (.region y8.r29)) (.ret))))))))))⟩
theorem y8.ok : y23 Tryz.prog Tryz.f6 y8 = true := by kernel_rfl
theorem y8.at : Tryz.prog.funcs[y5u]? = some Tryz.f6 := Tryz.func6
def y1d.r0 : List AStep := [ac 4 0]
def y1d.r1 : List AStep := [ac 5 0]
def y1d.r2 : List AStep := [ab 6 5,ab 7 0,ai 8 7,am 9 6 8]
def y1d.r3 : List AStep := [ab 12 0,ab 13 5,ak 14 1 12 13,ae 15 1 14,ab 16 1,a1x 17 15 16]
def y1d.r4 : List AStep := [ab 18 5,ab 4 18]
def y1d.r5 : List AStep := [ab 10 5,ap 11 10 1,ab 5 11]
def y1d.l0 : ACode := .seq (.seq (.post [0, 1, 5, 9] (.region y1d.r2)) (.post [0, 1, 5] (.cond (.t 9) (.skip) (.exit 0)))) (.seq (.post [0, 1, 5] (.block 1 (.seq (.post [0, 1, 5, 17] (.region y1d.r3)) (.post [0, 1, 5] (.cond (.t 17) (.seq (.post [4] (.region y1d.r4)) (.ret)) (.skip)))))) (.post [0, 1, 5] (.region y1d.r5)))
def y1d.r6 : List AStep := [ac 4 (-1)]
def y1d : AFunc := ⟨19, [.t 4], .seq (.post [0, 1] (.region y1d.r0)) (.seq (.seq (.post [0, 1, 5] (.region y1d.r1)) (.post [] (.block 0 (.loop y1d.l0)))) (.seq (.post [4] (.region y1d.r6)) (.ret)))⟩
theorem y1d.ok : y23 Tryz.prog Tryz.f19 y1d = true := by kernel_rfl
theorem y1d.at : Tryz.prog.funcs[y46]? = some Tryz.f19 := Tryz.func19
def y1r.r0 : List AStep := [ah 4]
def y1r.r1 : List AStep := [ab 6 0,ai 7 6,ab 8 1,ai 9 8,a1m 10 7 9]
def y1r.r2 : List AStep := [ah 4]
def y1r.r3 : List AStep := [ac 5 0]
def y1r.r4 : List AStep := [ab 11 5,ab 12 0,ai 13 12,am 14 11 13,ab 15 14,aj 16 15 5,aj 17 15 1,a2l 18 15 17,a2m 19 15 16 18,an 20 15 19]
def y1r.r5 : List AStep := [ab 23 0,ab 24 5,ak 25 1 23 24,ae 26 1 25,ab 27 1,ab 28 5,ak 29 1 27 28,ae 30 1 29,a1m 31 26 30]
def y1r.r6 : List AStep := [ah 4]
def y1r.r7 : List AStep := [ab 21 5,ap 22 21 1,ab 5 22]
def y1r.l0 : ACode := .seq (.seq (.post [0, 1, 5, 20] (.region y1r.r4)) (.post [0, 1, 5] (.cond (.t 20) (.skip) (.exit 0)))) (.seq (.post [0, 1, 5] (.block 1 (.seq (.post [0, 1, 5, 31] (.draw [0, 0, 3, 7, 0, 0, 48, 112, 255] y1r.r5)) (.post [0, 1, 5] (.cond (.t 31) (.seq (.post [4] (.region y1r.r6)) (.ret)) (.skip)))))) (.post [0, 1, 5] (.region y1r.r7)))
def y1r.r8 : List AStep := [a1a 4]
def y1r : AFunc := ⟨32, [.t 4], .seq (.post [0, 1] (.region y1r.r0)) (.seq (.seq (.post [0, 1, 10] (.region y1r.r1)) (.post [0, 1] (.cond (.t 10) (.seq (.post [4] (.region y1r.r2)) (.ret)) (.skip)))) (.seq (.seq (.post [0, 1, 5] (.region y1r.r3)) (.post [] (.block 0 (.loop y1r.l0)))) (.seq (.post [4] (.region y1r.r8)) (.ret))))⟩
theorem y1r.ok : y23 Tryz.prog Tryz.f8 y1r = true := by kernel_rfl
theorem y1r.at : Tryz.prog.funcs[y70]? = some Tryz.f8 := Tryz.func8
end C
end Go.Proofs.YtjajpilacdfnbaaGreatDoor
namespace Go.Proofs.YtjajpilacdfnbaaGreatDoor
open Am Go.Proofs
set_option maxRecDepth 100000
namespace C
def y3i.r0 : List AStep := [⟨some 2, none, .op (.new [.sl none 0 0, .sl none 0 0, .sl none 0 0])⟩]
def y3i.r1 : List AStep := [ab 3 0,⟨some 4, none, .op (.build [.s [], .s [], .s []] [(0, 1, .t 3), (1, 1, .c (.s [112])), (2, 1, .c (.s [118]))])⟩,⟨some 5, none, .op (.bfz 1 3 [.s [], .s [], .s []] [(0, 3, .t 4)])⟩,a3e 6 1 1 5,aq 3 2 6]
def y3i : AFunc := ⟨7, [.cell 2 true 3], .seq (.post [0, 2] (.region y3i.r0)) (.seq (.post [2] (.region y3i.r1)) (.ret))⟩
theorem y3i.ok : y23 Tryz.prog Tryz.f22 y3i = true := by kernel_rfl
theorem y3i.at : Tryz.prog.funcs[y6d]? = some Tryz.f22 := Tryz.func22
def y2c.r0 : List AStep := [ah 0]
def y2c.r1 : List AStep := [a3h 8 1 1 0 1 102 40 41,⟨some 9, none, .call y6d [.c (.s [102, 40, 41])]⟩,a3i 10 0 1 110 2 1 8 4 3 9,a3h 11 1 1 0 1 102 40 41,⟨some 12, none, .call y6d [.c (.s [102, 40, 41])]⟩,a3i 13 0 1 109 1 1 11 4 3 12,⟨some 14, none, .op (.bfz 2 7 [.s [], .sl none 0 0, .sl none 0 0, .sl none 0 0, .sl none 0 0, .sl none 0 0, .sl none 0 0] [(0, 7, .t 10), (7, 7, .t 13)])⟩,⟨some 15, none, .call y5u [.t 14]⟩,ab 7 15,al 16 0 7,al 17 1 7,al 18 2 7,ab 1 16,ab 2 17,ab 3 18]
def y2c.r2 : List AStep := [a3h 20 1 1 0 1 102 40 41,⟨some 21, none, .call y6d [.c (.s [102, 40, 41])]⟩,a3i 22 0 1 110 2 1 20 4 3 21,⟨some 23, none, .op (.bfz 1 7 [.s [], .sl none 0 0, .sl none 0 0, .sl none 0 0, .sl none 0 0, .sl none 0 0, .sl none 0 0] [(0, 7, .t 22)])⟩,⟨some 24, none, .call y5u [.t 23]⟩,ab 19 24,al 25 0 19,al 26 1 19,al 27 2 19,ab 4 25,ab 5 26,ab 6 27]
def y2c.r3 : List AStep := [ab 28 3,a11 29 28 0,ab 30 29,aj 31 30 1,a2l 32 30 31,a1q 33 30 32 1,an 34 30 33,ab 35 34,aj 36 35 1,a3j 37 35 3 36 0,az 38 35 0 37,ay 39 35 1 38,⟨some 40, (some (35, true)), .op (.bin .eql (.t 39) (.c (.s [102, 40, 41])))⟩,an 41 35 40,ab 42 41,aj 43 42 1,a3j 44 42 3 43 0,az 45 42 1 44,ay 46 42 1 45,⟨some 47, (some (42, true)), .op (.bin .eql (.t 46) (.c (.s [109])))⟩,an 48 42 47,ab 49 48,aj 50 49 1,a3j 51 49 3 50 0,az 52 49 2 51,ay 53 49 1 52,⟨some 54, (some (49, true)), .op (.bfz 1 1 [.s []] [(0, 1, .c (.s [110]))])⟩,⟨some 55, (some (49, true)), .call y70 [.t 53, .t 54]⟩,an 56 49 55,ab 57 56,aj 58 57 5,⟨some 59, (some (57, true)), .op (.bin .eql (.t 58) (.c (.s [102, 40, 41])))⟩,an 60 57 59,ab 61 60,aj 62 61 6,a1q 63 61 62 7,an 64 61 63,ab 0 64]
def y2c : AFunc := ⟨65, [.t 0], .seq (.post [] (.region y2c.r0)) (.seq (.post [1, 3] (.region y2c.r1)) (.seq (.post [1, 3, 5, 6] (.region y2c.r2)) (.seq (.post [0] (.region y2c.r3)) (.ret))))⟩
theorem y2c.ok : y23 Tryz.prog Tryz.f9 y2c = true := by kernel_rfl
theorem y2c.at : Tryz.prog.funcs[y7u]? = some Tryz.f9 := Tryz.func9
end C
end Go.Proofs.YtjajpilacdfnbaaGreatDoor
