/- Part 17 of the proof of the laws of the queries: CodeB. -/
import Derived.Test.YthmkcebbeehbeaaGreatDoorXEw16
set_option linter.unusedSimpArgs false
set_option linter.unusedVariables false
namespace Go.Proofs.YthmkcebbeehbeaaGreatDoor
open Am Go.Proofs
set_option maxRecDepth 100000
namespace C
def y1p.r0:jI:=[a16 1 0,af 2 0]
def y1p.r1:jI:=[ae 6 0 1,ac 7 1 6,⟨some 8,none,.call y72 [.t 7]⟩,ab 5 8,ai 9 0 5,ai 10 1 5,a1g 3 0 0 0 0,ak 6 3 9,ab 4 10]
def y1p.r2:jI:=[ab 11 4,a17 12 11 0,ab 13 12,az 14 13 0 3,ay 15 13 1 14,a27 16 13 15 4,ax 17 13 16]
def y1p.r3:jI:=[af 2 11]
def y1p.r4:jI:=[ae 18 1 1,ac 19 1 18,⟨some 20,none,.call y8j [.t 19,.c (.i .i64 0),.c (.i .i64 6)]⟩,a1a 21 20,ab 22 21,az 23 22 2 1,ay 24 22 1 23,⟨some 25,(some (22,false)),.op (.bin .neq (.t 24) (.c (.s [105])))⟩,a14 26 22 25,a13 27 26 2 1,a11 28 26 1 27,a2k 29 26 28 112,a1e 30 22 26 29,a14 31 22 30,a13 32 31 2 1,a11 33 31 1 32,a2k 34 31 33 118,a1e 35 22 31 34,ax 36 22 35]
def y1p.r5:jI:=[af 2 5]
def y1p.r6:jI:=[af 2 0]
def y1p:AFunc:=⟨37,[.t 2],jJ [1] y1p.r0 (jJ [1,3,4] y1p.r1 (.seq (jJ [1,17] y1p.r2 (.post [1] (.cond (.t 17) (jJ [2] y1p.r3 (.ret)) (.skip)))) (.seq (jJ [36] y1p.r4 (.post [] (.cond (.t 36) (jJ [2] y1p.r5 (.ret)) (.skip)))) (jJ [2] y1p.r6 (.ret)))))⟩
theorem y1p.ok:y1v Tryz.prog Tryz.f102 y1p=true:=by kernel_rfl
theorem y1p.at:Tryz.prog.funcs[ya0]?=some Tryz.f102:=Tryz.func102
def y3z.r0:jI:=[an 2]
def y3z.r1:jI:=[ab 6 0,⟨some 7,none,.call y72 [.t 6]⟩,ab 5 7,ai 8 0 5,ai 9 1 5,a1g 3 0 0 0 0,ak 6 3 8,ab 4 9]
def y3z.r2:jI:=[ab 10 4,a12 11 10 0,ab 12 11,a13 13 12 0 3,a11 14 12 1 13,a1y 15 12 14 3,ah 16 12 15,az 17 16 5 3,ay 18 16 1 17,a2i 19 16 18 0,a1h 20 12 16 19,aj 21 12 20,ab 2 21]
def y3z:AFunc:=⟨22,[.t 2],jJ [0] y3z.r0 (jJ [3,4] y3z.r1 (jJ [2] y3z.r2 (.ret)))⟩
theorem y3z.ok:y1v Tryz.prog Tryz.f45 y3z=true:=by kernel_rfl
theorem y3z.at:Tryz.prog.funcs[y81]?=some Tryz.f45:=Tryz.func45
def y3s.r0:jI:=[an 2]
def y3s.r1:jI:=[ab 6 0,⟨some 7,none,.call y72 [.t 6]⟩,ab 5 7,ai 8 0 5,ai 9 1 5,a1g 3 0 0 0 0,ak 6 3 8,ab 4 9]
def y3s.r2:jI:=[ab 10 4,a12 11 10 0,ab 12 11,a13 13 12 0 3,a11 14 12 1 13,a1o 15 12 14 4,ah 16 12 15,az 17 16 5 3,ay 18 16 1 17,a2i 19 16 18 0,a1h 20 12 16 19,aj 21 12 20,ab 2 21]
def y3s:AFunc:=⟨22,[.t 2],jJ [0] y3s.r0 (jJ [3,4] y3s.r1 (jJ [2] y3s.r2 (.ret)))⟩
theorem y3s.ok:y1v Tryz.prog Tryz.f159 y3s=true:=by kernel_rfl
theorem y3s.at:Tryz.prog.funcs[ybe]?=some Tryz.f159:=Tryz.func159
def y2g.r0:jI:=[aw 2,aw 3,an 4]
def y2g.r1:jI:=[af 5 0]
def y2g.r2:jI:=[ab 7 5,ab 8 0,a15 9 8,ap 10 7 9]
def y2g.r3:jI:=[ab 13 0,ab 14 5,a1r 15 13 14,a24 16 15 62]
def y2g.r4:jI:=[ab 17 0,ab 18 5,ar 19 18 1,a26 20 17 19,ab 6 20]
def y2g.r5:jI:=[ab 21 0,ab 22 5,a1w 23 21 22,ab 24 6,ab 25 0,ab 26 5,a1w 27 25 26,⟨some 28,none,.call y8j [.t 27,.c (.i .i64 0),.c (.i .i64 6)]⟩,ab 29 28,ah 30 29 6,a3i 31 29 30,ah 32 29 31,a14 33 32 6,⟨some 34,(some (32,false)),.op (.bin .eql (.t 33) (.c (.s [105])))⟩,a1h 35 29 32 34,ah 36 29 35,a14 37 36 6,⟨some 38,(some (36,false)),.op (.bin .eql (.t 37) (.c (.s [112])))⟩,a1h 39 29 36 38,aj 40 29 39,ab 2 23,ab 3 24,ab 4 40]
def y2g.r6:jI:=[ab 11 5,ar 12 11 1,ab 5 12]
def y2g.l0:ACode:=.seq (jJ [0,5,10] y2g.r2 (.post [0,5] (.cond (.t 10) (.skip) (.exit 0)))) (.seq (.post [0,5] (.block 1 (jJ [0,5,16] y2g.r3 (.post [0,5] (.cond (.t 16) (jJ [0,5,6] y2g.r4 (.seq (.post [2,3,4] (.draw [0,0,3,0,0,0,48,112,240,496,1008,2032,4080,8176,16368,32752,65520,131056,262128,524272,65527,1114111,4194303] y2g.r5)) (.ret))) (.skip)))))) (jK [0,5] y2g.r6))
def y2g.r7:jI:=[aw 2,aw 3,an 4]
def y2g:AFunc:=⟨41,[.t 2,.t 3,.t 4],jJ [0] y2g.r0 (.seq (jJ [0,5] y2g.r1 (.post [] (.block 0 (.loop y2g.l0)))) (jJ [2,3,4] y2g.r7 (.ret)))⟩
theorem y2g.ok:y1v Tryz.prog Tryz.f188 y2g=true:=by kernel_rfl
theorem y2g.at:Tryz.prog.funcs[ycu]?=some Tryz.f188:=Tryz.func188
def y12.r0:jI:=[a16 1 0,af 2 0]
def y12.r1:jI:=[ae 9 4 1,ac 10 1 9,⟨some 11,none,.call ycu [.t 10]⟩,ab 8 11,ai 12 0 8,ai 13 1 8,ai 14 2 8,ab 3 12,ab 4 13,ab 5 14]
def y12.r2:jI:=[ab 15 5,a1a 16 15,ab 17 16,az 18 17 3 1,ay 19 17 1 18,a27 20 17 19 0,ax 21 17 20,ab 22 21,az 23 22 5 1,ay 24 22 1 23,a1v 25 22 24,a14 26 22 3,a1t 27 22 26,⟨some 28,(some (22,false)),.op (.bin .add (.t 27) (.c (.i .i64 1)))⟩,a3j 29 22 25 28,ax 30 22 29]
def y12.r3:jI:=[af 2 3]
def y12.r4:jI:=[af 6 0]
def y12.r5:jI:=[ab 31 6,ae 32 5 1,ac 33 1 32,am 34 33,ap 35 31 34]
def y12.r6:jI:=[ab 38 4,a36 39 38 112,ab 7 39]
def y12.r7:jI:=[ab 40 6,a19 41 40 0]
def y12.r8:jI:=[ab 42 3,ab 43 6,a2y 44 43 1,a1r 45 42 44,a24 46 45 112,ab 7 46]
def y12.r9:jI:=[ae 47 5 1,ac 48 1 47,ab 49 6,av 50 1 48 49,ac 51 1 50,a1x 52 51,ab 53 52,ah 54 53 7,a1u 55 53 54,ah 56 53 55,az 57 56 5 1,ay 58 56 1 57,a14 59 56 6,a32 60 56 1 58 59,ay 61 56 1 60,⟨some 62,(some (56,false)),.call y81 [.t 61]⟩,a1z 63 56 62,a1h 64 53 56 63,aj 65 53 64]
def y12.r10:jI:=[af 2 3]
def y12.r11:jI:=[ab 36 6,ar 37 36 1,ab 6 37]
def y12.l0:ACode:=.seq (jJ [1,3,4,6,35] y12.r5 (.post [1,3,4,6] (.cond (.t 35) (.skip) (.exit 0)))) (.seq (.post [1,3,4,6] (.block 1 (jJ [1,3,4,6,7] y12.r6 (.seq (jJ [1,3,4,6,7,41] y12.r7 (.post [1,3,4,6,7] (.cond (.t 41) (jK [1,3,4,6,7] y12.r8) (.skip)))) (jJ [1,3,4,6,65] y12.r9 (.post [1,3,4,6] (.cond (.t 65) (jJ [2] y12.r10 (.ret)) (.skip)))))))) (jK [1,3,4,6] y12.r11))
def y12.r12:jI:=[af 2 0]
def y12:AFunc:=⟨66,[.t 2],jJ [1] y12.r0 (jJ [1,3,4,5] y12.r1 (.seq (jJ [1,3,4,30] y12.r2 (.post [1,3,4] (.cond (.t 30) (jJ [2] y12.r3 (.ret)) (.skip)))) (.seq (jJ [1,3,4,6] y12.r4 (.post [] (.block 0 (.loop y12.l0)))) (jJ [2] y12.r12 (.ret)))))⟩
theorem y12.ok:y1v Tryz.prog Tryz.f160 y12=true:=by kernel_rfl
theorem y12.at:Tryz.prog.funcs[yc8]?=some Tryz.f160:=Tryz.func160
def yu.r0:jI:=[a16 1 0,af 2 0]
def yu.r1:jI:=[ae 5 0 1,ac 6 1 5,a1p 7 6 1,ab 8 7,az 9 8 0 1,ay 10 8 1 9,a1d 11 8 10 6,ax 12 8 11]
def yu.r2:jI:=[af 2 5]
def yu.r3:jI:=[ae 14 1 1,ac 15 1 14,⟨some 16,none,.call y72 [.t 15]⟩,ab 13 16,ai 17 0 13,ai 18 1 13,a1g 3 0 0 0 0,ak 6 3 17,ab 4 18]
def yu.r4:jI:=[ae 19 1 1,ac 20 1 19,⟨some 21,none,.call y81 [.t 20]⟩,a1a 22 21,ab 23 22,az 24 23 0 1,ay 25 23 1 24,a1q 26 23 25 6,a14 27 23 26,ah 28 27 4,a3o 29 27 28 0,ah 30 27 29,az 31 30 0 3,ay 32 30 1 31,a27 33 30 32 3,a1h 34 27 30 33,a1e 35 23 27 34,ax 36 23 35,ab 37 36,az 38 37 0 1,ay 39 37 1 38,a1q 40 37 39 1,a14 41 37 40,a13 42 41 2 1,a11 43 41 1 42,⟨some 44,(some (41,true)),.call ybe [.t 43]⟩,a1u 45 41 44,a1e 46 37 41 45,ax 47 37 46,ab 48 47,az 49 48 0 1,ay 50 48 1 49,a27 51 48 50 1,a14 52 48 51,a13 53 52 2 1,a11 54 52 1 53,⟨some 55,(some (52,true)),.call y81 [.t 54]⟩,a1u 56 52 55,a1e 57 48 52 56,ax 58 48 57]
def yu.r5:jI:=[af 2 11]
def yu.r6:jI:=[ae 60 0 1,ac 61 1 60,a12 62 61 6,ab 59 62]
def yu.r7:jI:=[a10 63 6 1,⟨some 64,none,.call yc8 [.t 63]⟩,ab 2 64]
def yu.r8:jI:=[ae 66 5 1,ac 67 1 66,am 68 67,a19 69 68 0,ab 65 69]
def yu.r9:jI:=[af 2 3]
def yu.r10:jI:=[ae 71 0 1,ac 72 1 71,a12 73 72 5,ab 70 73]
def yu.r11:jI:=[ae 74 3 1,ac 75 1 74,a1p 76 75 0,ab 77 76,az 78 77 3 1,ay 79 77 1 78,a1d 80 77 79 64,ax 81 77 80,ab 82 81,az 83 82 4 1,ay 84 82 1 83,a1t 85 82 84,a2w 86 82 85 1,ax 87 82 86,ab 88 87,az 89 88 4 1,ay 90 88 1 89,a1t 91 88 90,a1d 92 88 91 60,ax 93 88 92]
def yu.r12:jI:=[af 2 3]
def yu.r13:jI:=[af 2 0]
def yu.r14:jI:=[ae 95 3 1,ac 96 1 95,a17 97 96 0,ab 98 97,az 99 98 4 1,ay 100 98 1 99,a3l 101 98 100,ax 102 98 101,ab 94 102]
def yu.r15:jI:=[af 2 3]
def yu.r16:jI:=[af 2 0]
def yu:AFunc:=⟨103,[.t 2],jJ [1] yu.r0 (.seq (jJ [1,12] yu.r1 (.post [1] (.cond (.t 12) (jJ [2] yu.r2 (.ret)) (.skip)))) (jJ [1,3,4] yu.r3 (.seq (jJ [1,58] yu.r4 (.post [1] (.cond (.t 58) (jJ [2] yu.r5 (.ret)) (.skip)))) (.seq (.post [] (.block 0 (jJ [1,59] yu.r6 (.post [] (.cond (.t 59) (jJ [2] yu.r7 (.ret)) (jJ [1,65] yu.r8 (.post [] (.cond (.t 65) (jJ [2] yu.r9 (.ret)) (jJ [1,70] yu.r10 (.post [] (.cond (.t 70) (.seq (jJ [93] yu.r11 (.post [] (.cond (.t 93) (jJ [2] yu.r12 (.ret)) (.skip)))) (jJ [2] yu.r13 (.ret))) (jJ [94] yu.r14 (.post [] (.cond (.t 94) (jJ [2] yu.r15 (.ret)) (.skip))))))))))))))) (jJ [2] yu.r16 (.ret))))))⟩
theorem yu.ok:y1v Tryz.prog Tryz.f103 yu=true:=by kernel_rfl
theorem yu.at:Tryz.prog.funcs[ycv]?=some Tryz.f103:=Tryz.func103
def y36.r0:jI:=[af 4 0]
def y36.r1:jI:=[ab 6 0,ab 7 1,ap 8 6 7,ab 5 8]
def y36.r2:jI:=[af 4 (-1)]
def y36.r3:jI:=[ab 10 0,ab 11 1,a2f 12 10 11,ab 9 12]
def y36.r4:jI:=[af 4 1]
def y36.r5:jI:=[af 4 0]
def y36:AFunc:=⟨13,[.t 4],jJ [0,1] y36.r0 (.seq (.post [] (.block 0 (jJ [0,1,5] y36.r1 (.post [] (.cond (.t 5) (jJ [4] y36.r2 (.ret)) (jJ [9] y36.r3 (.post [] (.cond (.t 9) (jJ [4] y36.r4 (.ret)) (.skip))))))))) (jJ [4] y36.r5 (.ret)))⟩
theorem y36.ok:y1v Tryz.prog Tryz.f156 y36=true:=by kernel_rfl
theorem y36.at:Tryz.prog.funcs[y90]?=some Tryz.f156:=Tryz.func156
def y2z.r0:jI:=[af 4 0]
def y2z.r1:jI:=[ab 6 0,ab 7 1,ap 8 6 7,ab 5 8]
def y2z.r2:jI:=[af 4 (-1)]
def y2z.r3:jI:=[ab 10 0,ab 11 1,a2f 12 10 11,ab 9 12]
def y2z.r4:jI:=[af 4 1]
def y2z.r5:jI:=[af 4 0]
def y2z:AFunc:=⟨13,[.t 4],jJ [0,1] y2z.r0 (.seq (.post [] (.block 0 (jJ [0,1,5] y2z.r1 (.post [] (.cond (.t 5) (jJ [4] y2z.r2 (.ret)) (jJ [9] y2z.r3 (.post [] (.cond (.t 9) (jJ [4] y2z.r4 (.ret)) (.skip))))))))) (jJ [4] y2z.r5 (.ret)))⟩
theorem y2z.ok:y1v Tryz.prog Tryz.f157 y2z=true:=by kernel_rfl
theorem y2z.at:Tryz.prog.funcs[y7d]?=some Tryz.f157:=Tryz.func157
def yq.r0:jI:=[a16 2 0,a16 3 1,af 4 0]
def yq.r1:jI:=[ae 8 0 2,ac 9 1 8,ae 10 0 3,ac 11 1 10,⟨some 12,none,.call y90 [.t 9,.t 11]⟩,ae 13 1 2,ac 14 1 13,ae 15 1 3,ac 16 1 15,⟨some 17,none,.call y7d [.t 14,.t 16]⟩,ae 18 2 2,ac 19 1 18,ae 20 2 3,ac 21 1 20,⟨some 22,none,.call y7d [.t 19,.t 21]⟩,ae 23 3 2,ac 24 1 23,ae 25 3 3,ac 26 1 25,⟨some 27,none,.call y90 [.t 24,.t 26]⟩,ae 28 4 2,ac 29 1 28,ae 30 4 3,ac 31 1 30,⟨some 32,none,.call y7d [.t 29,.t 31]⟩,⟨some 33,none,.op (.bsl 5 [.i .i64 0] [(0,1,.t 12),(1,1,.t 17),(2,1,.t 22),(3,1,.t 27),(4,1,.t 32)])⟩,ab 5 33]
def yq.r2:jI:=[af 6 0]
def yq.r3:jI:=[ab 34 6,ae 35 5 2,ac 36 1 35,am 37 36,ap 38 34 37,ab 39 38,ah 40 39 6,a13 41 39 5 3,a11 42 39 1 41,a3q 43 39 42,a2n 44 39 40 43,aj 45 39 44]
def yq.r4:jI:=[ab 48 5,ae 49 5 2,ac 50 1 49,ab 51 6,av 52 1 50 51,ac 53 1 52,ae 54 5 3,ac 55 1 54,ab 56 6,av 57 1 55 56,ac 58 1 57,⟨some 59,none,.call y7d [.t 53,.t 58]⟩,⟨some 60,none,.op (.bfz 1 1 [.i .i64 0] [(0,1,.t 59)])⟩,a1l 61 1 8 48 60,ab 5 61]
def yq.r5:jI:=[ab 46 6,ar 47 46 1,ab 6 47]
def yq.l0:ACode:=.seq (jJ [2,3,5,6,45] yq.r3 (.post [2,3,5,6] (.cond (.t 45) (.skip) (.exit 0)))) (.seq (.post [2,3,5,6] (.block 1 (.post [2,3,5,6] (.draw [0,0,2,0,14,30,0,64,0,448,960,2046,4094,8191,16383] yq.r4)))) (jK [2,3,5,6] yq.r5))
def yq.r6:jI:=[ab 62 5,ae 63 5 2,ac 64 1 63,am 65 64,ae 66 5 3,ac 67 1 66,am 68 67,⟨some 69,none,.call y90 [.t 65,.t 68]⟩,⟨some 70,none,.op (.bfz 1 1 [.i .i64 0] [(0,1,.t 69)])⟩,a1l 71 1 8 62 70,ab 5 71]
def yq.r7:jI:=[af 7 0]
def yq.r8:jI:=[ab 72 7,ab 73 5,am 74 73,ap 75 72 74]
def yq.r9:jI:=[ab 78 5,ab 79 7,av 80 1 78 79,ac 81 1 80,a17 82 81 0]
def yq.r10:jI:=[ab 83 5,ab 84 7,av 85 1 83 84,ac 86 1 85,ab 4 86]
def yq.r11:jI:=[ab 76 7,ar 77 76 1,ab 7 77]
def yq.l1:ACode:=.seq (jJ [5,7,75] yq.r8 (.post [5,7] (.cond (.t 75) (.skip) (.exit 2)))) (.seq (.post [5,7] (.block 3 (jJ [5,7,82] yq.r9 (.post [5,7] (.cond (.t 82) (jJ [4] yq.r10 (.ret)) (.skip)))))) (jK [5,7] yq.r11))
def yq.r12:jI:=[af 4 0]
def yq:AFunc:=⟨87,[.t 4],jJ [2,3] yq.r0 (.seq (.post [2,3,5] (.draw [0,1,0,4,15,0,32,0,128,511,0,1024,0,4096,16383,0,32768,0,131072,524287,0,1048576,0,4194304,16777215,33554431,67108863] yq.r1)) (.seq (jJ [2,3,5,6] yq.r2 (.post [2,3,5] (.block 0 (.loop yq.l0)))) (jJ [5] yq.r6 (.seq (jJ [5,7] yq.r7 (.post [] (.block 2 (.loop yq.l1)))) (jJ [4] yq.r12 (.ret))))))⟩
theorem yq.ok:y1v Tryz.prog Tryz.f98 yq=true:=by kernel_rfl
theorem yq.at:Tryz.prog.funcs[yag]?=some Tryz.f98:=Tryz.func98
def y8.r0:jI:=[a16 1 0,af 2 0]
def y8.r1:jI:=[ae 9 0 1,ac 10 1 9,am 11 10,a19 12 11 600,ab 13 12,az 14 13 1 1,ay 15 13 1 14,a1v 16 13 15,a1d 17 13 16 600,ax 18 13 17,ab 19 18,az 20 19 2 1,ay 21 19 1 20,a1v 22 19 21,a1d 23 19 22 6000,ax 24 19 23]
def y8.r2:jI:=[af 2 4]
def y8.r3:jI:=[af 3 0]
def y8.r4:jI:=[ab 25 3,ae 26 0 1,ac 27 1 26,am 28 27,ap 29 25 28]
def y8.r5:jI:=[ae 32 0 1,ac 33 1 32,ab 34 3,av 35 3 33 34,a10 36 3 35,⟨some 37,none,.call yas [.t 36]⟩,ab 4 37]
def y8.r6:jI:=[ab 38 4,a17 39 38 0]
def y8.r7:jI:=[ab 40 4,ab 2 40]
def y8.r8:jI:=[ab 41 3,a19 42 41 0,ab 43 42,a13 44 43 0 1,a11 45 43 1 44,ah 46 43 3,a2a 47 43 46 1,a1k 48 43 3 45 47,a13 49 43 0 48,a11 50 43 1 49,a13 51 43 0 1,a11 52 43 1 51,ah 53 43 3,a1k 54 43 3 52 53,a13 55 43 0 54,a11 56 43 1 55,⟨some 57,(some (43,true)),.op (.bin .geq (.t 50) (.t 56))⟩,aj 58 43 57]
def y8.r9:jI:=[af 2 13]
def y8.r10:jI:=[ab 30 3,ar 31 30 1,ab 3 31]
def y8.l0:ACode:=.seq (jJ [1,3,29] y8.r4 (.post [1,3] (.cond (.t 29) (.skip) (.exit 0)))) (.seq (.post [1,3] (.block 1 (jJ [1,3,4] y8.r5 (.seq (jJ [1,3,4,39] y8.r6 (.post [1,3] (.cond (.t 39) (jJ [2] y8.r7 (.ret)) (.skip)))) (.seq (.post [1,3,58] (.draw [0,1,3,7,15,7,39,127,255,511,7,1031,7,7175,15367,31751,65535,131071] y8.r8)) (.post [1,3] (.cond (.t 58) (jJ [2] y8.r9 (.ret)) (.skip)))))))) (jK [1,3] y8.r10))
def y8.r11:jI:=[af 5 0]
def y8.r12:jI:=[ab 59 5,ae 60 1 1,ac 61 1 60,am 62 61,ap 63 59 62]
def y8.r13:jI:=[ae 66 1 1,ac 67 1 66,ab 68 5,av 69 3 67 68,a10 70 3 69,⟨some 71,none,.call ya0 [.t 70]⟩,ab 6 71]
def y8.r14:jI:=[ab 72 6,a17 73 72 0]
def y8.r15:jI:=[ab 74 6,ab 2 74]
def y8.r16:jI:=[ab 75 5,a19 76 75 0,ab 77 76,a13 78 77 1 1,a11 79 77 1 78,ah 80 77 5,a2a 81 77 80 1,a1k 82 77 3 79 81,a13 83 77 0 82,a11 84 77 1 83,a13 85 77 1 1,a11 86 77 1 85,ah 87 77 5,a1k 88 77 3 86 87,a13 89 77 0 88,a11 90 77 1 89,⟨some 91,(some (77,true)),.op (.bin .geq (.t 84) (.t 90))⟩,aj 92 77 91]
def y8.r17:jI:=[af 2 13]
def y8.r18:jI:=[ab 64 5,ar 65 64 1,ab 5 65]
def y8.l1:ACode:=.seq (jJ [1,5,63] y8.r12 (.post [1,5] (.cond (.t 63) (.skip) (.exit 2)))) (.seq (.post [1,5] (.block 3 (jJ [1,5,6] y8.r13 (.seq (jJ [1,5,6,73] y8.r14 (.post [1,5] (.cond (.t 73) (jJ [2] y8.r15 (.ret)) (.skip)))) (.seq (.post [1,5,92] (.draw [0,1,3,7,15,7,39,127,255,511,7,1031,7,7175,15367,31751,65535,131071] y8.r16)) (.post [1,5] (.cond (.t 92) (jJ [2] y8.r17 (.ret)) (.skip)))))))) (jK [1,5] y8.r18))
def y8.r19:jI:=[af 7 0]
def y8.r20:jI:=[ab 93 7,ae 94 2 1,ac 95 1 94,am 96 95,ap 97 93 96]
def y8.r21:jI:=[ae 100 2 1,ac 101 1 100,ab 102 7,av 103 6 101 102,a10 104 6 103,⟨some 105,none,.call ycv [.t 104]⟩,ab 8 105]
def y8.r22:jI:=[ab 106 8,a17 107 106 0]
def y8.r23:jI:=[ab 108 8,ab 2 108]
def y8.r24:jI:=[ab 109 7,a19 110 109 0,ab 111 110,a13 112 111 2 1,a11 113 111 1 112,ah 114 111 7,a2a 115 111 114 1,a1k 116 111 6 113 115,a1j 117 111 6 116,a13 118 111 2 1,a11 119 111 1 118,ah 120 111 7,a1k 121 111 6 119 120,a1j 122 111 6 121,⟨some 123,(some (111,true)),.call yag [.t 117,.t 122]⟩,a2u 124 111 123 0,aj 125 111 124]
def y8.r25:jI:=[af 2 13]
def y8.r26:jI:=[ab 98 7,ar 99 98 1,ab 7 99]
def y8.l2:ACode:=.seq (jJ [1,7,97] y8.r20 (.post [1,7] (.cond (.t 97) (.skip) (.exit 4)))) (.seq (.post [1,7] (.block 5 (jJ [1,7,8] y8.r21 (.seq (jJ [1,7,8,107] y8.r22 (.post [1,7] (.cond (.t 107) (jJ [2] y8.r23 (.ret)) (.skip)))) (.seq (.post [1,7,125] (.draw [0,1,3,7,15,7,39,127,255,7,519,7,3591,7687,16383,32767,65535] y8.r24)) (.post [1,7] (.cond (.t 125) (jJ [2] y8.r25 (.ret)) (.skip)))))))) (jK [1,7] y8.r26))
def y8.r27:jI:=[af 2 0]
def y8:AFunc:=⟨126,[.t 2],jJ [1] y8.r0 (.seq (jJ [1,24] y8.r1 (.post [1] (.cond (.t 24) (jJ [2] y8.r2 (.ret)) (.skip)))) (.seq (jJ [1,3] y8.r3 (.post [1] (.block 0 (.loop y8.l0)))) (.seq (jJ [1,5] y8.r11 (.post [1] (.block 2 (.loop y8.l1)))) (.seq (jJ [1,7] y8.r19 (.post [] (.block 4 (.loop y8.l2)))) (jJ [2] y8.r27 (.ret))))))⟩
theorem y8.ok:y1v Tryz.prog Tryz.f41 y8=true:=by kernel_rfl
theorem y8.at:Tryz.prog.funcs[ybf]?=some Tryz.f41:=Tryz.func41
def y3o.r0:jI:=[an 2]
def y3o.r1:jI:=[af 3 1]
def y3o.r2:jI:=[ab 4 3,ab 5 0,am 6 5,ap 7 4 6]
def y3o.r3:jI:=[ab 10 0,ab 11 3,av 12 1 10 11,ac 13 1 12,ab 14 0,ab 15 3,a2y 16 15 1,av 17 1 14 16,ac 18 1 17,⟨some 19,none,.op (.bin .leq (.t 13) (.t 18))⟩]
def y3o.r4:jI:=[an 2]
def y3o.r5:jI:=[ab 8 3,ar 9 8 1,ab 3 9]
def y3o.l0:ACode:=.seq (jJ [0,3,7] y3o.r2 (.post [0,3] (.cond (.t 7) (.skip) (.exit 0)))) (.seq (.post [0,3] (.block 1 (.seq (.post [0,3,19] (.draw [0,0,3,7,0,0,32,112,240,511] y3o.r3)) (.post [0,3] (.cond (.t 19) (jJ [2] y3o.r4 (.ret)) (.skip)))))) (jK [0,3] y3o.r5))
def y3o.r6:jI:=[a1b 2]
def y3o:AFunc:=⟨20,[.t 2],jJ [0] y3o.r0 (.seq (jJ [0,3] y3o.r1 (.post [] (.block 0 (.loop y3o.l0)))) (jJ [2] y3o.r6 (.ret)))⟩
theorem y3o.at:Tryz.prog.funcs[y9o]?=some Tryz.f42:=Tryz.func42
def y16.r0:jI:=[a16 2 0,an 4]
def y16.r1:jI:=[af 5 0]
def y16.r2:jI:=[ab 7 5,ae 8 0 2,ac 9 1 8,am 10 9,ap 11 7 10]
def y16.r3:jI:=[ae 14 0 2,ac 15 1 14,ab 16 5,av 17 3 15 16,ae 18 0 17,ac 19 1 18,ab 20 1,a2c 21 19 20]
def y16.r4:jI:=[a1b 4]
def y16.r5:jI:=[ab 12 5,ar 13 12 1,ab 5 13]
def y16.l0:ACode:=.seq (jJ [1,2,5,11] y16.r2 (.post [1,2,5] (.cond (.t 11) (.skip) (.exit 0)))) (.seq (.post [1,2,5] (.block 1 (jJ [1,2,5,21] y16.r3 (.post [1,2,5] (.cond (.t 21) (jJ [4] y16.r4 (.ret)) (.skip)))))) (jK [1,2,5] y16.r5))
def y16.r6:jI:=[af 6 0]
def y16.r7:jI:=[ab 22 6,ae 23 1 2,ac 24 1 23,am 25 24,ap 26 22 25]
def y16.r8:jI:=[ae 29 1 2,ac 30 1 29,ab 31 6,av 32 3 30 31,ae 33 0 32,ac 34 1 33,ab 35 1,a2c 36 34 35]
def y16.r9:jI:=[a1b 4]
def y16.r10:jI:=[ab 27 6,ar 28 27 1,ab 6 28]
def y16.l1:ACode:=.seq (jJ [1,2,6,26] y16.r7 (.post [1,2,6] (.cond (.t 26) (.skip) (.exit 2)))) (.seq (.post [1,2,6] (.block 3 (jJ [1,2,6,36] y16.r8 (.post [1,2,6] (.cond (.t 36) (jJ [4] y16.r9 (.ret)) (.skip)))))) (jK [1,2,6] y16.r10))
def y16.r11:jI:=[an 4]
def y16:AFunc:=⟨37,[.t 4],jJ [1,2] y16.r0 (.seq (jJ [1,2,5] y16.r1 (.post [1,2] (.block 0 (.loop y16.l0)))) (.seq (jJ [1,2,6] y16.r6 (.post [] (.block 2 (.loop y16.l1)))) (jJ [4] y16.r11 (.ret))))⟩
theorem y16.ok:y1v Tryz.prog Tryz.f43 y16=true:=by kernel_rfl
theorem y16.at:Tryz.prog.funcs[ybc]?=some Tryz.f43:=Tryz.func43
def y29.r0:jI:=[af 4 0]
def y29.r1:jI:=[af 5 0]
def y29.r2:jI:=[ab 6 5,ab 7 0,am 8 7,ap 9 6 8]
def y29.r3:jI:=[ab 12 0,ab 13 5,av 14 1 12 13,ac 15 1 14,ab 16 1,a2c 17 15 16]
def y29.r4:jI:=[ab 18 5,ab 4 18]
def y29.r5:jI:=[ab 10 5,ar 11 10 1,ab 5 11]
def y29.l0:ACode:=.seq (jJ [0,1,5,9] y29.r2 (.post [0,1,5] (.cond (.t 9) (.skip) (.exit 0)))) (.seq (.post [0,1,5] (.block 1 (jJ [0,1,5,17] y29.r3 (.post [0,1,5] (.cond (.t 17) (jJ [4] y29.r4 (.ret)) (.skip)))))) (jK [0,1,5] y29.r5))
def y29.r6:jI:=[af 4 (-1)]
def y29:AFunc:=⟨19,[.t 4],jJ [0,1] y29.r0 (.seq (jJ [0,1,5] y29.r1 (.post [] (.block 0 (.loop y29.l0)))) (jJ [4] y29.r6 (.ret)))⟩
theorem y29.ok:y1v Tryz.prog Tryz.f44 y29=true:=by kernel_rfl
theorem y29.at:Tryz.prog.funcs[y98]?=some Tryz.f44:=Tryz.func44
def y7.r0:jI:=[a16 1 0,af 2 0]
def y7.r1:jI:=[ae 9 0 1,ac 10 1 9,⟨some 11,none,.call y92 [.t 10]⟩,a1a 12 11]
def y7.r2:jI:=[af 2 11]
def y7.r3:jI:=[ae 13 4 1,a10 14 3 13,⟨some 15,none,.call ybf [.t 14]⟩,ab 3 15]
def y7.r4:jI:=[ab 16 3,a17 17 16 0]
def y7.r5:jI:=[ab 18 3,ab 2 18]
def y7.r6:jI:=[af 4 0]
def y7.r7:jI:=[ab 19 4,a1p 20 19 2]
def y7.r8:jI:=[ae 23 1 1,ac 24 1 23,ae 25 2 1,ac 26 1 25,⟨some 27,none,.op (.bfz 2 1 [.sl none 0 0] [(0,1,.t 24),(1,1,.t 26)])⟩,ab 28 4,av 29 1 27 28,ac 30 1 29,ab 5 30]
def y7.r9:jI:=[ab 31 5,⟨some 32,none,.call y9o [.t 31]⟩,a1a 33 32]
def y7.r10:jI:=[af 2 13]
def y7.r11:jI:=[af 6 0]
def y7.r12:jI:=[ab 34 6,ab 35 5,am 36 35,ap 37 34 36]
def y7.r13:jI:=[ae 40 4 1,a10 41 3 40,ab 42 5,ab 43 6,av 44 1 42 43,ac 45 1 44,⟨some 46,none,.call ybc [.t 41,.t 45]⟩,a1a 47 46]
def y7.r14:jI:=[af 2 7]
def y7.r15:jI:=[ab 38 6,ar 39 38 1,ab 6 39]
def y7.l1:ACode:=.seq (jJ [1,4,5,6,37] y7.r12 (.post [1,4,5,6] (.cond (.t 37) (.skip) (.exit 2)))) (.seq (.post [1,4,5,6] (.block 3 (.seq (.post [1,4,5,6,47] (.draw [0,1,0,0,12,28,63,127] y7.r13)) (.post [1,4,5,6] (.cond (.t 47) (jJ [2] y7.r14 (.ret)) (.skip)))))) (jK [1,4,5,6] y7.r15))
def y7.r16:jI:=[ab 21 4,ar 22 21 1,ab 4 22]
def y7.l0:ACode:=.seq (jJ [1,4,20] y7.r7 (.post [1,4] (.cond (.t 20) (.skip) (.exit 0)))) (.seq (.post [1,4] (.block 1 (jJ [1,4,5] y7.r8 (.seq (jJ [1,4,5,33] y7.r9 (.post [1,4,5] (.cond (.t 33) (jJ [2] y7.r10 (.ret)) (.skip)))) (jJ [1,4,5,6] y7.r11 (.post [1,4] (.block 2 (.loop y7.l1)))))))) (jK [1,4] y7.r16))
def y7.r17:jI:=[af 7 0]
def y7.r18:jI:=[ab 48 7,ae 49 1 1,ac 50 1 49,am 51 50,ap 52 48 51]
def y7.r19:jI:=[ae 55 2 1,ac 56 1 55,ae 57 1 1,ac 58 1 57,ab 59 7,av 60 1 58 59,ac 61 1 60,⟨some 62,none,.call y98 [.t 56,.t 61]⟩,a1c 63 62 0]
def y7.r20:jI:=[af 2 8]
def y7.r21:jI:=[ab 53 7,ar 54 53 1,ab 7 54]
def y7.l2:ACode:=.seq (jJ [1,7,52] y7.r18 (.post [1,7] (.cond (.t 52) (.skip) (.exit 4)))) (.seq (.post [1,7] (.block 5 (.seq (.post [1,7,63] (.draw [0,1,0,4,0,28,60,127,255] y7.r19)) (.post [1,7] (.cond (.t 63) (jJ [2] y7.r20 (.ret)) (.skip)))))) (jK [1,7] y7.r21))
def y7.r22:jI:=[ae 64 3 1,ac 65 1 64,am 66 65,a19 67 66 6000]
def y7.r23:jI:=[af 2 4]
def y7.r24:jI:=[ae 68 3 1,ac 69 1 68,⟨some 70,none,.call y9o [.t 69]⟩,a1a 71 70]
def y7.r25:jI:=[af 2 13]
def y7.r26:jI:=[af 8 0]
def y7.r27:jI:=[ab 72 8,ae 73 3 1,ac 74 1 73,am 75 74,ap 76 72 75]
def y7.r28:jI:=[ae 79 3 1,ac 80 1 79,ab 81 8,av 82 1 80 81,ac 83 1 82,⟨some 84,none,.call y81 [.t 83]⟩,a1a 85 84]
def y7.r29:jI:=[af 2 11]
def y7.r30:jI:=[ab 77 8,ar 78 77 1,ab 8 78]
def y7.l3:ACode:=.seq (jJ [1,8,76] y7.r27 (.post [1,8] (.cond (.t 76) (.skip) (.exit 6)))) (.seq (.post [1,8] (.block 7 (jJ [1,8,85] y7.r28 (.post [1,8] (.cond (.t 85) (jJ [2] y7.r29 (.ret)) (.skip)))))) (jK [1,8] y7.r30))
def y7.r31:jI:=[af 2 0]
def y7:AFunc:=⟨86,[.t 2],jJ [1] y7.r0 (.seq (jJ [1,12] y7.r1 (.post [1] (.cond (.t 12) (jJ [2] y7.r2 (.ret)) (.skip)))) (jJ [1,3] y7.r3 (.seq (jJ [1,3,17] y7.r4 (.post [1] (.cond (.t 17) (jJ [2] y7.r5 (.ret)) (.skip)))) (.seq (jJ [1,4] y7.r6 (.post [1] (.block 0 (.loop y7.l0)))) (.seq (jJ [1,7] y7.r17 (.post [1] (.block 4 (.loop y7.l2)))) (.seq (jJ [1,67] y7.r22 (.post [1] (.cond (.t 67) (jJ [2] y7.r23 (.ret)) (.skip)))) (.seq (jJ [1,71] y7.r24 (.post [1] (.cond (.t 71) (jJ [2] y7.r25 (.ret)) (.skip)))) (.seq (jJ [1,8] y7.r26 (.post [] (.block 6 (.loop y7.l3)))) (jJ [2] y7.r31 (.ret))))))))))⟩
theorem y7.ok:y1v Tryz.prog Tryz.f13 y7=true:=by kernel_rfl
theorem y7.at:Tryz.prog.funcs[ybd]?=some Tryz.f13:=Tryz.func13
def y23.r0:jI:=[a1i 4 0 0]
def y23.r1:jI:=[af 5 0]
def y23.r2:jI:=[ab 7 5,ab 8 0,am 9 8,ap 10 7 9,ab 11 10,ah 12 11 0,ah 13 11 5,a1k 14 11 1 12 13,a11 15 11 1 14,ah 16 11 1,a2n 17 11 15 16,aj 18 11 17]
def y23.r3:jI:=[ab 19 5,ar 20 19 1,ab 5 20]
def y23.l0:ACode:=.seq (jJ [0,1,5,18] y23.r2 (.post [0,1,5] (.cond (.t 18) (.skip) (.exit 0)))) (.post [0,1,5] (.block 1 (jK [0,1,5] y23.r3)))
def y23.r4:jI:=[ab 21 5,ab 22 0,am 23 22,ap 24 21 23,ab 25 24,ah 26 25 0,ah 27 25 5,a1k 28 25 1 26 27,a11 29 25 1 28,ah 30 25 1,a2d 31 25 29 30,aj 32 25 31]
def y23.r5:jI:=[ab 33 0,ab 4 33]
def y23.r6:jI:=[⟨some 34,none,.op (.bz 1)⟩,ab 35 0,ab 36 5,⟨some 37,none,.op (.slc 1 (.t 35) none (some (.t 36)))⟩,a1l 38 1 16 34 37,ab 6 38]
def y23.r7:jI:=[ab 39 6,ab 40 1,a2l 41 1 1 0 1 40,a1l 42 1 16 39 41,ab 6 42]
def y23.r8:jI:=[ab 43 6,ab 44 0,ab 45 5,⟨some 46,none,.op (.slc 1 (.t 44) (some (.t 45)) none)⟩,a1l 47 1 16 43 46,ab 4 47]
def y23:AFunc:=⟨48,[.t 4],jJ [0,1] y23.r0 (jJ [0,1,5] y23.r1 (.seq (.post [0,1,5] (.block 0 (.loop y23.l0))) (.seq (jJ [0,1,5,32] y23.r4 (.post [0,1,5] (.cond (.t 32) (jJ [4] y23.r5 (.ret)) (.skip)))) (jJ [0,1,5,6] y23.r6 (jJ [0,5,6] y23.r7 (jJ [4] y23.r8 (.ret)))))))⟩
theorem y23.ok:y1v Tryz.prog Tryz.f187 y23=true:=by kernel_rfl
theorem y23.at:Tryz.prog.funcs[yca]?=some Tryz.f187:=Tryz.func187
def y2f.r0:jI:=[aw 2]
def y2f.r1:jI:=[aw 3]
def y2f.r2:jI:=[ab 4 0,a1c 5 4 128]
def y2f.r3:jI:=[ab 6 3,ab 7 0,⟨some 8,none,.op (.bin .rem (.t 7) (.c (.i .i64 128)))⟩,a1s 9 8,⟨some 10,none,.op (.bin .add (.t 9) (.c (.i .u8 128)))⟩,a3g 11 1 0 0 1 10,a2m 12 11,a18 13 6 12,ab 3 13]
def y2f.r4:jI:=[ab 14 0,⟨some 15,none,.op (.bin .quo (.t 14) (.c (.i .i64 128)))⟩,ab 0 15]
def y2f.l0:ACode:=.seq (jJ [0,3,5] y2f.r2 (.post [0,3] (.cond (.t 5) (.skip) (.exit 0)))) (.post [0,3] (.block 1 (jJ [0,3] y2f.r3 (jK [0,3] y2f.r4))))
def y2f.r5:jI:=[ab 16 3,ab 17 0,a1s 18 17,a3g 19 1 0 0 1 18,a2m 20 19,a18 21 16 20,ab 2 21]
def y2f:AFunc:=⟨22,[.t 2],jJ [0] y2f.r0 (jJ [0,3] y2f.r1 (.seq (.post [0,3] (.block 0 (.loop y2f.l0))) (jJ [2] y2f.r5 (.ret))))⟩
theorem y2f.ok:y1v Tryz.prog Tryz.f32 y2f=true:=by kernel_rfl
theorem y2f.at:Tryz.prog.funcs[y62]?=some Tryz.f32:=Tryz.func32
def y26.r0:jI:=[ab 4 1,a1p 5 4 0,ab 6 5,a14 7 6 1,a1d 8 6 7 268435456,ax 9 6 8,ab 10 9,ah 11 10 0,a2o 12 10 11,a13 13 10 3 12,a11 14 10 1 13,a1o 15 10 14 0,aj 16 10 15]
def y26.r1:jI:=[ab 17 0,aq 18 17,ae 19 3 18,a2b 1 19 2]
def y26.r2:jI:=[ab 20 0,aq 21 20,ae 22 3 21,ac 23 1 22,a12 24 23 0]
def y26.r3:jI:=[ab 25 0,ab 26 0,aq 27 26,ae 28 1 27,ac 29 1 28,ab 30 1,⟨some 31,none,.call y62 [.t 30]⟩,a18 32 29 31,aq 33 25,ae 34 1 33,ak 1 34 32]
def y26:AFunc:=⟨35,[],.seq (jJ [0,1,16] y26.r0 (.post [0,1] (.cond (.t 16) (jK [0,1] y26.r1) (.skip)))) (jJ [0,1,24] y26.r2 (.post [] (.cond (.t 24) (.post [] (.draw [0,0,2,6,14,0,32,126,255,511,1023] y26.r3)) (.skip))))⟩
theorem y26.ok:y1v Tryz.prog Tryz.f148 y26=true:=by kernel_rfl
theorem y26.at:Tryz.prog.funcs[y3v]?=some Tryz.f148:=Tryz.func148
def y28.r0:jI:=[ab 5 0,ab 6 0,aq 7 6,ae 8 2 7,ac 9 1 8,ab 10 1,⟨some 11,none,.call yca [.t 9,.t 10]⟩,aq 12 5,ae 13 2 12,ak 1 13 11]
def y28.r1:jI:=[ab 14 0,aq 15 14,ae 16 0 15,ac 17 1 16,ab 18 1,⟨some 19,none,.call y98 [.t 17,.t 18]⟩,ab 4 19]
def y28.r2:jI:=[ab 20 4,a1p 21 20 0,ab 22 21,ah 23 22 0,a2o 24 22 23,a13 25 22 3 24,a11 26 22 1 25,a1o 27 22 26 0,aj 28 22 27]
def y28.r3:jI:=[ab 29 0,aq 30 29,ae 31 3 30,a2b 1 31 7]
def y28.r4:jI:=[ab 32 0,ab 33 4,⟨some 34,none,.op (.mx [.t 33,.c (.i .i64 0)])⟩,⟨some 35,none,.call y3v [.t 32,.t 34]⟩]
def y28:AFunc:=⟨36,[],jJ [0,1] y28.r0 (jJ [0,4] y28.r1 (.seq (jJ [0,4,28] y28.r2 (.post [0,4] (.cond (.t 28) (jK [0,4] y28.r3) (.skip)))) (jK [] y28.r4)))⟩
theorem y28.ok:y1v Tryz.prog Tryz.f146 y28=true:=by kernel_rfl
theorem y28.at:Tryz.prog.funcs[y3q]?=some Tryz.f146:=Tryz.func146
def y20.r0:jI:=[ab 5 0,ab 6 1,am 7 6,⟨some 8,none,.call y3v [.t 5,.t 7]⟩]
def y20.r1:jI:=[af 4 0]
def y20.r2:jI:=[ab 9 4,ab 10 1,am 11 10,ap 12 9 11]
def y20.r3:jI:=[ab 15 0,ab 16 1,ab 17 4,av 18 1 16 17,ac 19 1 18,⟨some 20,none,.call y3q [.t 15,.t 19]⟩]
def y20.r4:jI:=[ab 13 4,ar 14 13 1,ab 4 14]
def y20.l0:ACode:=.seq (jJ [0,1,4,12] y20.r2 (.post [0,1,4] (.cond (.t 12) (.skip) (.exit 0)))) (.seq (.post [0,1,4] (.block 1 (jK [0,1,4] y20.r3))) (jK [0,1,4] y20.r4))
def y20:AFunc:=⟨21,[],jJ [0,1] y20.r0 (jJ [0,1,4] y20.r1 (.post [] (.block 0 (.loop y20.l0))))⟩
theorem y20.ok:y1v Tryz.prog Tryz.f147 y20=true:=by kernel_rfl
theorem y20.at:Tryz.prog.funcs[y5r]?=some Tryz.f147:=Tryz.func147
def y0.r0:jI:=[a16 3 1]
def y0.r1:jI:=[ab 11 0,ae 12 0 3,ac 13 1 12,⟨some 14,none,.call y3q [.t 11,.t 13]⟩]
def y0.r2:jI:=[ab 15 0,ae 16 1 3,ac 17 1 16,⟨some 18,none,.call y5r [.t 15,.t 17]⟩]
def y0.r3:jI:=[ab 19 0,ae 20 2 3,ac 21 1 20,⟨some 22,none,.call y5r [.t 19,.t 21]⟩]
def y0.r4:jI:=[ab 23 0,ae 24 3 3,ac 25 1 24,⟨some 26,none,.call y5r [.t 23,.t 25]⟩]
def y0.r5:jI:=[ab 27 0,ae 28 4 3,ae 29 0 28,ac 30 1 29,am 31 30,⟨some 32,none,.call y3v [.t 27,.t 31]⟩]
def y0.r6:jI:=[af 4 0]
def y0.r7:jI:=[ab 33 4,ae 34 4 3,ae 35 0 34,ac 36 1 35,am 37 36,ap 38 33 37]
def y0.r8:jI:=[ae 41 4 3,ae 42 0 41,ac 43 1 42,ab 44 4,av 45 3 43 44,a10 46 3 45,a2t 5 0 0,ak 3 5 46]
def y0.r9:jI:=[ab 47 0,ae 48 0 5,ac 49 1 48,⟨some 50,none,.call y3q [.t 47,.t 49]⟩]
def y0.r10:jI:=[ab 51 0,ae 52 1 5,ac 53 1 52,⟨some 54,none,.call y3q [.t 51,.t 53]⟩]
def y0.r11:jI:=[ab 55 0,ae 56 2 5,ac 57 1 56,am 58 57,⟨some 59,none,.call y3v [.t 55,.t 58]⟩]
def y0.r12:jI:=[af 6 0]
def y0.r13:jI:=[ab 60 6,ae 61 2 5,ac 62 1 61,am 63 62,ap 64 60 63]
def y0.r14:jI:=[ab 67 0,ae 68 2 5,ac 69 1 68,ab 70 6,av 71 2 69 70,ae 72 0 71,ac 73 1 72,⟨some 74,none,.call y3v [.t 67,.t 73]⟩]
def y0.r15:jI:=[ab 75 0,ae 76 2 5,ac 77 1 76,ab 78 6,av 79 2 77 78,ae 80 1 79,ac 81 1 80,⟨some 82,none,.call y3q [.t 75,.t 81]⟩]
def y0.r16:jI:=[ab 65 6,ar 66 65 1,ab 6 66]
def y0.l1:ACode:=.seq (jJ [0,3,4,5,6,64] y0.r13 (.post [0,3,4,5,6] (.cond (.t 64) (.skip) (.exit 2)))) (.seq (.post [0,3,4,5,6] (.block 3 (jJ [0,3,4,5,6] y0.r14 (jK [0,3,4,5,6] y0.r15)))) (jK [0,3,4,5,6] y0.r16))
def y0.r17:jI:=[ab 39 4,ar 40 39 1,ab 4 40]
def y0.l0:ACode:=.seq (jJ [0,3,4,38] y0.r7 (.post [0,3,4] (.cond (.t 38) (.skip) (.exit 0)))) (.seq (.post [0,3,4] (.block 1 (jJ [0,3,4,5] y0.r8 (jJ [0,3,4,5] y0.r9 (jJ [0,3,4,5] y0.r10 (jJ [0,3,4,5] y0.r11 (jJ [0,3,4,5,6] y0.r12 (.post [0,3,4] (.block 2 (.loop y0.l1)))))))))) (jK [0,3,4] y0.r17))
def y0.r18:jI:=[ab 83 0,ae 84 4 3,ae 85 1 84,ac 86 1 85,am 87 86,⟨some 88,none,.call y3v [.t 83,.t 87]⟩]
def y0.r19:jI:=[af 7 0]
def y0.r20:jI:=[ab 89 7,ae 90 4 3,ae 91 1 90,ac 92 1 91,am 93 92,ap 94 89 93]
def y0.r21:jI:=[ae 97 4 3,ae 98 1 97,ac 99 1 98,ab 100 7,av 101 3 99 100,a10 102 3 101,a2x 8,ak 3 8 102]
def y0.r22:jI:=[ab 103 0,ae 104 0 8,ac 105 1 104,⟨some 106,none,.call y3q [.t 103,.t 105]⟩]
def y0.r23:jI:=[ab 107 0,ae 108 1 8,ac 109 1 108,⟨some 110,none,.call y3q [.t 107,.t 109]⟩]
def y0.r24:jI:=[ab 111 0,ae 112 2 8,ac 113 1 112,⟨some 114,none,.call y3q [.t 111,.t 113]⟩]
def y0.r25:jI:=[ab 95 7,ar 96 95 1,ab 7 96]
def y0.l2:ACode:=.seq (jJ [0,3,7,94] y0.r20 (.post [0,3,7] (.cond (.t 94) (.skip) (.exit 4)))) (.seq (.post [0,3,7] (.block 5 (jJ [0,3,7,8] y0.r21 (jJ [0,3,7,8] y0.r22 (jJ [0,3,7,8] y0.r23 (jK [0,3,7] y0.r24)))))) (jK [0,3,7] y0.r25))
def y0.r26:jI:=[ab 115 0,ae 116 4 3,ae 117 2 116,ac 118 1 117,am 119 118,⟨some 120,none,.call y3v [.t 115,.t 119]⟩]
def y0.r27:jI:=[af 9 0]
def y0.r28:jI:=[ab 121 9,ae 122 4 3,ae 123 2 122,ac 124 1 123,am 125 124,ap 126 121 125]
def y0.r29:jI:=[ae 129 4 3,ae 130 2 129,ac 131 1 130,ab 132 9,av 133 6 131 132,a10 134 6 133,a2g 10 0 0 0 0,ak 6 10 134]
def y0.r30:jI:=[ab 135 0,ae 136 0 10,ac 137 1 136,⟨some 138,none,.call y3v [.t 135,.t 137]⟩]
def y0.r31:jI:=[ab 139 0,ae 140 1 10,ac 141 1 140,⟨some 142,none,.call y3q [.t 139,.t 141]⟩]
def y0.r32:jI:=[ab 143 0,ae 144 2 10,ac 145 1 144,⟨some 146,none,.call y3q [.t 143,.t 145]⟩]
def y0.r33:jI:=[ab 147 0,ae 148 3 10,ac 149 1 148,⟨some 150,none,.call y3v [.t 147,.t 149]⟩]
def y0.r34:jI:=[ab 151 0,ae 152 4 10,ac 153 1 152,⟨some 154,none,.call y3q [.t 151,.t 153]⟩]
def y0.r35:jI:=[ab 155 0,ae 156 5 10,ac 157 1 156,⟨some 158,none,.call y5r [.t 155,.t 157]⟩]
def y0.r36:jI:=[ab 127 9,ar 128 127 1,ab 9 128]
def y0.l3:ACode:=.seq (jJ [0,3,9,126] y0.r28 (.post [0,3,9] (.cond (.t 126) (.skip) (.exit 6)))) (.seq (.post [0,3,9] (.block 7 (jJ [0,3,9,10] y0.r29 (jJ [0,3,9,10] y0.r30 (jJ [0,3,9,10] y0.r31 (jJ [0,3,9,10] y0.r32 (jJ [0,3,9,10] y0.r33 (jJ [0,3,9,10] y0.r34 (jK [0,3,9] y0.r35))))))))) (jK [0,3,9] y0.r36))
def y0:AFunc:=⟨159,[],jJ [0,3] y0.r0 (jJ [0,3] y0.r1 (jJ [0,3] y0.r2 (jJ [0,3] y0.r3 (jJ [0,3] y0.r4 (jJ [0,3] y0.r5 (.seq (jJ [0,3,4] y0.r6 (.post [0,3] (.block 0 (.loop y0.l0)))) (jJ [0,3] y0.r18 (.seq (jJ [0,3,7] y0.r19 (.post [0,3] (.block 4 (.loop y0.l2)))) (jJ [0,3] y0.r26 (jJ [0,3,9] y0.r27 (.post [] (.block 6 (.loop y0.l3)))))))))))))⟩
theorem y0.ok:y1v Tryz.prog Tryz.f82 y0=true:=by kernel_rfl
theorem y0.at:Tryz.prog.funcs[y6n]?=some Tryz.f82:=Tryz.func82
def y3n.r0:jI:=[a16 1 0,a1i 2 0 0]
def y3n.r1:jI:=[⟨some 4,none,.op (.build [.fs [],.s [],.fs [],.i .i64 0] [])⟩,a1m 5 4,ab 3 5]
def y3n.r2:jI:=[ab 6 3,a10 7 7 1,⟨some 8,none,.call y6n [.t 6,.t 7]⟩]
def y3n.r3:jI:=[ab 9 3,aq 10 9,ae 11 2 10,ac 12 1 11,ab 2 12]
def y3n:AFunc:=⟨13,[.t 2],jJ [1] y3n.r0 (jJ [1,3] y3n.r1 (jJ [3] y3n.r2 (jJ [2] y3n.r3 (.ret))))⟩
theorem y3n.ok:y1v Tryz.prog Tryz.f29 y3n=true:=by kernel_rfl
theorem y3n.at:Tryz.prog.funcs[yb9]?=some Tryz.f29:=Tryz.func29
def y2y.r0:jI:=[a16 3 1,aw 4,af 5 0]
def y2y.r1:jI:=[ab 7 0,⟨some 8,none,.op (.build [.fs [],.s [],.fs [],.i .i64 0] [(0,1,.t 7)])⟩,a1m 9 8,ab 6 9]
def y2y.r2:jI:=[ab 10 6,a10 11 7 3,⟨some 12,none,.call y6n [.t 10,.t 11]⟩]
def y2y.r3:jI:=[ab 13 6,aq 14 13,ae 15 3 14,ac 16 1 15,a17 17 16 0]
def y2y.r4:jI:=[ab 18 6,aq 19 18,ae 20 3 19,ac 21 1 20,aw 4,ab 5 21]
def y2y.r5:jI:=[ab 22 6,aq 23 22,ae 24 1 23,ac 25 1 24,ab 4 25,af 5 0]
def y2y:AFunc:=⟨26,[.t 4,.t 5],jJ [0,3] y2y.r0 (jJ [3,6] y2y.r1 (jJ [6] y2y.r2 (.seq (jJ [6,17] y2y.r3 (.post [6] (.cond (.t 17) (.seq (.post [4,5] (.draw [0,1,3,7,0,31] y2y.r4)) (.ret)) (.skip)))) (jJ [4,5] y2y.r5 (.ret)))))⟩
theorem y2y.ok:y1v Tryz.prog Tryz.f30 y2y=true:=by kernel_rfl
theorem y2y.at:Tryz.prog.funcs[yba]?=some Tryz.f30:=Tryz.func30
def y2k.r0:jI:=[af 4 0]
def y2k.r1:jI:=[af 5 0]
def y2k.r2:jI:=[ab 6 5,ab 7 0,a15 8 7,ap 9 6 8,ab 10 9,ah 11 10 5,ah 12 10 1,a1n 13 10 12,a2n 14 10 11 13,aj 15 10 14,ab 16 15,ah 17 16 0,ah 18 16 5,a29 19 16 17 18,ah 20 16 1,ah 21 16 5,a29 22 16 20 21,a2d 23 16 19 22,aj 24 16 23]
def y2k.r3:jI:=[ab 25 5,ar 26 25 1,ab 5 26]
def y2k.l0:ACode:=.seq (.seq (.post [0,1,5,24] (.draw [0,0,2,7,15,31,31,95,255,511,1023,2047,2047,8191,2047,2047,51199,131071,262143] y2k.r2)) (.post [0,1,5] (.cond (.t 24) (.skip) (.exit 0)))) (.post [0,1,5] (.block 1 (jK [0,1,5] y2k.r3)))
def y2k.r4:jI:=[ab 27 5,ab 4 27]
def y2k:AFunc:=⟨28,[.t 4],jJ [0,1] y2k.r0 (jJ [0,1,5] y2k.r1 (.seq (.post [5] (.block 0 (.loop y2k.l0))) (jJ [4] y2k.r4 (.ret))))⟩
theorem y2k.ok:y1v Tryz.prog Tryz.f84 y2k=true:=by kernel_rfl
theorem y2k.at:Tryz.prog.funcs[yar]?=some Tryz.f84:=Tryz.func84
def y1q.r0:jI:=[aw 2]
def y1q.r1:jI:=[ab 7 0,am 8 7,⟨some 9,none,.call y62 [.t 8]⟩,ab 3 9]
def y1q.r2:jI:=[aw 4]
def y1q.r3:jI:=[af 5 0]
def y1q.r4:jI:=[ab 10 5,ab 11 0,am 12 11,ap 13 10 12]
def y1q.r5:jI:=[ab 16 4,ab 17 0,ab 18 5,av 19 1 17 18,ac 20 1 19,⟨some 21,none,.call yar [.t 16,.t 20]⟩,ab 6 21]
def y1q.r6:jI:=[ab 22 3,ab 23 6,⟨some 24,none,.call y62 [.t 23]⟩,a18 25 22 24,ab 26 0,ab 27 5,av 28 1 26 27,ac 29 1 28,a15 30 29,ab 31 6,⟨some 32,none,.op (.bin .sub (.t 30) (.t 31))⟩,⟨some 33,none,.call y62 [.t 32]⟩,a18 34 25 33,ab 35 0,ab 36 5,av 37 1 35 36,ac 38 1 37,ab 39 6,a26 40 38 39,a18 41 34 40,ab 3 41]
def y1q.r7:jI:=[ab 42 0,ab 43 5,av 44 1 42 43,ac 45 1 44,ab 4 45]
def y1q.r8:jI:=[ab 14 5,ar 15 14 1,ab 5 15]
def y1q.l0:ACode:=.seq (jJ [0,3,4,5,13] y1q.r4 (.post [0,3,4,5] (.cond (.t 13) (.skip) (.exit 0)))) (.seq (.post [0,3,4,5] (.block 1 (jJ [0,3,5,6] y1q.r5 (.seq (.post [0,3,5] (.draw [0,0,2,7,0,0,48,112,240,0,1008,2038,4095,0,0,24576,57344,0,253952,524287,1048575] y1q.r6)) (jK [0,3,4,5] y1q.r7))))) (jK [0,3,4,5] y1q.r8))
def y1q.r9:jI:=[ab 46 3,ab 2 46]
def y1q:AFunc:=⟨47,[.t 2],jJ [0] y1q.r0 (jJ [0,3] y1q.r1 (jJ [0,3,4] y1q.r2 (.seq (jJ [0,3,4,5] y1q.r3 (.post [3] (.block 0 (.loop y1q.l0)))) (jJ [2] y1q.r9 (.ret)))))⟩
theorem y1q.ok:y1v Tryz.prog Tryz.f33 y1q=true:=by kernel_rfl
theorem y1q.at:Tryz.prog.funcs[ybb]?=some Tryz.f33:=Tryz.func33
def y1k.r0:jI:=[a3e 2 0]
def y1k.r1:jI:=[a3e 3 11994318]
def y1k.r2:jI:=[af 4 0]
def y1k.r3:jI:=[ab 6 4,ab 7 0,a15 8 7,ap 9 6 8]
def y1k.r4:jI:=[ab 12 3,ab 13 0,ab 14 4,a1r 15 13 14,⟨some 16,none,.op (.conv .u32 (.t 15))⟩,a3n 17 16 16,⟨some 18,none,.op (.bin .xor (.t 12) (.t 17))⟩,ab 3 18]
def y1k.r5:jI:=[af 5 0]
def y1k.r6:jI:=[ab 19 5,a1p 20 19 8]
def y1k.r7:jI:=[ab 23 3,⟨some 24,none,.op (.bin .mul (.t 23) (.c (.i .u32 2)))⟩,ab 3 24]
def y1k.r8:jI:=[ab 25 3,a28 26 25 24,⟨some 27,none,.op (.bin .and (.t 26) (.c (.i .u32 1)))⟩,⟨some 28,none,.op (.bin .eql (.t 27) (.c (.i .u32 1)))⟩]
def y1k.r9:jI:=[ab 29 3,a3f 30 29 25578747,ab 3 30]
def y1k.r10:jI:=[ab 21 5,ar 22 21 1,ab 5 22]
def y1k.l1:ACode:=.seq (jJ [0,3,4,5,20] y1k.r6 (.post [0,3,4,5] (.cond (.t 20) (.skip) (.exit 2)))) (.seq (.post [0,3,4,5] (.block 3 (jJ [0,3,4,5] y1k.r7 (jJ [0,3,4,5,28] y1k.r8 (.post [0,3,4,5] (.cond (.t 28) (jK [0,3,4,5] y1k.r9) (.skip))))))) (jK [0,3,4,5] y1k.r10))
def y1k.r11:jI:=[ab 10 4,ar 11 10 1,ab 4 11]
def y1k.l0:ACode:=.seq (jJ [0,3,4,9] y1k.r3 (.post [0,3,4] (.cond (.t 9) (.skip) (.exit 0)))) (.seq (.post [0,3,4] (.block 1 (jJ [0,3,4] y1k.r4 (jJ [0,3,4,5] y1k.r5 (.post [0,3,4] (.block 2 (.loop y1k.l1))))))) (jK [0,3,4] y1k.r11))
def y1k.r12:jI:=[ab 31 3,ab 2 31]
def y1k:AFunc:=⟨32,[.t 2],jJ [0] y1k.r0 (jJ [0,3] y1k.r1 (.seq (jJ [0,3,4] y1k.r2 (.post [3] (.block 0 (.loop y1k.l0)))) (jJ [2] y1k.r12 (.ret))))⟩
theorem y1k.ok:y1v Tryz.prog Tryz.f83 y1k=true:=by kernel_rfl
theorem y1k.at:Tryz.prog.funcs[ydq]?=some Tryz.f83:=Tryz.func83
def y4d.r0:jI:=[aw 2]
def y4d.r1:jI:=[ab 4 0,⟨some 5,none,.call ydq [.t 4]⟩,ab 3 5]
def y4d.r2:jI:=[ab 6 0,ab 7 3,a28 8 7 16,a1s 9 8,ab 10 3,a28 11 10 8,a1s 12 11,ab 13 3,a1s 14 13,⟨some 15,none,.op (.bsl 3 [.i .u8 0] [(0,1,.t 9),(1,1,.t 12),(2,1,.t 14)])⟩,a2m 16 15,a18 17 6 16,ab 2 17]
def y4d:AFunc:=⟨18,[.t 2],jJ [0] y4d.r0 (jJ [0,3] y4d.r1 (jJ [2] y4d.r2 (.ret)))⟩
theorem y4d.ok:y1v Tryz.prog Tryz.f31 y4d=true:=by kernel_rfl
theorem y4d.at:Tryz.prog.funcs[ycb]?=some Tryz.f31:=Tryz.func31
def yn.r0:jI:=[a16 1 0,aw 2,af 3 0]
def yn.r1:jI:=[a10 9 7 1,⟨some 10,none,.call ybd [.t 9]⟩,ab 4 10]
def yn.r2:jI:=[ab 11 4,a17 12 11 0]
def yn.r3:jI:=[ab 13 4,aw 2,ab 3 13]
def yn.r4:jI:=[a10 14 7 1,⟨some 15,none,.call yb9 [.t 14]⟩,ab 5 15]
def yn.r5:jI:=[ab 16 5,am 17 16,a19 18 17 6000]
def yn.r6:jI:=[aw 2,af 3 4]
def yn.r7:jI:=[af 6 0]
def yn.r8:jI:=[ab 19 6,ab 20 5,am 21 20,ap 22 19 21]
def yn.r9:jI:=[ab 25 5,ab 26 6,av 27 1 25 26,ac 28 1 27,a15 29 28,a19 30 29 1000]
def yn.r10:jI:=[aw 2,af 3 9]
def yn.r11:jI:=[ab 23 6,ar 24 23 1,ab 6 24]
def yn.l0:ACode:=.seq (jJ [1,5,6,22] yn.r8 (.post [1,5,6] (.cond (.t 22) (.skip) (.exit 0)))) (.seq (.post [1,5,6] (.block 1 (jJ [1,5,6,30] yn.r9 (.post [1,5,6] (.cond (.t 30) (jJ [2,3] yn.r10 (.ret)) (.skip)))))) (jK [1,5,6] yn.r11))
def yn.r12:jI:=[ab 32 5,a10 33 7 1,⟨some 34,none,.call yba [.t 32,.t 33]⟩,ab 31 34,ai 35 0 31,ai 36 1 31,ab 7 35,ab 8 36]
def yn.r13:jI:=[⟨some 37,none,.call y62 [.c (.i .i64 1)]⟩,⟨some 38,none,.op (.bin .add (.c (.s [119,101,102,116])) (.t 37))⟩,ab 39 5,⟨some 40,none,.call ybb [.t 39]⟩,a18 41 38 40,ab 42 7,a15 43 42,⟨some 44,none,.call y62 [.t 43]⟩,a18 45 41 44,ab 46 7,a18 47 45 46,⟨some 48,none,.call ycb [.t 47]⟩,ab 7 48]
def yn.r14:jI:=[ab 49 7,a15 50 49,a19 51 50 200000]
def yn.r15:jI:=[aw 2,af 3 9]
def yn.r16:jI:=[ab 52 7,ab 2 52,af 3 0]
def yn:AFunc:=⟨53,[.t 2,.t 3],jJ [1] yn.r0 (jJ [1,4] yn.r1 (.seq (jJ [1,4,12] yn.r2 (.post [1] (.cond (.t 12) (jJ [2,3] yn.r3 (.ret)) (.skip)))) (jJ [1,5] yn.r4 (.seq (jJ [1,5,18] yn.r5 (.post [1,5] (.cond (.t 18) (jJ [2,3] yn.r6 (.ret)) (.skip)))) (.seq (jJ [1,5,6] yn.r7 (.post [1,5] (.block 0 (.loop yn.l0)))) (jJ [5,7] yn.r12 (jJ [7] yn.r13 (.seq (jJ [7,51] yn.r14 (.post [7] (.cond (.t 51) (jJ [2,3] yn.r15 (.ret)) (.skip)))) (jJ [2,3] yn.r16 (.ret))))))))))⟩
theorem yn.ok:y1v Tryz.prog Tryz.f9 yn=true:=by kernel_rfl
theorem yn.at:Tryz.prog.funcs[yaq]?=some Tryz.f9:=Tryz.func9
def y4e.r0:jI:=[aw 2,an 3]
def y4e.r1:jI:=[ab 5 0,a15 6 5,a1p 7 6 3]
def y4e.r2:jI:=[aw 2,an 3]
def y4e.r3:jI:=[ab 8 0,ab 9 0,a15 10 9,a2y 11 10 3,a1w 12 8 11,ab 4 12]
def y4e.r4:jI:=[ab 13 4,⟨some 14,none,.call yfr [.t 13]⟩,ab 15 0,a2j 16 14 15]
def y4e.r5:jI:=[aw 2,an 3]
def y4e.r6:jI:=[ab 17 4,ab 2 17,a1b 3]
def y4e:AFunc:=⟨18,[.t 2,.t 3],jJ [0] y4e.r0 (.seq (jJ [0,7] y4e.r1 (.post [0] (.cond (.t 7) (jJ [2,3] y4e.r2 (.ret)) (.skip)))) (jJ [0,4] y4e.r3 (.seq (jJ [4,16] y4e.r4 (.post [4] (.cond (.t 16) (jJ [2,3] y4e.r5 (.ret)) (.skip)))) (jJ [2,3] y4e.r6 (.ret)))))⟩
theorem y4e.ok:y1v Tryz.prog Tryz.f34 y4e=true:=by kernel_rfl
theorem y4e.at:Tryz.prog.funcs[yho]?=some Tryz.f34:=Tryz.func34
def y2p.r0:jI:=[an 4]
def y2p.r1:jI:=[ab 5 0,a15 6 5,ab 7 1,a15 8 7,a39 9 6 8,ab 10 9,ah 11 10 0,ah 12 10 1,a1n 13 10 12,⟨some 14,(some (10,true)),.op (.sls (.t 11) none (some (.t 13)))⟩,ah 15 10 1,a2d 16 10 14 15,aj 17 10 16,ab 4 17]
def y2p:AFunc:=⟨18,[.t 4],jJ [0,1] y2p.r0 (jJ [4] y2p.r1 (.ret))⟩
theorem y2p.ok:y1v Tryz.prog Tryz.f165 y2p=true:=by kernel_rfl
theorem y2p.at:Tryz.prog.funcs[y6k]?=some Tryz.f165:=Tryz.func165
def y1w.r0:jI:=[aw 4,an 5]
def y1w.r1:jI:=[ab 6 0,ab 7 1,⟨some 8,none,.call y6k [.t 6,.t 7]⟩,a1a 9 8]
def y1w.r2:jI:=[ab 10 0,ab 4 10,an 5]
def y1w.r3:jI:=[ab 11 0,ab 12 1,a15 13 12,a26 14 11 13,ab 4 14,a1b 5]
def y1w:AFunc:=⟨15,[.t 4,.t 5],jJ [0,1] y1w.r0 (.seq (jJ [0,1,9] y1w.r1 (.post [0,1] (.cond (.t 9) (jJ [4,5] y1w.r2 (.ret)) (.skip)))) (jJ [4,5] y1w.r3 (.ret)))⟩
theorem y1w.ok:y1v Tryz.prog Tryz.f110 y1w=true:=by kernel_rfl
theorem y1w.at:Tryz.prog.funcs[y6l]?=some Tryz.f110:=Tryz.func110
def y4k.r0:jI:=[aw 4,an 5]
def y4k.r1:jI:=[ab 6 0,ab 7 1,⟨some 8,none,.call y6l [.t 6,.t 7]⟩,ai 9 0 8,ai 10 1 8,ab 4 9,ab 5 10]
def y4k:AFunc:=⟨11,[.t 4,.t 5],jJ [0,1] y4k.r0 (jJ [4,5] y4k.r1 (.ret))⟩
theorem y4k.ok:y1v Tryz.prog Tryz.f53 y4k=true:=by kernel_rfl
theorem y4k.at:Tryz.prog.funcs[yah]?=some Tryz.f53:=Tryz.func53
def y65.r0:jI:=[a23 2]
def y65.r1:jI:=[ab 3 0,⟨some 4,none,.op (.build [.s [],.i .i64 0,.i .i64 0] [(0,1,.t 3)])⟩,a1m 5 4,ab 2 5]
def y65:AFunc:=⟨6,[.t 2],jJ [0] y65.r0 (jJ [2] y65.r1 (.ret))⟩
theorem y65.ok:y1v Tryz.prog Tryz.f54 y65=true:=by kernel_rfl
theorem y65.at:Tryz.prog.funcs[ydg]?=some Tryz.f54:=Tryz.func54
def ye.r0:jI:=[af 2 0,af 3 0,af 4 0]
def ye.r1:jI:=[af 5 0]
def ye.r2:jI:=[ab 8 0,aq 9 8,ae 10 0 9,ac 11 1 10,ab 12 0,aq 13 12,ae 14 1 13,ac 15 1 14,ab 16 0,aq 17 16,ae 18 0 17,ac 19 1 18,a15 20 19,ab 21 0,aq 22 21,ae 23 1 22,ac 24 1 23,ar 25 24 5,⟨some 26,none,.op (.mn [.t 20,.t 25])⟩,⟨some 27,none,.op (.sls (.t 11) (some (.t 15)) (some (.t 26)))⟩,⟨some 28,none,.op (.s2b (.t 27))⟩,am 29 28,af 30 0]
def ye.r3:jI:=[ap 31 30 29]
def ye.r4:jI:=[ab 32 30,av 33 1 28 30,ac 34 1 33,ab 6 32,ab 7 34]
def ye.r5:jI:=[ab 35 6,a12 36 35 4,ab 37 36,ah 38 37 7,⟨some 39,(some (37,true)),.op (.bin .gtr (.t 38) (.c (.i .u8 1)))⟩,aj 40 37 39]
def ye.r6:jI:=[af 2 0,af 3 0,af 4 2]
def ye.r7:jI:=[ab 41 5,ab 42 7,⟨some 43,none,.op (.bin .and (.t 42) (.c (.i .u8 127)))⟩,a3c 44 43,ab 45 6,a31 46 7 45,⟨some 47,none,.op (.bin .shl (.t 44) (.t 46))⟩,⟨some 48,none,.op (.bin .or (.t 41) (.t 47))⟩,ab 5 48]
def ye.r8:jI:=[ab 53 7,⟨some 54,none,.op (.bin .and (.t 53) (.c (.i .u8 128)))⟩,⟨some 55,none,.op (.bin .neq (.t 54) (.c (.i .u8 0)))⟩,ab 52 55]
def ye.r9:jI:=[ab 57 7,a24 58 57 0,ab 59 58,ah 60 59 6,a35 61 59 60 0,aj 62 59 61,ab 56 62]
def ye.r10:jI:=[af 2 0,af 3 0,af 4 3]
def ye.r11:jI:=[ab 64 5,a19 65 64 268435456,ab 63 65]
def ye.r12:jI:=[af 2 0,af 3 0,af 4 2]
def ye.r13:jI:=[ab 49 5,ab 50 6,ar 51 50 1,ab 2 49,ab 3 51,af 4 0]
def ye.r14:jI:=[ar 66 30 1,ab 30 66]
def ye.l0:ACode:=jJ [5,28,29,30,31] ye.r3 (.seq (.post [5,28,29,30] (.cond (.t 31) (.skip) (.exit 0))) (.seq (.post [5,28,29,30] (.block 1 (jJ [5,6,7,28,29,30] ye.r4 (.seq (jJ [5,6,7,28,29,30,40] ye.r5 (.post [5,6,7,28,29,30] (.cond (.t 40) (jJ [2,3,4] ye.r6 (.ret)) (.skip)))) (jJ [5,6,7,28,29,30] ye.r7 (.post [5,28,29,30] (.block 2 (jJ [5,6,7,28,29,30,52] ye.r8 (.post [5,28,29,30] (.cond (.t 52) (.skip) (jJ [5,6,56] ye.r9 (.post [5,28,29,30] (.cond (.t 56) (jJ [2,3,4] ye.r10 (.ret)) (jJ [5,6,63] ye.r11 (.post [5,28,29,30] (.cond (.t 63) (jJ [2,3,4] ye.r12 (.ret)) (jJ [2,3,4] ye.r13 (.ret)))))))))))))))))) (jK [5,28,29,30] ye.r14)))
def ye.r15:jI:=[af 2 0,af 3 0,af 4 1]
def ye:AFunc:=⟨67,[.t 2,.t 3,.t 4],jJ [0] ye.r0 (jJ [0,5] ye.r1 (.seq (.seq (.post [5,28,29,30] (.draw [0,1,3,7,0,16,48,112,0,256,768,1792,3840,0,8192,24576,57344,122880,261888,524287,1048575,2097151,0] ye.r2)) (.post [] (.block 0 (.loop ye.l0)))) (jJ [2,3,4] ye.r15 (.ret))))⟩
theorem ye.ok:y1v Tryz.prog Tryz.f166 ye=true:=by kernel_rfl
theorem ye.at:Tryz.prog.funcs[ya1]?=some Tryz.f166:=Tryz.func166
def yv.r0:jI:=[af 4 0,aw 5]
def yv.r1:jI:=[ab 10 0,aq 11 10,ae 12 2 11,ac 13 1 12,a17 14 13 0]
def yv.r2:jI:=[af 4 0,aw 5]
def yv.r3:jI:=[ab 16 0,⟨some 17,none,.call ya1 [.t 16]⟩,ab 15 17,ai 18 0 15,ai 19 1 15,ai 20 2 15,ab 6 18,ab 7 19,ab 8 20]
def yv.r4:jI:=[ab 21 8,a12 22 21 0,ab 23 22,ah 24 23 1,ah 25 23 6,⟨some 26,(some (23,true)),.callv (.t 24) [.t 25]⟩,ah 27 23 0,a2o 28 23 27,a13 29 23 0 28,a11 30 23 1 29,a1n 31 23 30,ah 32 23 0,a2o 33 23 32,a13 34 23 1 33,a11 35 23 1 34,⟨some 36,(some (23,true)),.op (.bin .sub (.t 31) (.t 35))⟩,ah 37 23 7,⟨some 38,(some (23,true)),.op (.bin .sub (.t 36) (.t 37))⟩,⟨some 39,(some (23,true)),.op (.bin .gtr (.t 26) (.t 38))⟩,aj 40 23 39]
def yv.r5:jI:=[af 8 1]
def yv.r6:jI:=[ab 41 8,a17 42 41 0]
def yv.r7:jI:=[ab 43 0,ab 44 8,aq 45 43,ae 46 2 45,ak 1 46 44]
def yv.r8:jI:=[af 4 0,aw 5]
def yv.r9:jI:=[ab 47 0,aq 48 47,ae 49 1 48,ac 50 1 49,ab 51 7,a18 52 50 51,ab 9 52]
def yv.r10:jI:=[ab 53 0,ab 54 9,ab 55 1,ab 56 6,a1f 57 55 56,a18 58 54 57,aq 59 53,ae 60 1 59,ak 1 60 58]
def yv.r11:jI:=[ab 61 6,ab 62 0,aq 63 62,ae 64 0 63,ac 65 1 64,ab 66 9,ab 67 0,aq 68 67,ae 69 1 68,ac 70 1 69,⟨some 71,none,.op (.sls (.t 65) (some (.t 66)) (some (.t 70)))⟩,ab 4 61,ab 5 71]
def yv:AFunc:=⟨72,[.t 4,.t 5],jJ [0,1] yv.r0 (.seq (jJ [0,1,14] yv.r1 (.post [0,1] (.cond (.t 14) (jJ [4,5] yv.r2 (.ret)) (.skip)))) (jJ [0,1,6,7,8] yv.r3 (.seq (.seq (.post [0,1,6,7,8,40] (.draw [0,1,3,7,7,31,7,71,199,455,967,7,2055,6151,14343,32711,7,131015,262143,524287] yv.r4)) (.post [0,1,6,7,8] (.cond (.t 40) (jK [0,1,6,7,8] yv.r5) (.skip)))) (.seq (jJ [0,1,6,7,8,42] yv.r6 (.post [0,1,6,7] (.cond (.t 42) (jJ [] yv.r7 (jJ [4,5] yv.r8 (.ret))) (.skip)))) (jJ [0,1,6,9] yv.r9 (jJ [0,6,9] yv.r10 (.seq (.post [4,5] (.draw [0,0,2,6,14,0,0,64,192,448,1022,1,4095] yv.r11)) (.ret))))))))⟩
theorem yv.ok:y1v Tryz.prog Tryz.f111 yv=true:=by kernel_rfl
theorem yv.at:Tryz.prog.funcs[y8e]?=some Tryz.f111:=Tryz.func111
def y3m.r0:jI:=[af 2 0]
def y3m.r1:jI:=[af 2 0]
def y3m:AFunc:=⟨3,[.t 2],jJ [] y3m.r0 (jJ [2] y3m.r1 (.ret))⟩
theorem y3m.ok:y1v Tryz.prog Tryz.f112 y3m=true:=by kernel_rfl
theorem y3m.at:Tryz.prog.funcs[y8n]?=some Tryz.f112:=Tryz.func112
def y3e.r0:jI:=[af 2 0]
def y3e.r1:jI:=[ab 6 0,⟨some 7,none,.call y8e [.t 6,.c (.fn 112 [])]⟩,ab 5 7,ai 8 0 5,ai 9 1 5,ab 3 8,ab 4 9]
def y3e.r2:jI:=[ab 10 3,ab 2 10]
def y3e:AFunc:=⟨11,[.t 2],jJ [0] y3e.r0 (jJ [3] y3e.r1 (jJ [2] y3e.r2 (.ret)))⟩
theorem y3e.ok:y1v Tryz.prog Tryz.f55 y3e=true:=by kernel_rfl
theorem y3e.at:Tryz.prog.funcs[y3p]?=some Tryz.f55:=Tryz.func55
def y41.r0:jI:=[ab 4 0,aq 5 4,ae 6 2 5,ac 7 1 6,a12 8 7 0]
def y41.r1:jI:=[ab 9 0,ab 10 1,aq 11 9,ae 12 2 11,ak 1 12 10]
def y41:AFunc:=⟨13,[],jJ [0,1,8] y41.r0 (.post [] (.cond (.t 8) (jK [] y41.r1) (.skip)))⟩
theorem y41.ok:y1v Tryz.prog Tryz.f85 y41=true:=by kernel_rfl
theorem y41.at:Tryz.prog.funcs[y4t]?=some Tryz.f85:=Tryz.func85
def y2w.r0:jI:=[af 2 0,af 3 0]
def y2w.r1:jI:=[ab 4 0,aq 5 4,ae 6 2 5,ac 7 1 6,a12 8 7 0,ab 9 8,ah 10 9 0,a2o 11 9 10,a13 12 9 1 11,a11 13 9 1 12,ah 14 9 0,a2o 15 9 14,a13 16 9 0 15,a11 17 9 1 16,a1n 18 9 17,a2n 19 9 13 18,aj 20 9 19]
def y2w.r2:jI:=[ab 21 0,aq 22 21,ae 23 1 22,ac 24 1 23,ab 2 24,af 3 6]
def y2w.r3:jI:=[ab 25 0,aq 26 25,ae 27 1 26,ac 28 1 27,ab 29 0,aq 30 29,ae 31 2 30,ac 32 1 31,ab 2 28,ab 3 32]
def y2w:AFunc:=⟨33,[.t 2,.t 3],jJ [0] y2w.r0 (.seq (.seq (.post [0,20] (.draw [0,1,3,7,15,31,63,127,255,511,63,1087,3135,7231,15423,32767,65535] y2w.r1)) (.post [0] (.cond (.t 20) (jJ [2,3] y2w.r2 (.ret)) (.skip)))) (.seq (.post [2,3] (.draw [0,1,3,7,0,16,48,112,15,511] y2w.r3)) (.ret)))⟩
theorem y2w.ok:y1v Tryz.prog Tryz.f88 y2w=true:=by kernel_rfl
theorem y2w.at:Tryz.prog.funcs[y60]?=some Tryz.f88:=Tryz.func88
def y4r.r0:jI:=[af 2 0]
def y4r.r1:jI:=[ab 6 0,⟨some 7,none,.call y60 [.t 6]⟩,ab 5 7,ai 8 0 5,ai 9 1 5,ab 3 8,ab 4 9]
def y4r.r2:jI:=[ab 10 4,a17 11 10 6]
def y4r.r3:jI:=[ab 12 4,ab 2 12]
def y4r.r4:jI:=[af 2 0]
def y4r:AFunc:=⟨13,[.t 2],jJ [0] y4r.r0 (.seq (jJ [4] y4r.r1 (jJ [4,11] y4r.r2 (.post [] (.cond (.t 11) (jJ [2] y4r.r3 (.ret)) (.skip))))) (jJ [2] y4r.r4 (.ret)))⟩
theorem y4r.ok:y1v Tryz.prog Tryz.f56 y4r=true:=by kernel_rfl
theorem y4r.at:Tryz.prog.funcs[ycx]?=some Tryz.f56:=Tryz.func56
def y4a.r0:jI:=[af 2 0]
def y4a.r1:jI:=[ab 6 0,⟨some 7,none,.call y60 [.t 6]⟩,ab 5 7,ai 8 0 5,ai 9 1 5,ab 3 8,ab 4 9]
def y4a.r2:jI:=[ab 10 4,a17 11 10 6]
def y4a.r3:jI:=[ab 12 4,ab 2 12]
def y4a.r4:jI:=[af 2 0]
def y4a:AFunc:=⟨13,[.t 2],jJ [0] y4a.r0 (.seq (jJ [4] y4a.r1 (jJ [4,11] y4a.r2 (.post [] (.cond (.t 11) (jJ [2] y4a.r3 (.ret)) (.skip))))) (jJ [2] y4a.r4 (.ret)))⟩
theorem y4a.ok:y1v Tryz.prog Tryz.f149 y4a=true:=by kernel_rfl
theorem y4a.at:Tryz.prog.funcs[yc1]?=some Tryz.f149:=Tryz.func149
def y3w.r0:jI:=[af 2 0]
def y3w.r1:jI:=[ab 3 0,ab 2 3]
def y3w:AFunc:=⟨4,[.t 2],jJ [0] y3w.r0 (jJ [2] y3w.r1 (.ret))⟩
theorem y3w.ok:y1v Tryz.prog Tryz.f151 y3w=true:=by kernel_rfl
theorem y3w.at:Tryz.prog.funcs[y96]?=some Tryz.f151:=Tryz.func151
def y3k.r0:jI:=[aw 2]
def y3k.r1:jI:=[ab 6 0,⟨some 7,none,.call y8e [.t 6,.c (.fn 151 [])]⟩,ab 5 7,ai 8 0 5,ai 9 1 5,ab 3 8,ab 4 9]
def y3k.r2:jI:=[ab 10 4,ab 2 10]
def y3k:AFunc:=⟨11,[.t 2],jJ [0] y3k.r0 (jJ [4] y3k.r1 (jJ [2] y3k.r2 (.ret)))⟩
theorem y3k.ok:y1v Tryz.prog Tryz.f87 y3k=true:=by kernel_rfl
theorem y3k.at:Tryz.prog.funcs[y8f]?=some Tryz.f87:=Tryz.func87
def y31.r0:jI:=[aw 8,af 9 0]
def y31.r1:jI:=[ab 11 1,ab 12 0,a15 13 12,a2f 14 11 13]
def y31.r2:jI:=[aw 8,af 9 2]
def y31.r3:jI:=[ab 15 0,ab 16 1,a1w 17 15 16,ab 18 2,a18 19 17 18,ab 10 19]
def y31.r4:jI:=[ab 21 10,a15 22 21,a19 23 22 1000,ab 20 23]
def y31.r5:jI:=[aw 8,af 9 9]
def y31.r6:jI:=[ab 25 3,a1a 26 25,ab 27 26,ah 28 27 10,ah 29 27 0,a3k 30 27 28 29,aj 31 27 30,ab 24 31]
def y31.r7:jI:=[aw 8,af 9 13]
def y31.r8:jI:=[ab 33 0,ab 34 10,⟨some 35,none,.call yci [.t 33,.t 34]⟩,ab 36 1,a2j 37 35 36,ab 32 37]
def y31.r9:jI:=[aw 8,af 9 3]
def y31.r10:jI:=[ab 38 10,ab 8 38,af 9 0]
def y31:AFunc:=⟨39,[.t 8,.t 9],jJ [0,1,2,3] y31.r0 (.seq (jJ [0,1,2,3,14] y31.r1 (.post [0,1,2,3] (.cond (.t 14) (jJ [8,9] y31.r2 (.ret)) (.skip)))) (jJ [0,1,3,10] y31.r3 (.seq (.post [10] (.block 0 (jJ [0,1,3,10,20] y31.r4 (.post [10] (.cond (.t 20) (jJ [8,9] y31.r5 (.ret)) (jJ [0,1,10,24] y31.r6 (.post [10] (.cond (.t 24) (jJ [8,9] y31.r7 (.ret)) (jJ [10,32] y31.r8 (.post [10] (.cond (.t 32) (jJ [8,9] y31.r9 (.ret)) (.skip)))))))))))) (jJ [8,9] y31.r10 (.ret)))))⟩
theorem y31.ok:y1v Tryz.prog Tryz.f150 y31=true:=by kernel_rfl
theorem y31.at:Tryz.prog.funcs[ygg]?=some Tryz.f150:=Tryz.func150
def y19.r0:jI:=[a23 2,af 3 0]
def y19.r1:jI:=[ab 13 0,⟨some 14,none,.op (.eqk .ptr false (.t 13) (.c (.p none)))⟩]
def y19.r2:jI:=[a23 2,af 3 7]
def y19.r3:jI:=[⟨some 15,none,.op (.build [.sl none 0 0] [])⟩,a1m 16 15,ab 4 16]
def y19.r4:jI:=[ab 17 0,⟨some 18,none,.call y3p [.t 17]⟩,ab 5 18]
def y19.r5:jI:=[ab 19 5,a19 20 19 6000]
def y19.r6:jI:=[ab 21 0,⟨some 22,none,.call y4t [.t 21,.c (.i .i64 4)]⟩]
def y19.r7:jI:=[aw 6]
def y19.r8:jI:=[af 7 0]
def y19.r9:jI:=[ab 23 7,ab 24 5,ap 25 23 24,ab 26 25,ah 27 26 0,⟨some 28,(some (26,true)),.call yc1 [.t 27]⟩,a1o 29 26 28 0,aj 30 26 29]
def y19.r10:jI:=[ab 33 0,⟨some 34,none,.call y3p [.t 33]⟩,ab 35 0,⟨some 36,none,.call y8f [.t 35]⟩,ab 8 34,ab 9 36]
def y19.r11:jI:=[ab 37 0,⟨some 38,none,.call yc1 [.t 37]⟩,a17 39 38 0]
def y19.r12:jI:=[ab 41 6,ab 42 8,ab 43 9,ab 44 7,a12 45 44 0,⟨some 46,none,.call ygg [.t 41,.t 42,.t 43,.t 45]⟩,ab 40 46,ai 47 0 40,ai 48 1 40,ab 10 47,ab 11 48]
def y19.r13:jI:=[ab 49 0,ab 50 11,⟨some 51,none,.call y4t [.t 49,.t 50]⟩]
def y19.r14:jI:=[ab 52 4,ab 53 4,aq 54 53,ae 55 0 54,ac 56 1 55,ab 57 10,a2l 58 1 1 0 1 57,a1l 59 1 16 56 58,aq 60 52,ae 61 0 60,ak 1 61 59]
def y19.r15:jI:=[ab 62 10,ab 6 62]
def y19.r16:jI:=[ab 31 7,ar 32 31 1,ab 7 32]
def y19.l0:ACode:=.seq (jJ [0,4,5,6,7,30] y19.r9 (.post [0,4,5,6,7] (.cond (.t 30) (.skip) (.exit 0)))) (.seq (.post [0,4,5,6,7] (.block 1 (jJ [0,4,5,6,7,8,9] y19.r10 (.seq (jJ [0,4,5,6,7,8,9,39] y19.r11 (.post [0,4,5,6,7,8,9] (.cond (.t 39) (.exit 0) (.skip)))) (jJ [0,4,5,7,10,11] y19.r12 (jJ [0,4,5,7,10] y19.r13 (jJ [0,4,5,7,10] y19.r14 (jK [0,4,5,6,7] y19.r15)))))))) (jK [0,4,5,6,7] y19.r16))
def y19.r17:jI:=[ab 63 0,⟨some 64,none,.call yc1 [.t 63]⟩,ab 12 64]
def y19.r18:jI:=[ab 65 12,a17 66 65 0]
def y19.r19:jI:=[ab 67 12,a23 2,ab 3 67]
def y19.r20:jI:=[ab 68 4,ab 2 68,af 3 0]
def y19:AFunc:=⟨69,[.t 2,.t 3],jJ [0] y19.r0 (.seq (jJ [0,14] y19.r1 (.post [0] (.cond (.t 14) (jJ [2,3] y19.r2 (.ret)) (.skip)))) (jJ [0,4] y19.r3 (jJ [0,4,5] y19.r4 (.seq (jJ [0,4,5,20] y19.r5 (.post [0,4,5] (.cond (.t 20) (jK [0,4,5] y19.r6) (.skip)))) (jJ [0,4,5,6] y19.r7 (.seq (jJ [0,4,5,6,7] y19.r8 (.post [0,4] (.block 0 (.loop y19.l0)))) (.seq (jJ [4,12] y19.r17 (jJ [4,12,66] y19.r18 (.post [4] (.cond (.t 66) (jJ [2,3] y19.r19 (.ret)) (.skip))))) (jJ [2,3] y19.r20 (.ret)))))))))⟩
theorem y19.ok:y1v Tryz.prog Tryz.f86 y19=true:=by kernel_rfl
theorem y19.at:Tryz.prog.funcs[ygh]?=some Tryz.f86:=Tryz.func86
def y17.r0:jI:=[a23 2,aw 3,af 4 0]
def y17.r1:jI:=[ab 14 0,⟨some 15,none,.call yah [.t 14,.c (.s [119,101,102,116])]⟩,ab 13 15,ai 16 0 13,ai 17 1 13,ab 5 16,ab 6 17]
def y17.r2:jI:=[ab 18 6,a1a 19 18]
def y17.r3:jI:=[a23 2,aw 3,af 4 5]
def y17.r4:jI:=[ab 20 5,⟨some 21,none,.call ydg [.t 20]⟩,ab 7 21]
def y17.r5:jI:=[ab 22 7,⟨some 23,none,.call y3p [.t 22]⟩,ab 8 23]
def y17.r6:jI:=[ab 24 8,a17 25 24 1]
def y17.r7:jI:=[ab 26 7,⟨some 27,none,.call y4t [.t 26,.c (.i .i64 5)]⟩]
def y17.r8:jI:=[ab 28 7,⟨some 29,none,.call ycx [.t 28]⟩,ab 9 29]
def y17.r9:jI:=[ab 30 9,a17 31 30 0]
def y17.r10:jI:=[ab 32 9,a23 2,aw 3,ab 4 32]
def y17.r11:jI:=[ab 34 7,⟨some 35,none,.call ygh [.t 34]⟩,ab 33 35,ai 36 0 33,ai 37 1 33,ab 10 36,ab 11 37]
def y17.r12:jI:=[ab 38 11,a17 39 38 0]
def y17.r13:jI:=[ab 40 11,a23 2,aw 3,ab 4 40]
def y17.r14:jI:=[ab 41 7,⟨some 42,none,.call y8f [.t 41]⟩,ab 12 42]
def y17.r15:jI:=[ab 44 7,⟨some 45,none,.call y60 [.t 44]⟩,ab 43 45,ai 46 0 43,ai 47 1 43,ab 11 47]
def y17.r16:jI:=[ab 48 10,ab 49 12,ab 50 11,ab 2 48,ab 3 49,ab 4 50]
def y17:AFunc:=⟨51,[.t 2,.t 3,.t 4],jJ [0] y17.r0 (jJ [5,6] y17.r1 (.seq (jJ [5,19] y17.r2 (.post [5] (.cond (.t 19) (jJ [2,3,4] y17.r3 (.ret)) (.skip)))) (jJ [7] y17.r4 (.seq (jJ [7,8] y17.r5 (jJ [7,25] y17.r6 (.post [7] (.cond (.t 25) (jK [7] y17.r7) (.skip))))) (.seq (jJ [7,9] y17.r8 (jJ [7,9,31] y17.r9 (.post [7] (.cond (.t 31) (jJ [2,3,4] y17.r10 (.ret)) (.skip))))) (jJ [7,10,11] y17.r11 (.seq (jJ [7,10,11,39] y17.r12 (.post [7,10] (.cond (.t 39) (jJ [2,3,4] y17.r13 (.ret)) (.skip)))) (jJ [7,10,12] y17.r14 (jJ [10,11,12] y17.r15 (jJ [2,3,4] y17.r16 (.ret)))))))))))⟩
theorem y17.ok:y1v Tryz.prog Tryz.f35 y17=true:=by kernel_rfl
theorem y17.at:Tryz.prog.funcs[ydt]?=some Tryz.f35:=Tryz.func35
def y3c.r0:jI:=[an 2]
def y3c.r1:jI:=[ab 6 0,aq 7 6,ae 8 0 7,ac 9 1 8,⟨some 10,none,.call y60 [.t 9]⟩,ab 5 10,ai 11 0 5,ai 12 1 5,ab 3 11,ab 4 12]
def y3c.r2:jI:=[ab 13 4,a12 14 13 0,ab 15 14,a14 16 15 4,a1q 17 15 16 6,ax 18 15 17,ab 2 18]
def y3c:AFunc:=⟨19,[.t 2],jJ [0] y3c.r0 (jJ [4] y3c.r1 (jJ [2] y3c.r2 (.ret)))⟩
theorem y3c.ok:y1v Tryz.prog Tryz.f152 y3c=true:=by kernel_rfl
theorem y3c.at:Tryz.prog.funcs[y5o]?=some Tryz.f152:=Tryz.func152
def y3u.r0:jI:=[aw 4,an 5]
def y3u.r1:jI:=[ab 7 0,⟨some 8,none,.call y82 [.t 7]⟩,ab 6 8]
def y3u.r2:jI:=[ab 9 1,a1c 10 9 0,ab 11 10,ah 12 11 1,ah 13 11 6,a3q 14 11 13,a2n 15 11 12 14,aj 16 11 15]
def y3u.r3:jI:=[ab 17 6,ab 18 1,av 19 1 17 18,ac 20 1 19,ab 4 20,a1b 5]
def y3u.r4:jI:=[aw 4,an 5]
def y3u:AFunc:=⟨21,[.t 4,.t 5],jJ [0,1] y3u.r0 (.seq (jJ [1,6] y3u.r1 (jJ [1,6,16] y3u.r2 (.post [] (.cond (.t 16) (jJ [4,5] y3u.r3 (.ret)) (.skip))))) (jJ [4,5] y3u.r4 (.ret)))⟩
theorem y3u.ok:y1v Tryz.prog Tryz.f153 y3u=true:=by kernel_rfl
theorem y3u.at:Tryz.prog.funcs[ydv]?=some Tryz.f153:=Tryz.func153
def y1u.r0:jI:=[aw 2]
def y1u.r1:jI:=[ab 6 0,aq 7 6,ae 8 0 7,ac 9 1 8,⟨some 10,none,.call y3p [.t 9]⟩,ab 3 10]
def y1u.r2:jI:=[ab 11 0,⟨some 12,none,.call y5o [.t 11]⟩,a1a 13 12]
def y1u.r3:jI:=[aw 2]
def y1u.r4:jI:=[ab 15 0,aq 16 15,ae 17 1 16,ac 18 1 17,ab 19 3,⟨some 20,none,.call ydv [.t 18,.t 19]⟩,ab 14 20,ai 21 0 14,ai 22 1 14,ab 4 21,ab 5 22]
def y1u.r5:jI:=[ab 23 5,a1a 24 23]
def y1u.r6:jI:=[ab 25 0,aq 26 25,ae 27 0 26,ac 28 1 27,⟨some 29,none,.call y4t [.t 28,.c (.i .i64 2)]⟩]
def y1u.r7:jI:=[ab 30 4,ab 2 30]
def y1u:AFunc:=⟨31,[.t 2],jJ [0] y1u.r0 (jJ [0,3] y1u.r1 (.seq (jJ [0,3,13] y1u.r2 (.post [0,3] (.cond (.t 13) (jJ [2] y1u.r3 (.ret)) (.skip)))) (jJ [0,4,5] y1u.r4 (.seq (jJ [0,4,24] y1u.r5 (.post [4] (.cond (.t 24) (jK [4] y1u.r6) (.skip)))) (jJ [2] y1u.r7 (.ret))))))⟩
theorem y1u.ok:y1v Tryz.prog Tryz.f89 y1u=true:=by kernel_rfl
theorem y1u.at:Tryz.prog.funcs[y33]?=some Tryz.f89:=Tryz.func89
def yh.r0:jI:=[a1i 4 0 0]
def yh.r1:jI:=[ab 8 0,aq 9 8,ae 10 0 9,ac 11 1 10,⟨some 12,none,.call y3p [.t 11]⟩,ab 5 12]
def yh.r2:jI:=[ab 13 5,a19 14 13 6000]
def yh.r3:jI:=[ab 15 0,aq 16 15,ae 17 0 16,ac 18 1 17,⟨some 19,none,.call y4t [.t 18,.c (.i .i64 4)]⟩]
def yh.r4:jI:=[a1i 6 0 0]
def yh.r5:jI:=[af 7 0]
def yh.r6:jI:=[ab 20 7,ab 21 5,ap 22 20 21,ab 23 22,ah 24 23 0,⟨some 25,(some (23,true)),.call y5o [.t 24]⟩,aj 26 23 25]
def yh.r7:jI:=[ab 29 6,ab 30 1,a2p 31 30,a2l 32 1 1 0 1 31,a1l 33 1 16 29 32,ab 6 33]
def yh.r8:jI:=[ab 27 7,ar 28 27 1,ab 7 28]
def yh.l0:ACode:=.seq (jJ [0,1,5,6,7,26] yh.r6 (.post [0,1,5,6,7] (.cond (.t 26) (.skip) (.exit 0)))) (.seq (.post [0,1,5,6,7] (.block 1 (jK [0,1,5,6,7] yh.r7))) (jK [0,1,5,6,7] yh.r8))
def yh.r9:jI:=[ab 34 6,ab 4 34]
def yh:AFunc:=⟨35,[.t 4],jJ [0,1] yh.r0 (jJ [0,1,5] yh.r1 (.seq (jJ [0,1,5,14] yh.r2 (.post [0,1,5] (.cond (.t 14) (jK [0,1,5] yh.r3) (.skip)))) (jJ [0,1,5,6] yh.r4 (.seq (jJ [0,1,5,6,7] yh.r5 (.post [6] (.block 0 (.loop yh.l0)))) (jJ [4] yh.r9 (.ret))))))⟩
theorem yh.ok:y1v Tryz.prog Tryz.f90 yh=true:=by kernel_rfl
theorem yh.at:Tryz.prog.funcs[y6o]?=some Tryz.f90:=Tryz.func90
def y3l.r0:jI:=[a3a 2 0]
def y3l.r1:jI:=[ab 4 0,aq 5 4,ae 6 0 5,ac 7 1 6,⟨some 8,none,.call y3p [.t 7]⟩,ab 3 8]
def y3l.r2:jI:=[ab 9 3,ab 10 0,⟨some 11,none,.call y33 [.t 10]⟩,⟨some 12,none,.op (.build [.i .i64 0,.s []] [(0,1,.t 9),(1,1,.t 11)])⟩,ak 2 2 12]
def y3l:AFunc:=⟨13,[.cell 2 true 2],jJ [0,2] y3l.r0 (jJ [0,2,3] y3l.r1 (jJ [2] y3l.r2 (.ret)))⟩
theorem y3l.ok:y1v Tryz.prog Tryz.f155 y3l=true:=by kernel_rfl
theorem y3l.at:Tryz.prog.funcs[y8h]?=some Tryz.f155:=Tryz.func155
def y1o.r0:jI:=[a1i 4 0 0]
def y1o.r1:jI:=[ab 8 0,aq 9 8,ae 10 0 9,ac 11 1 10,⟨some 12,none,.call y3p [.t 11]⟩,ab 5 12]
def y1o.r2:jI:=[ab 13 5,a19 14 13 6000]
def y1o.r3:jI:=[ab 15 0,aq 16 15,ae 17 0 16,ac 18 1 17,⟨some 19,none,.call y4t [.t 18,.c (.i .i64 4)]⟩]
def y1o.r4:jI:=[a1i 6 0 0]
def y1o.r5:jI:=[af 7 0]
def y1o.r6:jI:=[ab 20 7,ab 21 5,ap 22 20 21,ab 23 22,ah 24 23 0,⟨some 25,(some (23,true)),.call y5o [.t 24]⟩,aj 26 23 25]
def y1o.r7:jI:=[ab 29 6,ab 30 1,a2p 31 30,⟨some 32,none,.op (.bfz 1 2 [.i .i64 0,.s []] [(0,2,.t 31)])⟩,a1l 33 2 24 29 32,ab 6 33]
def y1o.r8:jI:=[ab 27 7,ar 28 27 1,ab 7 28]
def y1o.l0:ACode:=.seq (jJ [0,1,5,6,7,26] y1o.r6 (.post [0,1,5,6,7] (.cond (.t 26) (.skip) (.exit 0)))) (.seq (.post [0,1,5,6,7] (.block 1 (jK [0,1,5,6,7] y1o.r7))) (jK [0,1,5,6,7] y1o.r8))
def y1o.r9:jI:=[ab 34 6,ab 4 34]
def y1o:AFunc:=⟨35,[.t 4],jJ [0,1] y1o.r0 (jJ [0,1,5] y1o.r1 (.seq (jJ [0,1,5,14] y1o.r2 (.post [0,1,5] (.cond (.t 14) (jK [0,1,5] y1o.r3) (.skip)))) (jJ [0,1,5,6] y1o.r4 (.seq (jJ [0,1,5,6,7] y1o.r5 (.post [6] (.block 0 (.loop y1o.l0)))) (jJ [4] y1o.r9 (.ret))))))⟩
theorem y1o.ok:y1v Tryz.prog Tryz.f154 y1o=true:=by kernel_rfl
theorem y1o.at:Tryz.prog.funcs[yal]?=some Tryz.f154:=Tryz.func154
def y2h.r0:jI:=[a2t 2 0 0]
def y2h.r1:jI:=[ab 4 0,⟨some 5,none,.call y33 [.t 4]⟩,⟨some 6,none,.op (.build [.s [],.s [],.sl none 0 0] [(0,1,.t 5)])⟩,a2t 3 0 0,ak 3 3 6]
def y2h.r2:jI:=[ab 7 0,⟨some 8,none,.call y33 [.t 7]⟩,ae 9 1 3,ak 1 9 8]
def y2h.r3:jI:=[ab 10 0,ab 11 0,⟨some 12,none,.op (.mkfb y8h [.t 11])⟩,⟨some 13,none,.call yal [.t 10,.t 12]⟩,ae 14 2 3,ak 1 14 13]
def y2h.r4:jI:=[a10 15 3 3,ak 3 2 15]
def y2h:AFunc:=⟨16,[.cell 2 true 3],jJ [0,2] y2h.r0 (jJ [0,2,3] y2h.r1 (jJ [0,2,3] y2h.r2 (jJ [2,3] y2h.r3 (jJ [2] y2h.r4 (.ret)))))⟩
theorem y2h.ok:y1v Tryz.prog Tryz.f92 y2h=true:=by kernel_rfl
theorem y2h.at:Tryz.prog.funcs[y7q]?=some Tryz.f92:=Tryz.func92
def y1s.r0:jI:=[a1i 4 0 0]
def y1s.r1:jI:=[ab 8 0,aq 9 8,ae 10 0 9,ac 11 1 10,⟨some 12,none,.call y3p [.t 11]⟩,ab 5 12]
def y1s.r2:jI:=[ab 13 5,a19 14 13 6000]
def y1s.r3:jI:=[ab 15 0,aq 16 15,ae 17 0 16,ac 18 1 17,⟨some 19,none,.call y4t [.t 18,.c (.i .i64 4)]⟩]
def y1s.r4:jI:=[a1i 6 0 0]
def y1s.r5:jI:=[af 7 0]
def y1s.r6:jI:=[ab 20 7,ab 21 5,ap 22 20 21,ab 23 22,ah 24 23 0,⟨some 25,(some (23,true)),.call y5o [.t 24]⟩,aj 26 23 25]
def y1s.r7:jI:=[ab 29 6,ab 30 1,a2p 31 30,⟨some 32,none,.op (.bfz 1 3 [.s [],.s [],.sl none 0 0] [(0,3,.t 31)])⟩,a1l 33 3 56 29 32,ab 6 33]
def y1s.r8:jI:=[ab 27 7,ar 28 27 1,ab 7 28]
def y1s.l0:ACode:=.seq (jJ [0,1,5,6,7,26] y1s.r6 (.post [0,1,5,6,7] (.cond (.t 26) (.skip) (.exit 0)))) (.seq (.post [0,1,5,6,7] (.block 1 (jK [0,1,5,6,7] y1s.r7))) (jK [0,1,5,6,7] y1s.r8))
def y1s.r9:jI:=[ab 34 6,ab 4 34]
def y1s:AFunc:=⟨35,[.t 4],jJ [0,1] y1s.r0 (jJ [0,1,5] y1s.r1 (.seq (jJ [0,1,5,14] y1s.r2 (.post [0,1,5] (.cond (.t 14) (jK [0,1,5] y1s.r3) (.skip)))) (jJ [0,1,5,6] y1s.r4 (.seq (jJ [0,1,5,6,7] y1s.r5 (.post [6] (.block 0 (.loop y1s.l0)))) (jJ [4] y1s.r9 (.ret))))))⟩
theorem y1s.ok:y1v Tryz.prog Tryz.f91 y1s=true:=by kernel_rfl
theorem y1s.at:Tryz.prog.funcs[yax]?=some Tryz.f91:=Tryz.func91
def y2a.r0:jI:=[a2x 2]
def y2a.r1:jI:=[ab 4 0,⟨some 5,none,.call y33 [.t 4]⟩,⟨some 6,none,.op (.build [.s [],.s [],.s []] [(0,1,.t 5)])⟩,a2x 3,ak 3 3 6]
def y2a.r2:jI:=[ab 7 0,⟨some 8,none,.call y33 [.t 7]⟩,ae 9 1 3,ak 1 9 8]
def y2a.r3:jI:=[ab 10 0,⟨some 11,none,.call y33 [.t 10]⟩,ae 12 2 3,ak 1 12 11]
def y2a.r4:jI:=[a10 13 3 3,ak 3 2 13]
def y2a:AFunc:=⟨14,[.cell 2 true 3],jJ [0,2] y2a.r0 (jJ [0,2,3] y2a.r1 (jJ [0,2,3] y2a.r2 (jJ [2,3] y2a.r3 (jJ [2] y2a.r4 (.ret)))))⟩
theorem y2a.ok:y1v Tryz.prog Tryz.f94 y2a=true:=by kernel_rfl
theorem y2a.at:Tryz.prog.funcs[y6z]?=some Tryz.f94:=Tryz.func94
def y1y.r0:jI:=[a1i 4 0 0]
def y1y.r1:jI:=[ab 8 0,aq 9 8,ae 10 0 9,ac 11 1 10,⟨some 12,none,.call y3p [.t 11]⟩,ab 5 12]
def y1y.r2:jI:=[ab 13 5,a19 14 13 6000]
def y1y.r3:jI:=[ab 15 0,aq 16 15,ae 17 0 16,ac 18 1 17,⟨some 19,none,.call y4t [.t 18,.c (.i .i64 4)]⟩]
def y1y.r4:jI:=[a1i 6 0 0]
def y1y.r5:jI:=[af 7 0]
def y1y.r6:jI:=[ab 20 7,ab 21 5,ap 22 20 21,ab 23 22,ah 24 23 0,⟨some 25,(some (23,true)),.call y5o [.t 24]⟩,aj 26 23 25]
def y1y.r7:jI:=[ab 29 6,ab 30 1,a2p 31 30,⟨some 32,none,.op (.bfz 1 3 [.s [],.s [],.s []] [(0,3,.t 31)])⟩,a1l 33 3 48 29 32,ab 6 33]
def y1y.r8:jI:=[ab 27 7,ar 28 27 1,ab 7 28]
def y1y.l0:ACode:=.seq (jJ [0,1,5,6,7,26] y1y.r6 (.post [0,1,5,6,7] (.cond (.t 26) (.skip) (.exit 0)))) (.seq (.post [0,1,5,6,7] (.block 1 (jK [0,1,5,6,7] y1y.r7))) (jK [0,1,5,6,7] y1y.r8))
def y1y.r9:jI:=[ab 34 6,ab 4 34]
def y1y:AFunc:=⟨35,[.t 4],jJ [0,1] y1y.r0 (jJ [0,1,5] y1y.r1 (.seq (jJ [0,1,5,14] y1y.r2 (.post [0,1,5] (.cond (.t 14) (jK [0,1,5] y1y.r3) (.skip)))) (jJ [0,1,5,6] y1y.r4 (.seq (jJ [0,1,5,6,7] y1y.r5 (.post [6] (.block 0 (.loop y1y.l0)))) (jJ [4] y1y.r9 (.ret))))))⟩
theorem y1y.ok:y1v Tryz.prog Tryz.f93 y1y=true:=by kernel_rfl
theorem y1y.at:Tryz.prog.funcs[yb4]?=some Tryz.f93:=Tryz.func93
def y21.r0:jI:=[a2g 2 0 0 0 0]
def y21.r1:jI:=[ab 4 0,aq 5 4,ae 6 0 5,ac 7 1 6,⟨some 8,none,.call y3p [.t 7]⟩,⟨some 9,none,.op (.build [.i .i64 0,.s [],.s [],.i .i64 0,.s [],.sl none 0 0] [(0,1,.t 8)])⟩,a2g 3 0 0 0 0,ak 6 3 9]
def y21.r2:jI:=[ab 10 0,⟨some 11,none,.call y33 [.t 10]⟩,ae 12 1 3,ak 1 12 11]
def y21.r3:jI:=[ab 13 0,⟨some 14,none,.call y33 [.t 13]⟩,ae 15 2 3,ak 1 15 14]
def y21.r4:jI:=[ab 16 0,aq 17 16,ae 18 0 17,ac 19 1 18,⟨some 20,none,.call y3p [.t 19]⟩,ae 21 3 3,ak 1 21 20]
def y21.r5:jI:=[ab 22 0,⟨some 23,none,.call y33 [.t 22]⟩,ae 24 4 3,ak 1 24 23]
def y21.r6:jI:=[ab 25 0,ab 26 0,⟨some 27,none,.op (.mkfb y33 [.t 26])⟩,⟨some 28,none,.call y6o [.t 25,.t 27]⟩,ae 29 5 3,ak 1 29 28]
def y21.r7:jI:=[a10 30 6 3,ak 6 2 30]
def y21:AFunc:=⟨31,[.cell 2 true 6],jJ [0,2] y21.r0 (jJ [0,2,3] y21.r1 (jJ [0,2,3] y21.r2 (jJ [0,2,3] y21.r3 (jJ [0,2,3] y21.r4 (jJ [0,2,3] y21.r5 (jJ [2,3] y21.r6 (jJ [2] y21.r7 (.ret))))))))⟩
theorem y21.ok:y1v Tryz.prog Tryz.f96 y21=true:=by kernel_rfl
theorem y21.at:Tryz.prog.funcs[y8x]?=some Tryz.f96:=Tryz.func96
def y1t.r0:jI:=[a1i 4 0 0]
def y1t.r1:jI:=[ab 8 0,aq 9 8,ae 10 0 9,ac 11 1 10,⟨some 12,none,.call y3p [.t 11]⟩,ab 5 12]
def y1t.r2:jI:=[ab 13 5,a19 14 13 6000]
def y1t.r3:jI:=[ab 15 0,aq 16 15,ae 17 0 16,ac 18 1 17,⟨some 19,none,.call y4t [.t 18,.c (.i .i64 4)]⟩]
def y1t.r4:jI:=[a1i 6 0 0]
def y1t.r5:jI:=[af 7 0]
def y1t.r6:jI:=[ab 20 7,ab 21 5,ap 22 20 21,ab 23 22,ah 24 23 0,⟨some 25,(some (23,true)),.call y5o [.t 24]⟩,aj 26 23 25]
def y1t.r7:jI:=[ab 29 6,ab 30 1,a2p 31 30,⟨some 32,none,.op (.bfz 1 6 [.i .i64 0,.s [],.s [],.i .i64 0,.s [],.sl none 0 0] [(0,6,.t 31)])⟩,a1l 33 6 88 29 32,ab 6 33]
def y1t.r8:jI:=[ab 27 7,ar 28 27 1,ab 7 28]
def y1t.l0:ACode:=.seq (jJ [0,1,5,6,7,26] y1t.r6 (.post [0,1,5,6,7] (.cond (.t 26) (.skip) (.exit 0)))) (.seq (.post [0,1,5,6,7] (.block 1 (jK [0,1,5,6,7] y1t.r7))) (jK [0,1,5,6,7] y1t.r8))
def y1t.r9:jI:=[ab 34 6,ab 4 34]
def y1t:AFunc:=⟨35,[.t 4],jJ [0,1] y1t.r0 (jJ [0,1,5] y1t.r1 (.seq (jJ [0,1,5,14] y1t.r2 (.post [0,1,5] (.cond (.t 14) (jK [0,1,5] y1t.r3) (.skip)))) (jJ [0,1,5,6] y1t.r4 (.seq (jJ [0,1,5,6,7] y1t.r5 (.post [6] (.block 0 (.loop y1t.l0)))) (jJ [4] y1t.r9 (.ret))))))⟩
theorem y1t.ok:y1v Tryz.prog Tryz.f95 y1t=true:=by kernel_rfl
theorem y1t.at:Tryz.prog.funcs[yay]?=some Tryz.f95:=Tryz.func95
def y27.r0:jI:=[a2z 4 0 0 0 0 0 0 0 0 0 0 0 0,af 5 0]
def y27.r1:jI:=[ab 10 1,⟨some 11,none,.call ydg [.t 10]⟩,ab 12 0,⟨some 13,none,.op (.build [.p none,.p none] [(0,1,.t 11),(1,1,.t 12)])⟩,a1m 14 13,ab 6 14]
def y27.r2:jI:=[ab 15 6,⟨some 16,none,.call y33 [.t 15]⟩,⟨some 17,none,.op (.build [.s [],.sl none 0 0,.sl none 0 0,.sl none 0 0,.sl none 0 0,.sl none 0 0,.sl none 0 0] [(0,1,.t 16)])⟩,a2z 7 0 0 0 0 0 0 0 0 0 0 0 0,ak 7 7 17]
def y27.r3:jI:=[ab 18 6,ab 19 6,⟨some 20,none,.op (.mkfb y33 [.t 19])⟩,⟨some 21,none,.call y6o [.t 18,.t 20]⟩,ae 22 1 7,ak 1 22 21]
def y27.r4:jI:=[ab 23 6,ab 24 6,⟨some 25,none,.op (.mkfb y33 [.t 24])⟩,⟨some 26,none,.call y6o [.t 23,.t 25]⟩,ae 27 2 7,ak 1 27 26]
def y27.r5:jI:=[ab 28 6,ab 29 6,⟨some 30,none,.op (.mkfb y33 [.t 29])⟩,⟨some 31,none,.call y6o [.t 28,.t 30]⟩,ae 32 3 7,ak 1 32 31]
def y27.r6:jI:=[ab 33 6,ab 34 6,⟨some 35,none,.op (.mkfb y7q [.t 34])⟩,⟨some 36,none,.call yax [.t 33,.t 35]⟩,ae 37 4 7,ae 38 0 37,ak 1 38 36]
def y27.r7:jI:=[ab 39 6,ab 40 6,⟨some 41,none,.op (.mkfb y6z [.t 40])⟩,⟨some 42,none,.call yb4 [.t 39,.t 41]⟩,ae 43 4 7,ae 44 1 43,ak 1 44 42]
def y27.r8:jI:=[ab 45 6,ab 46 6,⟨some 47,none,.op (.mkfb y8x [.t 46])⟩,⟨some 48,none,.call yay [.t 45,.t 47]⟩,ae 49 4 7,ae 50 2 49,ak 1 50 48]
def y27.r9:jI:=[ab 52 6,aq 53 52,ae 54 0 53,ac 55 1 54,⟨some 56,none,.call y60 [.t 55]⟩,ab 51 56,ai 57 0 51,ai 58 1 51,ab 8 57,ab 9 58]
def y27.r10:jI:=[ab 59 9,a17 60 59 0]
def y27.r11:jI:=[a30 61 0 0 0 0 0 0 0 0 0 0 0 0,ab 62 9,ak 7 4 61,ab 5 62]
def y27.r12:jI:=[a10 63 7 7,ak 7 4 63,af 5 0]
def y27:AFunc:=⟨64,[.cell 4 true 7,.t 5],jJ [0,1,4] y27.r0 (jJ [4,6] y27.r1 (jJ [4,6,7] y27.r2 (jJ [4,6,7] y27.r3 (jJ [4,6,7] y27.r4 (jJ [4,6,7] y27.r5 (jJ [4,6,7] y27.r6 (jJ [4,6,7] y27.r7 (jJ [4,6,7] y27.r8 (.seq (jJ [4,7,9] y27.r9 (jJ [4,7,9,60] y27.r10 (.post [4,7] (.cond (.t 60) (jJ [4,5] y27.r11 (.ret)) (.skip))))) (jJ [4,5] y27.r12 (.ret)))))))))))⟩
theorem y27.ok:y1v Tryz.prog Tryz.f36 y27=true:=by kernel_rfl
theorem y27.at:Tryz.prog.funcs[yej]?=some Tryz.f36:=Tryz.func36
def y5h.r0:jI:=[af 2 0]
def y5h.r1:jI:=[ab 3 0,⟨some 4,none,.call y82 [.t 3]⟩,am 5 4,ab 2 5]
def y5h:AFunc:=⟨6,[.t 2],jJ [0] y5h.r0 (jJ [2] y5h.r1 (.ret))⟩
theorem y5h.ok:y1v Tryz.prog Tryz.f37 y5h=true:=by kernel_rfl
theorem y5h.at:Tryz.prog.funcs[ycz]?=some Tryz.f37:=Tryz.func37
def yp.r0:jI:=[a2z 2 0 0 0 0 0 0 0 0 0 0 0 0,af 3 0]
def yp.r1:jI:=[ab 10 0,a15 11 10,a19 12 11 200000]
def yp.r2:jI:=[a30 13 0 0 0 0 0 0 0 0 0 0 0 0,ak 7 2 13,af 3 9]
def yp.r3:jI:=[ab 15 0,⟨some 16,none,.call yho [.t 15]⟩,ab 14 16,ai 17 0 14,ai 18 1 14,ab 4 17,ab 5 18]
def yp.r4:jI:=[ab 19 5,a1a 20 19]
def yp.r5:jI:=[a30 21 0 0 0 0 0 0 0 0 0 0 0 0,ak 7 2 21,af 3 14]
def yp.r6:jI:=[ab 23 4,⟨some 24,none,.call ydt [.t 23]⟩,ab 22 24,ai 25 0 22,ai 26 1 22,ai 27 2 22,ab 6 25,ab 7 26,ab 8 27]
def yp.r7:jI:=[ab 28 8,a17 29 28 0]
def yp.r8:jI:=[a30 30 0 0 0 0 0 0 0 0 0 0 0 0,ab 31 8,ak 7 2 30,ab 3 31]
def yp.r9:jI:=[ab 33 6,ab 34 7,⟨some 35,none,.call yej [.t 33,.t 34]⟩,ab 32 35,ai 36 0 32,ai 37 1 32,a2z 9 0 0 0 0 0 0 0 0 0 0 0 0,ak 7 9 36,ab 8 37]
def yp.r10:jI:=[ab 38 8,a12 39 38 0]
def yp.r11:jI:=[a10 40 7 9,⟨some 41,none,.call yaw [.t 40]⟩,ab 8 41]
def yp.r12:jI:=[ab 42 8,a12 43 42 0,ab 44 43,a1j 45 44 7 9,⟨some 46,(some (44,true)),.call ybt [.t 45]⟩,a3q 47 44 46,ah 48 44 6,⟨some 49,(some (44,true)),.call ycz [.t 48]⟩,⟨some 50,(some (44,true)),.op (.bin .neq (.t 47) (.t 49))⟩,aj 51 44 50]
def yp.r13:jI:=[af 8 3]
def yp.r14:jI:=[ab 52 8,a17 53 52 0]
def yp.r15:jI:=[a30 54 0 0 0 0 0 0 0 0 0 0 0 0,ab 55 8,ak 7 2 54,ab 3 55]
def yp.r16:jI:=[a10 56 7 9,ak 7 2 56,af 3 0]
def yp:AFunc:=⟨57,[.cell 2 true 7,.t 3],jJ [0,2] yp.r0 (.seq (jJ [0,2,12] yp.r1 (.post [0,2] (.cond (.t 12) (jJ [2,3] yp.r2 (.ret)) (.skip)))) (jJ [2,4,5] yp.r3 (.seq (jJ [2,4,20] yp.r4 (.post [2,4] (.cond (.t 20) (jJ [2,3] yp.r5 (.ret)) (.skip)))) (jJ [2,6,7,8] yp.r6 (.seq (jJ [2,6,7,8,29] yp.r7 (.post [2,6,7] (.cond (.t 29) (jJ [2,3] yp.r8 (.ret)) (.skip)))) (jJ [2,6,8,9] yp.r9 (.seq (jJ [2,6,8,9,39] yp.r10 (.post [2,6,8,9] (.cond (.t 39) (jK [2,6,8,9] yp.r11) (.skip)))) (.seq (jJ [2,8,9,51] yp.r12 (.post [2,8,9] (.cond (.t 51) (jK [2,8,9] yp.r13) (.skip)))) (.seq (jJ [2,8,9,53] yp.r14 (.post [2,9] (.cond (.t 53) (jJ [2,3] yp.r15 (.ret)) (.skip)))) (jJ [2,3] yp.r16 (.ret)))))))))))⟩
theorem yp.ok:y1v Tryz.prog Tryz.f11 yp=true:=by kernel_rfl
theorem yp.at:Tryz.prog.funcs[ycc]?=some Tryz.f11:=Tryz.func11
def y1r.r0:jI:=[a16 1 0,an 2]
def y1r.r1:jI:=[a10 7 7 1,⟨some 8,none,.call ybj [.t 7]⟩]
def y1r.r2:jI:=[a1b 2]
def y1r.r3:jI:=[a10 10 7 1,⟨some 11,none,.call yad [.t 10]⟩,ab 9 11,ai 12 0 9,ai 13 1 9,ab 3 12,ab 4 13]
def y1r.r4:jI:=[a10 15 7 1,⟨some 16,none,.call yaq [.t 15]⟩,ab 14 16,ai 17 0 14,ai 18 1 14,ab 5 17,ab 6 18]
def y1r.r5:jI:=[ab 19 3,ab 20 5,a2c 21 19 20,ab 22 21,ah 23 22 4,ah 24 22 6,a2d 25 22 23 24,aj 26 22 25,ab 27 26,⟨some 28,(some (27,true)),.call ybi []⟩,aj 29 27 28,ab 2 29]
def y1r:AFunc:=⟨30,[.t 2],jJ [1] y1r.r0 (.seq (jJ [1,8] y1r.r1 (.post [1] (.cond (.t 8) (jJ [2] y1r.r2 (.ret)) (.skip)))) (jJ [1,3,4] y1r.r3 (jJ [3,4,5,6] y1r.r4 (jJ [2] y1r.r5 (.ret)))))⟩
theorem y1r.ok:y1v Tryz.prog Tryz.f3 y1r=true:=by kernel_rfl
theorem y1r.at:Tryz.prog.funcs[y7x]?=some Tryz.f3:=Tryz.func3
end C
end Go.Proofs.YthmkcebbeehbeaaGreatDoor
