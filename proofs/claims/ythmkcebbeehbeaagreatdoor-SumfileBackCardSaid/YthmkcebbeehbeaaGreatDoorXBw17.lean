/- Part 17 of the proof of the laws of the queries: CodeB. -/
import Derived.Test.YthmkcebbeehbeaaGreatDoorXBw16
set_option linter.unusedSimpArgs false
set_option linter.unusedVariables false
namespace Go.Proofs.YthmkcebbeehbeaaGreatDoor
open Am Go.Proofs
set_option maxRecDepth 100000
namespace C
def y1p.r0:jI:=[a1a 1 0,ai 2 0]
def y1p.r1:jI:=[ah 6 0 1,ae 7 1 6,⟨some 8,none,.call y6m [.t 7]⟩,ab 5 8,aj 9 0 5,aj 10 1 5,a1m 3 0 0 0 0,ar 6 3 9,ab 4 10]
def y1p.r2:jI:=[ab 11 4,a1c 12 11 0,ab 13 12,a12 14 13 0 3,a11 15 13 1 14,a2b 16 13 15 4,az 17 13 16]
def y1p.r3:jI:=[ai 2 11]
def y1p.r4:jI:=[ah 18 1 1,ae 19 1 18,⟨some 20,none,.call y85 [.t 19,.c (.i .i64 0),.c (.i .i64 6)]⟩,a1d 21 20,ab 22 21,a12 23 22 2 1,a11 24 22 1 23,⟨some 25,(some (22,false)),.op (.bin .neq (.t 24) (.c (.s [105])))⟩,a19 26 22 25,a16 27 26 2 1,a15 28 26 1 27,a2m 29 26 28 112,a1j 30 22 26 29,a19 31 22 30,a16 32 31 2 1,a15 33 31 1 32,a2m 34 31 33 118,a1j 35 22 31 34,az 36 22 35]
def y1p.r5:jI:=[ai 2 5]
def y1p.r6:jI:=[ai 2 0]
def y1p:AFunc:=⟨37,[.t 2],jJ [1] y1p.r0 (jJ [1,3,4] y1p.r1 (.seq (jJ [1,17] y1p.r2 (.post [1] (.cond (.t 17) (jJ [2] y1p.r3 (.ret)) (.skip)))) (.seq (jJ [36] y1p.r4 (.post [] (.cond (.t 36) (jJ [2] y1p.r5 (.ret)) (.skip)))) (jJ [2] y1p.r6 (.ret)))))⟩
theorem y1p.ok:y1x Tryz.prog Tryz.f102 y1p=true:=by kernel_rfl
theorem y1p.at:Tryz.prog.funcs[y9k]?=some Tryz.f102:=Tryz.func102
def y3m.r0:jI:=[ap 2]
def y3m.r1:jI:=[ab 6 0,⟨some 7,none,.call y6m [.t 6]⟩,ab 5 7,aj 8 0 5,aj 9 1 5,a1m 3 0 0 0 0,ar 6 3 8,ab 4 9]
def y3m.r2:jI:=[ab 10 4,a18 11 10 0,ab 12 11,a16 13 12 0 3,a15 14 12 1 13,a26 15 12 14 3,am 16 12 15,a12 17 16 5 3,a11 18 16 1 17,a2l 19 16 18 0,a1n 20 12 16 19,aq 21 12 20,ab 2 21]
def y3m:AFunc:=⟨22,[.t 2],jJ [0] y3m.r0 (jJ [3,4] y3m.r1 (jJ [2] y3m.r2 (.ret)))⟩
theorem y3m.ok:y1x Tryz.prog Tryz.f45 y3m=true:=by kernel_rfl
theorem y3m.at:Tryz.prog.funcs[y7i]?=some Tryz.f45:=Tryz.func45
def y3h.r0:jI:=[ap 2]
def y3h.r1:jI:=[ab 6 0,⟨some 7,none,.call y6m [.t 6]⟩,ab 5 7,aj 8 0 5,aj 9 1 5,a1m 3 0 0 0 0,ar 6 3 8,ab 4 9]
def y3h.r2:jI:=[ab 10 4,a18 11 10 0,ab 12 11,a16 13 12 0 3,a15 14 12 1 13,a1q 15 12 14 4,am 16 12 15,a12 17 16 5 3,a11 18 16 1 17,a2l 19 16 18 0,a1n 20 12 16 19,aq 21 12 20,ab 2 21]
def y3h:AFunc:=⟨22,[.t 2],jJ [0] y3h.r0 (jJ [3,4] y3h.r1 (jJ [2] y3h.r2 (.ret)))⟩
theorem y3h.ok:y1x Tryz.prog Tryz.f159 y3h=true:=by kernel_rfl
theorem y3h.at:Tryz.prog.funcs[yau]?=some Tryz.f159:=Tryz.func159
def y2a.r0:jI:=[a17 2,a17 3,ap 4]
def y2a.r1:jI:=[ai 5 0]
def y2a.r2:jI:=[ab 7 5,ab 8 0,a1b 9 8,ax 10 7 9]
def y2a.r3:jI:=[ab 13 0,ab 14 5,a1x 15 13 14,a29 16 15 62]
def y2a.r4:jI:=[ab 17 0,ab 18 5,ay 19 18 1,a2d 20 17 19,ab 6 20]
def y2a.r5:jI:=[ab 21 0,ab 22 5,a24 23 21 22,ab 24 6,ab 25 0,ab 26 5,a24 27 25 26,⟨some 28,none,.call y85 [.t 27,.c (.i .i64 0),.c (.i .i64 6)]⟩,ab 29 28,am 30 29 6,a3l 31 29 30,am 32 29 31,a19 33 32 6,⟨some 34,(some (32,false)),.op (.bin .eql (.t 33) (.c (.s [105])))⟩,a1n 35 29 32 34,am 36 29 35,a19 37 36 6,⟨some 38,(some (36,false)),.op (.bin .eql (.t 37) (.c (.s [112])))⟩,a1n 39 29 36 38,aq 40 29 39,ab 2 23,ab 3 24,ab 4 40]
def y2a.r6:jI:=[ab 11 5,ay 12 11 1,ab 5 12]
def y2a.l0:ACode:=.seq (jJ [0,5,10] y2a.r2 (.post [0,5] (.cond (.t 10) (.skip) (.exit 0)))) (.seq (.post [0,5] (.block 1 (jJ [0,5,16] y2a.r3 (.post [0,5] (.cond (.t 16) (jJ [0,5,6] y2a.r4 (.seq (.post [2,3,4] (.draw [0,0,3,0,0,0,48,112,240,496,1008,2032,4080,8176,16368,32752,65520,131056,262128,524272,65527,1114111,4194303] y2a.r5)) (.ret))) (.skip)))))) (jK [0,5] y2a.r6))
def y2a.r7:jI:=[a17 2,a17 3,ap 4]
def y2a:AFunc:=⟨41,[.t 2,.t 3,.t 4],jJ [0] y2a.r0 (.seq (jJ [0,5] y2a.r1 (.post [] (.block 0 (.loop y2a.l0)))) (jJ [2,3,4] y2a.r7 (.ret)))⟩
theorem y2a.ok:y1x Tryz.prog Tryz.f188 y2a=true:=by kernel_rfl
theorem y2a.at:Tryz.prog.funcs[yc3]?=some Tryz.f188:=Tryz.func188
def y12.r0:jI:=[a1a 1 0,ai 2 0]
def y12.r1:jI:=[ah 9 4 1,ae 10 1 9,⟨some 11,none,.call yc3 [.t 10]⟩,ab 8 11,aj 12 0 8,aj 13 1 8,aj 14 2 8,ab 3 12,ab 4 13,ab 5 14]
def y12.r2:jI:=[ab 15 5,a1d 16 15,ab 17 16,a12 18 17 3 1,a11 19 17 1 18,a2b 20 17 19 0,az 21 17 20,ab 22 21,a12 23 22 5 1,a11 24 22 1 23,a1o 25 22 24,a19 26 22 3,a1t 27 22 26,⟨some 28,(some (22,false)),.op (.bin .add (.t 27) (.c (.i .i64 1)))⟩,a2f 29 22 25 28,az 30 22 29]
def y12.r3:jI:=[ai 2 3]
def y12.r4:jI:=[ai 6 0]
def y12.r5:jI:=[ab 31 6,ah 32 5 1,ae 33 1 32,av 34 33,ax 35 31 34]
def y12.r6:jI:=[ab 38 4,a3b 39 38 112,ab 7 39]
def y12.r7:jI:=[ab 40 6,a1e 41 40 0]
def y12.r8:jI:=[ab 42 3,ab 43 6,a30 44 43 1,a1x 45 42 44,a29 46 45 112,ab 7 46]
def y12.r9:jI:=[ah 47 5 1,ae 48 1 47,ab 49 6,a10 50 1 48 49,ae 51 1 50,a25 52 51,ab 53 52,am 54 53 7,a1y 55 53 54,am 56 53 55,a12 57 56 5 1,a11 58 56 1 57,a19 59 56 6,a36 60 56 1 58 59,a11 61 56 1 60,⟨some 62,(some (56,false)),.call y7i [.t 61]⟩,a1z 63 56 62,a1n 64 53 56 63,aq 65 53 64]
def y12.r10:jI:=[ai 2 3]
def y12.r11:jI:=[ab 36 6,ay 37 36 1,ab 6 37]
def y12.l0:ACode:=.seq (jJ [1,3,4,6,35] y12.r5 (.post [1,3,4,6] (.cond (.t 35) (.skip) (.exit 0)))) (.seq (.post [1,3,4,6] (.block 1 (jJ [1,3,4,6,7] y12.r6 (.seq (jJ [1,3,4,6,7,41] y12.r7 (.post [1,3,4,6,7] (.cond (.t 41) (jK [1,3,4,6,7] y12.r8) (.skip)))) (jJ [1,3,4,6,65] y12.r9 (.post [1,3,4,6] (.cond (.t 65) (jJ [2] y12.r10 (.ret)) (.skip)))))))) (jK [1,3,4,6] y12.r11))
def y12.r12:jI:=[ai 2 0]
def y12:AFunc:=⟨66,[.t 2],jJ [1] y12.r0 (jJ [1,3,4,5] y12.r1 (.seq (jJ [1,3,4,30] y12.r2 (.post [1,3,4] (.cond (.t 30) (jJ [2] y12.r3 (.ret)) (.skip)))) (.seq (jJ [1,3,4,6] y12.r4 (.post [] (.block 0 (.loop y12.l0)))) (jJ [2] y12.r12 (.ret)))))⟩
theorem y12.ok:y1x Tryz.prog Tryz.f160 y12=true:=by kernel_rfl
theorem y12.at:Tryz.prog.funcs[ybi]?=some Tryz.f160:=Tryz.func160
def yu.r0:jI:=[a1a 1 0,ai 2 0]
def yu.r1:jI:=[ah 5 0 1,ae 6 1 5,a27 7 6 1,ab 8 7,a12 9 8 0 1,a11 10 8 1 9,a1i 11 8 10 6,az 12 8 11]
def yu.r2:jI:=[ai 2 5]
def yu.r3:jI:=[ah 14 1 1,ae 15 1 14,⟨some 16,none,.call y6m [.t 15]⟩,ab 13 16,aj 17 0 13,aj 18 1 13,a1m 3 0 0 0 0,ar 6 3 17,ab 4 18]
def yu.r4:jI:=[ah 19 1 1,ae 20 1 19,⟨some 21,none,.call y7i [.t 20]⟩,a1d 22 21,ab 23 22,a12 24 23 0 1,a11 25 23 1 24,a1s 26 23 25 6,a19 27 23 26,am 28 27 4,a3r 29 27 28 0,am 30 27 29,a12 31 30 0 3,a11 32 30 1 31,a2b 33 30 32 3,a1n 34 27 30 33,a1j 35 23 27 34,az 36 23 35,ab 37 36,a12 38 37 0 1,a11 39 37 1 38,a1s 40 37 39 1,a19 41 37 40,a16 42 41 2 1,a15 43 41 1 42,⟨some 44,(some (41,true)),.call yau [.t 43]⟩,a1y 45 41 44,a1j 46 37 41 45,az 47 37 46,ab 48 47,a12 49 48 0 1,a11 50 48 1 49,a2b 51 48 50 1,a19 52 48 51,a16 53 52 2 1,a15 54 52 1 53,⟨some 55,(some (52,true)),.call y7i [.t 54]⟩,a1y 56 52 55,a1j 57 48 52 56,az 58 48 57]
def yu.r5:jI:=[ai 2 11]
def yu.r6:jI:=[ah 60 0 1,ae 61 1 60,a18 62 61 6,ab 59 62]
def yu.r7:jI:=[a14 63 6 1,⟨some 64,none,.call ybi [.t 63]⟩,ab 2 64]
def yu.r8:jI:=[ah 66 5 1,ae 67 1 66,av 68 67,a1e 69 68 0,ab 65 69]
def yu.r9:jI:=[ai 2 3]
def yu.r10:jI:=[ah 71 0 1,ae 72 1 71,a18 73 72 5,ab 70 73]
def yu.r11:jI:=[ah 74 3 1,ae 75 1 74,a27 76 75 0,ab 77 76,a12 78 77 3 1,a11 79 77 1 78,a1i 80 77 79 64,az 81 77 80,ab 82 81,a12 83 82 4 1,a11 84 82 1 83,a1t 85 82 84,a2z 86 82 85 1,az 87 82 86,ab 88 87,a12 89 88 4 1,a11 90 88 1 89,a1t 91 88 90,a1i 92 88 91 60,az 93 88 92]
def yu.r12:jI:=[ai 2 3]
def yu.r13:jI:=[ai 2 0]
def yu.r14:jI:=[ah 95 3 1,ae 96 1 95,a1c 97 96 0,ab 98 97,a12 99 98 4 1,a11 100 98 1 99,a3n 101 98 100,az 102 98 101,ab 94 102]
def yu.r15:jI:=[ai 2 3]
def yu.r16:jI:=[ai 2 0]
def yu:AFunc:=⟨103,[.t 2],jJ [1] yu.r0 (.seq (jJ [1,12] yu.r1 (.post [1] (.cond (.t 12) (jJ [2] yu.r2 (.ret)) (.skip)))) (jJ [1,3,4] yu.r3 (.seq (jJ [1,58] yu.r4 (.post [1] (.cond (.t 58) (jJ [2] yu.r5 (.ret)) (.skip)))) (.seq (.post [] (.block 0 (jJ [1,59] yu.r6 (.post [] (.cond (.t 59) (jJ [2] yu.r7 (.ret)) (jJ [1,65] yu.r8 (.post [] (.cond (.t 65) (jJ [2] yu.r9 (.ret)) (jJ [1,70] yu.r10 (.post [] (.cond (.t 70) (.seq (jJ [93] yu.r11 (.post [] (.cond (.t 93) (jJ [2] yu.r12 (.ret)) (.skip)))) (jJ [2] yu.r13 (.ret))) (jJ [94] yu.r14 (.post [] (.cond (.t 94) (jJ [2] yu.r15 (.ret)) (.skip))))))))))))))) (jJ [2] yu.r16 (.ret))))))⟩
theorem yu.ok:y1x Tryz.prog Tryz.f103 yu=true:=by kernel_rfl
theorem yu.at:Tryz.prog.funcs[yc4]?=some Tryz.f103:=Tryz.func103
def y2y.r0:jI:=[ai 4 0]
def y2y.r1:jI:=[ab 6 0,ab 7 1,ax 8 6 7,ab 5 8]
def y2y.r2:jI:=[ai 4 (-1)]
def y2y.r3:jI:=[ab 10 0,ab 11 1,a2j 12 10 11,ab 9 12]
def y2y.r4:jI:=[ai 4 1]
def y2y.r5:jI:=[ai 4 0]
def y2y:AFunc:=⟨13,[.t 4],jJ [0,1] y2y.r0 (.seq (.post [] (.block 0 (jJ [0,1,5] y2y.r1 (.post [] (.cond (.t 5) (jJ [4] y2y.r2 (.ret)) (jJ [9] y2y.r3 (.post [] (.cond (.t 9) (jJ [4] y2y.r4 (.ret)) (.skip))))))))) (jJ [4] y2y.r5 (.ret)))⟩
theorem y2y.ok:y1x Tryz.prog Tryz.f156 y2y=true:=by kernel_rfl
theorem y2y.at:Tryz.prog.funcs[y8m]?=some Tryz.f156:=Tryz.func156
def y2r.r0:jI:=[ai 4 0]
def y2r.r1:jI:=[ab 6 0,ab 7 1,ax 8 6 7,ab 5 8]
def y2r.r2:jI:=[ai 4 (-1)]
def y2r.r3:jI:=[ab 10 0,ab 11 1,a2j 12 10 11,ab 9 12]
def y2r.r4:jI:=[ai 4 1]
def y2r.r5:jI:=[ai 4 0]
def y2r:AFunc:=⟨13,[.t 4],jJ [0,1] y2r.r0 (.seq (.post [] (.block 0 (jJ [0,1,5] y2r.r1 (.post [] (.cond (.t 5) (jJ [4] y2r.r2 (.ret)) (jJ [9] y2r.r3 (.post [] (.cond (.t 9) (jJ [4] y2r.r4 (.ret)) (.skip))))))))) (jJ [4] y2r.r5 (.ret)))⟩
theorem y2r.ok:y1x Tryz.prog Tryz.f157 y2r=true:=by kernel_rfl
theorem y2r.at:Tryz.prog.funcs[y6x]?=some Tryz.f157:=Tryz.func157
def yq.r0:jI:=[a1a 2 0,a1a 3 1,ai 4 0]
def yq.r1:jI:=[ah 8 0 2,ae 9 1 8,ah 10 0 3,ae 11 1 10,⟨some 12,none,.call y8m [.t 9,.t 11]⟩,ah 13 1 2,ae 14 1 13,ah 15 1 3,ae 16 1 15,⟨some 17,none,.call y6x [.t 14,.t 16]⟩,ah 18 2 2,ae 19 1 18,ah 20 2 3,ae 21 1 20,⟨some 22,none,.call y6x [.t 19,.t 21]⟩,ah 23 3 2,ae 24 1 23,ah 25 3 3,ae 26 1 25,⟨some 27,none,.call y8m [.t 24,.t 26]⟩,ah 28 4 2,ae 29 1 28,ah 30 4 3,ae 31 1 30,⟨some 32,none,.call y6x [.t 29,.t 31]⟩,⟨some 33,none,.op (.bsl 5 [.i .i64 0] [(0,1,.t 12),(1,1,.t 17),(2,1,.t 22),(3,1,.t 27),(4,1,.t 32)])⟩,ab 5 33]
def yq.r2:jI:=[ai 6 0]
def yq.r3:jI:=[ab 34 6,ah 35 5 2,ae 36 1 35,av 37 36,ax 38 34 37,ab 39 38,am 40 39 6,a16 41 39 5 3,a15 42 39 1 41,a33 43 39 42,a2q 44 39 40 43,aq 45 39 44]
def yq.r4:jI:=[ab 48 5,ah 49 5 2,ae 50 1 49,ab 51 6,a10 52 1 50 51,ae 53 1 52,ah 54 5 3,ae 55 1 54,ab 56 6,a10 57 1 55 56,ae 58 1 57,⟨some 59,none,.call y6x [.t 53,.t 58]⟩,⟨some 60,none,.op (.bfz 1 1 [.i .i64 0] [(0,1,.t 59)])⟩,a1w 61 1 8 48 60,ab 5 61]
def yq.r5:jI:=[ab 46 6,ay 47 46 1,ab 6 47]
def yq.l0:ACode:=.seq (jJ [2,3,5,6,45] yq.r3 (.post [2,3,5,6] (.cond (.t 45) (.skip) (.exit 0)))) (.seq (.post [2,3,5,6] (.block 1 (.post [2,3,5,6] (.draw [0,0,2,0,14,30,0,64,0,448,960,2046,4094,8191,16383] yq.r4)))) (jK [2,3,5,6] yq.r5))
def yq.r6:jI:=[ab 62 5,ah 63 5 2,ae 64 1 63,av 65 64,ah 66 5 3,ae 67 1 66,av 68 67,⟨some 69,none,.call y8m [.t 65,.t 68]⟩,⟨some 70,none,.op (.bfz 1 1 [.i .i64 0] [(0,1,.t 69)])⟩,a1w 71 1 8 62 70,ab 5 71]
def yq.r7:jI:=[ai 7 0]
def yq.r8:jI:=[ab 72 7,ab 73 5,av 74 73,ax 75 72 74]
def yq.r9:jI:=[ab 78 5,ab 79 7,a10 80 1 78 79,ae 81 1 80,a1c 82 81 0]
def yq.r10:jI:=[ab 83 5,ab 84 7,a10 85 1 83 84,ae 86 1 85,ab 4 86]
def yq.r11:jI:=[ab 76 7,ay 77 76 1,ab 7 77]
def yq.l1:ACode:=.seq (jJ [5,7,75] yq.r8 (.post [5,7] (.cond (.t 75) (.skip) (.exit 2)))) (.seq (.post [5,7] (.block 3 (jJ [5,7,82] yq.r9 (.post [5,7] (.cond (.t 82) (jJ [4] yq.r10 (.ret)) (.skip)))))) (jK [5,7] yq.r11))
def yq.r12:jI:=[ai 4 0]
def yq:AFunc:=⟨87,[.t 4],jJ [2,3] yq.r0 (.seq (.post [2,3,5] (.draw [0,1,0,4,15,0,32,0,128,511,0,1024,0,4096,16383,0,32768,0,131072,524287,0,1048576,0,4194304,16777215,33554431,67108863] yq.r1)) (.seq (jJ [2,3,5,6] yq.r2 (.post [2,3,5] (.block 0 (.loop yq.l0)))) (jJ [5] yq.r6 (.seq (jJ [5,7] yq.r7 (.post [] (.block 2 (.loop yq.l1)))) (jJ [4] yq.r12 (.ret))))))⟩
theorem yq.ok:y1x Tryz.prog Tryz.f98 yq=true:=by kernel_rfl
theorem yq.at:Tryz.prog.funcs[y8g]?=some Tryz.f98:=Tryz.func98
def y7.r0:jI:=[a1a 1 0,ai 2 0]
def y7.r1:jI:=[ah 9 0 1,ae 10 1 9,av 11 10,a1e 12 11 600,ab 13 12,a12 14 13 1 1,a11 15 13 1 14,a1o 16 13 15,a1i 17 13 16 600,az 18 13 17,ab 19 18,a12 20 19 2 1,a11 21 19 1 20,a1o 22 19 21,a1i 23 19 22 6000,az 24 19 23]
def y7.r2:jI:=[ai 2 4]
def y7.r3:jI:=[ai 3 0]
def y7.r4:jI:=[ab 25 3,ah 26 0 1,ae 27 1 26,av 28 27,ax 29 25 28]
def y7.r5:jI:=[ah 32 0 1,ae 33 1 32,ab 34 3,a10 35 3 33 34,a14 36 3 35,⟨some 37,none,.call ya9 [.t 36]⟩,ab 4 37]
def y7.r6:jI:=[ab 38 4,a1c 39 38 0]
def y7.r7:jI:=[ab 40 4,ab 2 40]
def y7.r8:jI:=[ab 41 3,a1e 42 41 0,ab 43 42,a16 44 43 0 1,a15 45 43 1 44,am 46 43 3,a2e 47 43 46 1,a1r 48 43 3 45 47,a16 49 43 0 48,a15 50 43 1 49,a16 51 43 0 1,a15 52 43 1 51,am 53 43 3,a1r 54 43 3 52 53,a16 55 43 0 54,a15 56 43 1 55,⟨some 57,(some (43,true)),.op (.bin .geq (.t 50) (.t 56))⟩,aq 58 43 57]
def y7.r9:jI:=[ai 2 13]
def y7.r10:jI:=[ab 30 3,ay 31 30 1,ab 3 31]
def y7.l0:ACode:=.seq (jJ [1,3,29] y7.r4 (.post [1,3] (.cond (.t 29) (.skip) (.exit 0)))) (.seq (.post [1,3] (.block 1 (jJ [1,3,4] y7.r5 (.seq (jJ [1,3,4,39] y7.r6 (.post [1,3] (.cond (.t 39) (jJ [2] y7.r7 (.ret)) (.skip)))) (.seq (.post [1,3,58] (.draw [0,1,3,7,15,7,39,127,255,511,7,1031,7,7175,15367,31751,65535,131071] y7.r8)) (.post [1,3] (.cond (.t 58) (jJ [2] y7.r9 (.ret)) (.skip)))))))) (jK [1,3] y7.r10))
def y7.r11:jI:=[ai 5 0]
def y7.r12:jI:=[ab 59 5,ah 60 1 1,ae 61 1 60,av 62 61,ax 63 59 62]
def y7.r13:jI:=[ah 66 1 1,ae 67 1 66,ab 68 5,a10 69 3 67 68,a14 70 3 69,⟨some 71,none,.call y9k [.t 70]⟩,ab 6 71]
def y7.r14:jI:=[ab 72 6,a1c 73 72 0]
def y7.r15:jI:=[ab 74 6,ab 2 74]
def y7.r16:jI:=[ab 75 5,a1e 76 75 0,ab 77 76,a16 78 77 1 1,a15 79 77 1 78,am 80 77 5,a2e 81 77 80 1,a1r 82 77 3 79 81,a16 83 77 0 82,a15 84 77 1 83,a16 85 77 1 1,a15 86 77 1 85,am 87 77 5,a1r 88 77 3 86 87,a16 89 77 0 88,a15 90 77 1 89,⟨some 91,(some (77,true)),.op (.bin .geq (.t 84) (.t 90))⟩,aq 92 77 91]
def y7.r17:jI:=[ai 2 13]
def y7.r18:jI:=[ab 64 5,ay 65 64 1,ab 5 65]
def y7.l1:ACode:=.seq (jJ [1,5,63] y7.r12 (.post [1,5] (.cond (.t 63) (.skip) (.exit 2)))) (.seq (.post [1,5] (.block 3 (jJ [1,5,6] y7.r13 (.seq (jJ [1,5,6,73] y7.r14 (.post [1,5] (.cond (.t 73) (jJ [2] y7.r15 (.ret)) (.skip)))) (.seq (.post [1,5,92] (.draw [0,1,3,7,15,7,39,127,255,511,7,1031,7,7175,15367,31751,65535,131071] y7.r16)) (.post [1,5] (.cond (.t 92) (jJ [2] y7.r17 (.ret)) (.skip)))))))) (jK [1,5] y7.r18))
def y7.r19:jI:=[ai 7 0]
def y7.r20:jI:=[ab 93 7,ah 94 2 1,ae 95 1 94,av 96 95,ax 97 93 96]
def y7.r21:jI:=[ah 100 2 1,ae 101 1 100,ab 102 7,a10 103 6 101 102,a14 104 6 103,⟨some 105,none,.call yc4 [.t 104]⟩,ab 8 105]
def y7.r22:jI:=[ab 106 8,a1c 107 106 0]
def y7.r23:jI:=[ab 108 8,ab 2 108]
def y7.r24:jI:=[ab 109 7,a1e 110 109 0,ab 111 110,a16 112 111 2 1,a15 113 111 1 112,am 114 111 7,a2e 115 111 114 1,a1r 116 111 6 113 115,a1h 117 111 6 116,a16 118 111 2 1,a15 119 111 1 118,am 120 111 7,a1r 121 111 6 119 120,a1h 122 111 6 121,⟨some 123,(some (111,true)),.call y8g [.t 117,.t 122]⟩,a2w 124 111 123 0,aq 125 111 124]
def y7.r25:jI:=[ai 2 13]
def y7.r26:jI:=[ab 98 7,ay 99 98 1,ab 7 99]
def y7.l2:ACode:=.seq (jJ [1,7,97] y7.r20 (.post [1,7] (.cond (.t 97) (.skip) (.exit 4)))) (.seq (.post [1,7] (.block 5 (jJ [1,7,8] y7.r21 (.seq (jJ [1,7,8,107] y7.r22 (.post [1,7] (.cond (.t 107) (jJ [2] y7.r23 (.ret)) (.skip)))) (.seq (.post [1,7,125] (.draw [0,1,3,7,15,7,39,127,255,7,519,7,3591,7687,16383,32767,65535] y7.r24)) (.post [1,7] (.cond (.t 125) (jJ [2] y7.r25 (.ret)) (.skip)))))))) (jK [1,7] y7.r26))
def y7.r27:jI:=[ai 2 0]
def y7:AFunc:=⟨126,[.t 2],jJ [1] y7.r0 (.seq (jJ [1,24] y7.r1 (.post [1] (.cond (.t 24) (jJ [2] y7.r2 (.ret)) (.skip)))) (.seq (jJ [1,3] y7.r3 (.post [1] (.block 0 (.loop y7.l0)))) (.seq (jJ [1,5] y7.r11 (.post [1] (.block 2 (.loop y7.l1)))) (.seq (jJ [1,7] y7.r19 (.post [] (.block 4 (.loop y7.l2)))) (jJ [2] y7.r27 (.ret))))))⟩
theorem y7.ok:y1x Tryz.prog Tryz.f41 y7=true:=by kernel_rfl
theorem y7.at:Tryz.prog.funcs[yav]?=some Tryz.f41:=Tryz.func41
def y3e.r0:jI:=[ap 2]
def y3e.r1:jI:=[ai 3 1]
def y3e.r2:jI:=[ab 4 3,ab 5 0,av 6 5,ax 7 4 6]
def y3e.r3:jI:=[ab 10 0,ab 11 3,a10 12 1 10 11,ae 13 1 12,ab 14 0,ab 15 3,a30 16 15 1,a10 17 1 14 16,ae 18 1 17,⟨some 19,none,.op (.bin .leq (.t 13) (.t 18))⟩]
def y3e.r4:jI:=[ap 2]
def y3e.r5:jI:=[ab 8 3,ay 9 8 1,ab 3 9]
def y3e.l0:ACode:=.seq (jJ [0,3,7] y3e.r2 (.post [0,3] (.cond (.t 7) (.skip) (.exit 0)))) (.seq (.post [0,3] (.block 1 (.seq (.post [0,3,19] (.draw [0,0,3,7,0,0,32,112,240,511] y3e.r3)) (.post [0,3] (.cond (.t 19) (jJ [2] y3e.r4 (.ret)) (.skip)))))) (jK [0,3] y3e.r5))
def y3e.r6:jI:=[a1g 2]
def y3e:AFunc:=⟨20,[.t 2],jJ [0] y3e.r0 (.seq (jJ [0,3] y3e.r1 (.post [] (.block 0 (.loop y3e.l0)))) (jJ [2] y3e.r6 (.ret)))⟩
theorem y3e.at:Tryz.prog.funcs[y98]?=some Tryz.f42:=Tryz.func42
def y16.r0:jI:=[a1a 2 0,ap 4]
def y16.r1:jI:=[ai 5 0]
def y16.r2:jI:=[ab 7 5,ah 8 0 2,ae 9 1 8,av 10 9,ax 11 7 10]
def y16.r3:jI:=[ah 14 0 2,ae 15 1 14,ab 16 5,a10 17 3 15 16,ah 18 0 17,ae 19 1 18,ab 20 1,a2g 21 19 20]
def y16.r4:jI:=[a1g 4]
def y16.r5:jI:=[ab 12 5,ay 13 12 1,ab 5 13]
def y16.l0:ACode:=.seq (jJ [1,2,5,11] y16.r2 (.post [1,2,5] (.cond (.t 11) (.skip) (.exit 0)))) (.seq (.post [1,2,5] (.block 1 (jJ [1,2,5,21] y16.r3 (.post [1,2,5] (.cond (.t 21) (jJ [4] y16.r4 (.ret)) (.skip)))))) (jK [1,2,5] y16.r5))
def y16.r6:jI:=[ai 6 0]
def y16.r7:jI:=[ab 22 6,ah 23 1 2,ae 24 1 23,av 25 24,ax 26 22 25]
def y16.r8:jI:=[ah 29 1 2,ae 30 1 29,ab 31 6,a10 32 3 30 31,ah 33 0 32,ae 34 1 33,ab 35 1,a2g 36 34 35]
def y16.r9:jI:=[a1g 4]
def y16.r10:jI:=[ab 27 6,ay 28 27 1,ab 6 28]
def y16.l1:ACode:=.seq (jJ [1,2,6,26] y16.r7 (.post [1,2,6] (.cond (.t 26) (.skip) (.exit 2)))) (.seq (.post [1,2,6] (.block 3 (jJ [1,2,6,36] y16.r8 (.post [1,2,6] (.cond (.t 36) (jJ [4] y16.r9 (.ret)) (.skip)))))) (jK [1,2,6] y16.r10))
def y16.r11:jI:=[ap 4]
def y16:AFunc:=⟨37,[.t 4],jJ [1,2] y16.r0 (.seq (jJ [1,2,5] y16.r1 (.post [1,2] (.block 0 (.loop y16.l0)))) (.seq (jJ [1,2,6] y16.r6 (.post [] (.block 2 (.loop y16.l1)))) (jJ [4] y16.r11 (.ret))))⟩
theorem y16.ok:y1x Tryz.prog Tryz.f43 y16=true:=by kernel_rfl
theorem y16.at:Tryz.prog.funcs[yas]?=some Tryz.f43:=Tryz.func43
def y24.r0:jI:=[ai 4 0]
def y24.r1:jI:=[ai 5 0]
def y24.r2:jI:=[ab 6 5,ab 7 0,av 8 7,ax 9 6 8]
def y24.r3:jI:=[ab 12 0,ab 13 5,a10 14 1 12 13,ae 15 1 14,ab 16 1,a2g 17 15 16]
def y24.r4:jI:=[ab 18 5,ab 4 18]
def y24.r5:jI:=[ab 10 5,ay 11 10 1,ab 5 11]
def y24.l0:ACode:=.seq (jJ [0,1,5,9] y24.r2 (.post [0,1,5] (.cond (.t 9) (.skip) (.exit 0)))) (.seq (.post [0,1,5] (.block 1 (jJ [0,1,5,17] y24.r3 (.post [0,1,5] (.cond (.t 17) (jJ [4] y24.r4 (.ret)) (.skip)))))) (jK [0,1,5] y24.r5))
def y24.r6:jI:=[ai 4 (-1)]
def y24:AFunc:=⟨19,[.t 4],jJ [0,1] y24.r0 (.seq (jJ [0,1,5] y24.r1 (.post [] (.block 0 (.loop y24.l0)))) (jJ [4] y24.r6 (.ret)))⟩
theorem y24.ok:y1x Tryz.prog Tryz.f44 y24=true:=by kernel_rfl
theorem y24.at:Tryz.prog.funcs[yaa]?=some Tryz.f44:=Tryz.func44
def y6.r0:jI:=[a1a 1 0,ai 2 0]
def y6.r1:jI:=[ah 9 0 1,ae 10 1 9,⟨some 11,none,.call y8p [.t 10]⟩,a1d 12 11]
def y6.r2:jI:=[ai 2 11]
def y6.r3:jI:=[ah 13 4 1,a14 14 3 13,⟨some 15,none,.call yav [.t 14]⟩,ab 3 15]
def y6.r4:jI:=[ab 16 3,a1c 17 16 0]
def y6.r5:jI:=[ab 18 3,ab 2 18]
def y6.r6:jI:=[ai 4 0]
def y6.r7:jI:=[ab 19 4,a27 20 19 2]
def y6.r8:jI:=[ah 23 1 1,ae 24 1 23,ah 25 2 1,ae 26 1 25,⟨some 27,none,.op (.bfz 2 1 [.sl none 0 0] [(0,1,.t 24),(1,1,.t 26)])⟩,ab 28 4,a10 29 1 27 28,ae 30 1 29,ab 5 30]
def y6.r9:jI:=[ab 31 5,⟨some 32,none,.call y98 [.t 31]⟩,a1d 33 32]
def y6.r10:jI:=[ai 2 13]
def y6.r11:jI:=[ai 6 0]
def y6.r12:jI:=[ab 34 6,ab 35 5,av 36 35,ax 37 34 36]
def y6.r13:jI:=[ah 40 4 1,a14 41 3 40,ab 42 5,ab 43 6,a10 44 1 42 43,ae 45 1 44,⟨some 46,none,.call yas [.t 41,.t 45]⟩,a1d 47 46]
def y6.r14:jI:=[ai 2 7]
def y6.r15:jI:=[ab 38 6,ay 39 38 1,ab 6 39]
def y6.l1:ACode:=.seq (jJ [1,4,5,6,37] y6.r12 (.post [1,4,5,6] (.cond (.t 37) (.skip) (.exit 2)))) (.seq (.post [1,4,5,6] (.block 3 (.seq (.post [1,4,5,6,47] (.draw [0,1,0,0,12,28,63,127] y6.r13)) (.post [1,4,5,6] (.cond (.t 47) (jJ [2] y6.r14 (.ret)) (.skip)))))) (jK [1,4,5,6] y6.r15))
def y6.r16:jI:=[ab 21 4,ay 22 21 1,ab 4 22]
def y6.l0:ACode:=.seq (jJ [1,4,20] y6.r7 (.post [1,4] (.cond (.t 20) (.skip) (.exit 0)))) (.seq (.post [1,4] (.block 1 (jJ [1,4,5] y6.r8 (.seq (jJ [1,4,5,33] y6.r9 (.post [1,4,5] (.cond (.t 33) (jJ [2] y6.r10 (.ret)) (.skip)))) (jJ [1,4,5,6] y6.r11 (.post [1,4] (.block 2 (.loop y6.l1)))))))) (jK [1,4] y6.r16))
def y6.r17:jI:=[ai 7 0]
def y6.r18:jI:=[ab 48 7,ah 49 1 1,ae 50 1 49,av 51 50,ax 52 48 51]
def y6.r19:jI:=[ah 55 2 1,ae 56 1 55,ah 57 1 1,ae 58 1 57,ab 59 7,a10 60 1 58 59,ae 61 1 60,⟨some 62,none,.call yaa [.t 56,.t 61]⟩,a1k 63 62 0]
def y6.r20:jI:=[ai 2 8]
def y6.r21:jI:=[ab 53 7,ay 54 53 1,ab 7 54]
def y6.l2:ACode:=.seq (jJ [1,7,52] y6.r18 (.post [1,7] (.cond (.t 52) (.skip) (.exit 4)))) (.seq (.post [1,7] (.block 5 (.seq (.post [1,7,63] (.draw [0,1,0,4,0,28,60,127,255] y6.r19)) (.post [1,7] (.cond (.t 63) (jJ [2] y6.r20 (.ret)) (.skip)))))) (jK [1,7] y6.r21))
def y6.r22:jI:=[ah 64 3 1,ae 65 1 64,av 66 65,a1e 67 66 6000]
def y6.r23:jI:=[ai 2 4]
def y6.r24:jI:=[ah 68 3 1,ae 69 1 68,⟨some 70,none,.call y98 [.t 69]⟩,a1d 71 70]
def y6.r25:jI:=[ai 2 13]
def y6.r26:jI:=[ai 8 0]
def y6.r27:jI:=[ab 72 8,ah 73 3 1,ae 74 1 73,av 75 74,ax 76 72 75]
def y6.r28:jI:=[ah 79 3 1,ae 80 1 79,ab 81 8,a10 82 1 80 81,ae 83 1 82,⟨some 84,none,.call y7i [.t 83]⟩,a1d 85 84]
def y6.r29:jI:=[ai 2 11]
def y6.r30:jI:=[ab 77 8,ay 78 77 1,ab 8 78]
def y6.l3:ACode:=.seq (jJ [1,8,76] y6.r27 (.post [1,8] (.cond (.t 76) (.skip) (.exit 6)))) (.seq (.post [1,8] (.block 7 (jJ [1,8,85] y6.r28 (.post [1,8] (.cond (.t 85) (jJ [2] y6.r29 (.ret)) (.skip)))))) (jK [1,8] y6.r30))
def y6.r31:jI:=[ai 2 0]
def y6:AFunc:=⟨86,[.t 2],jJ [1] y6.r0 (.seq (jJ [1,12] y6.r1 (.post [1] (.cond (.t 12) (jJ [2] y6.r2 (.ret)) (.skip)))) (jJ [1,3] y6.r3 (.seq (jJ [1,3,17] y6.r4 (.post [1] (.cond (.t 17) (jJ [2] y6.r5 (.ret)) (.skip)))) (.seq (jJ [1,4] y6.r6 (.post [1] (.block 0 (.loop y6.l0)))) (.seq (jJ [1,7] y6.r17 (.post [1] (.block 4 (.loop y6.l2)))) (.seq (jJ [1,67] y6.r22 (.post [1] (.cond (.t 67) (jJ [2] y6.r23 (.ret)) (.skip)))) (.seq (jJ [1,71] y6.r24 (.post [1] (.cond (.t 71) (jJ [2] y6.r25 (.ret)) (.skip)))) (.seq (jJ [1,8] y6.r26 (.post [] (.block 6 (.loop y6.l3)))) (jJ [2] y6.r31 (.ret))))))))))⟩
theorem y6.ok:y1x Tryz.prog Tryz.f13 y6=true:=by kernel_rfl
theorem y6.at:Tryz.prog.funcs[yat]?=some Tryz.f13:=Tryz.func13
def y42.r0:jI:=[a17 2,ap 3]
def y42.r1:jI:=[ab 5 0,a1b 6 5,a27 7 6 3]
def y42.r2:jI:=[a17 2,ap 3]
def y42.r3:jI:=[ab 8 0,ab 9 0,a1b 10 9,a30 11 10 3,a24 12 8 11,ab 4 12]
def y42.r4:jI:=[ab 13 4,⟨some 14,none,.call yf0 [.t 13]⟩,ab 15 0,a23 16 14 15]
def y42.r5:jI:=[a17 2,ap 3]
def y42.r6:jI:=[ab 17 4,ab 2 17,a1g 3]
def y42:AFunc:=⟨18,[.t 2,.t 3],jJ [0] y42.r0 (.seq (jJ [0,7] y42.r1 (.post [0] (.cond (.t 7) (jJ [2,3] y42.r2 (.ret)) (.skip)))) (jJ [0,4] y42.r3 (.seq (jJ [4,16] y42.r4 (.post [4] (.cond (.t 16) (jJ [2,3] y42.r5 (.ret)) (.skip)))) (jJ [2,3] y42.r6 (.ret)))))⟩
theorem y42.ok:y1x Tryz.prog Tryz.f34 y42=true:=by kernel_rfl
theorem y42.at:Tryz.prog.funcs[ygx]?=some Tryz.f34:=Tryz.func34
def y2i.r0:jI:=[ap 4]
def y2i.r1:jI:=[ab 5 0,a1b 6 5,ab 7 1,a1b 8 7,a3d 9 6 8,ab 10 9,am 11 10 0,am 12 10 1,a1u 13 10 12,⟨some 14,(some (10,true)),.op (.sls (.t 11) none (some (.t 13)))⟩,am 15 10 1,a2n 16 10 14 15,aq 17 10 16,ab 4 17]
def y2i:AFunc:=⟨18,[.t 4],jJ [0,1] y2i.r0 (jJ [4] y2i.r1 (.ret))⟩
theorem y2i.ok:y1x Tryz.prog Tryz.f165 y2i=true:=by kernel_rfl
theorem y2i.at:Tryz.prog.funcs[y64]?=some Tryz.f165:=Tryz.func165
def y1t.r0:jI:=[a17 4,ap 5]
def y1t.r1:jI:=[ab 6 0,ab 7 1,⟨some 8,none,.call y64 [.t 6,.t 7]⟩,a1d 9 8]
def y1t.r2:jI:=[ab 10 0,ab 4 10,ap 5]
def y1t.r3:jI:=[ab 11 0,ab 12 1,a1b 13 12,a2d 14 11 13,ab 4 14,a1g 5]
def y1t:AFunc:=⟨15,[.t 4,.t 5],jJ [0,1] y1t.r0 (.seq (jJ [0,1,9] y1t.r1 (.post [0,1] (.cond (.t 9) (jJ [4,5] y1t.r2 (.ret)) (.skip)))) (jJ [4,5] y1t.r3 (.ret)))⟩
theorem y1t.ok:y1x Tryz.prog Tryz.f110 y1t=true:=by kernel_rfl
theorem y1t.at:Tryz.prog.funcs[y65]?=some Tryz.f110:=Tryz.func110
def y47.r0:jI:=[a17 4,ap 5]
def y47.r1:jI:=[ab 6 0,ab 7 1,⟨some 8,none,.call y65 [.t 6,.t 7]⟩,aj 9 0 8,aj 10 1 8,ab 4 9,ab 5 10]
def y47:AFunc:=⟨11,[.t 4,.t 5],jJ [0,1] y47.r0 (jJ [4,5] y47.r1 (.ret))⟩
theorem y47.ok:y1x Tryz.prog Tryz.f53 y47=true:=by kernel_rfl
theorem y47.at:Tryz.prog.funcs[y9z]?=some Tryz.f53:=Tryz.func53
def y5m.r0:jI:=[a28 2]
def y5m.r1:jI:=[ab 3 0,⟨some 4,none,.op (.build [.s [],.i .i64 0,.i .i64 0] [(0,1,.t 3)])⟩,a1v 5 4,ab 2 5]
def y5m:AFunc:=⟨6,[.t 2],jJ [0] y5m.r0 (jJ [2] y5m.r1 (.ret))⟩
theorem y5m.ok:y1x Tryz.prog Tryz.f54 y5m=true:=by kernel_rfl
theorem y5m.at:Tryz.prog.funcs[yck]?=some Tryz.f54:=Tryz.func54
def ye.r0:jI:=[ai 2 0,ai 3 0,ai 4 0]
def ye.r1:jI:=[ai 5 0]
def ye.r2:jI:=[ab 8 0,a13 9 8,ah 10 0 9,ae 11 1 10,ab 12 0,a13 13 12,ah 14 1 13,ae 15 1 14,ab 16 0,a13 17 16,ah 18 0 17,ae 19 1 18,a1b 20 19,ab 21 0,a13 22 21,ah 23 1 22,ae 24 1 23,ay 25 24 5,⟨some 26,none,.op (.mn [.t 20,.t 25])⟩,⟨some 27,none,.op (.sls (.t 11) (some (.t 15)) (some (.t 26)))⟩,⟨some 28,none,.op (.s2b (.t 27))⟩,av 29 28,ai 30 0]
def ye.r3:jI:=[ax 31 30 29]
def ye.r4:jI:=[ab 32 30,a10 33 1 28 30,ae 34 1 33,ab 6 32,ab 7 34]
def ye.r5:jI:=[ab 35 6,a18 36 35 4,ab 37 36,am 38 37 7,⟨some 39,(some (37,true)),.op (.bin .gtr (.t 38) (.c (.i .u8 1)))⟩,aq 40 37 39]
def ye.r6:jI:=[ai 2 0,ai 3 0,ai 4 2]
def ye.r7:jI:=[ab 41 5,ab 42 7,⟨some 43,none,.op (.bin .and (.t 42) (.c (.i .u8 127)))⟩,a3h 44 43,ab 45 6,a35 46 7 45,⟨some 47,none,.op (.bin .shl (.t 44) (.t 46))⟩,⟨some 48,none,.op (.bin .or (.t 41) (.t 47))⟩,ab 5 48]
def ye.r8:jI:=[ab 53 7,⟨some 54,none,.op (.bin .and (.t 53) (.c (.i .u8 128)))⟩,⟨some 55,none,.op (.bin .neq (.t 54) (.c (.i .u8 0)))⟩,ab 52 55]
def ye.r9:jI:=[ab 57 7,a29 58 57 0,ab 59 58,am 60 59 6,a3a 61 59 60 0,aq 62 59 61,ab 56 62]
def ye.r10:jI:=[ai 2 0,ai 3 0,ai 4 3]
def ye.r11:jI:=[ab 64 5,a1e 65 64 268435456,ab 63 65]
def ye.r12:jI:=[ai 2 0,ai 3 0,ai 4 2]
def ye.r13:jI:=[ab 49 5,ab 50 6,ay 51 50 1,ab 2 49,ab 3 51,ai 4 0]
def ye.r14:jI:=[ay 66 30 1,ab 30 66]
def ye.l0:ACode:=jJ [5,28,29,30,31] ye.r3 (.seq (.post [5,28,29,30] (.cond (.t 31) (.skip) (.exit 0))) (.seq (.post [5,28,29,30] (.block 1 (jJ [5,6,7,28,29,30] ye.r4 (.seq (jJ [5,6,7,28,29,30,40] ye.r5 (.post [5,6,7,28,29,30] (.cond (.t 40) (jJ [2,3,4] ye.r6 (.ret)) (.skip)))) (jJ [5,6,7,28,29,30] ye.r7 (.post [5,28,29,30] (.block 2 (jJ [5,6,7,28,29,30,52] ye.r8 (.post [5,28,29,30] (.cond (.t 52) (.skip) (jJ [5,6,56] ye.r9 (.post [5,28,29,30] (.cond (.t 56) (jJ [2,3,4] ye.r10 (.ret)) (jJ [5,6,63] ye.r11 (.post [5,28,29,30] (.cond (.t 63) (jJ [2,3,4] ye.r12 (.ret)) (jJ [2,3,4] ye.r13 (.ret)))))))))))))))))) (jK [5,28,29,30] ye.r14)))
def ye.r15:jI:=[ai 2 0,ai 3 0,ai 4 1]
def ye:AFunc:=⟨67,[.t 2,.t 3,.t 4],jJ [0] ye.r0 (jJ [0,5] ye.r1 (.seq (.seq (.post [5,28,29,30] (.draw [0,1,3,7,0,16,48,112,0,256,768,1792,3840,0,8192,24576,57344,122880,261888,524287,1048575,2097151,0] ye.r2)) (.post [] (.block 0 (.loop ye.l0)))) (jJ [2,3,4] ye.r15 (.ret))))⟩
theorem ye.ok:y1x Tryz.prog Tryz.f166 ye=true:=by kernel_rfl
theorem ye.at:Tryz.prog.funcs[y9l]?=some Tryz.f166:=Tryz.func166
def yv.r0:jI:=[ai 4 0,a17 5]
def yv.r1:jI:=[ab 10 0,a13 11 10,ah 12 2 11,ae 13 1 12,a1c 14 13 0]
def yv.r2:jI:=[ai 4 0,a17 5]
def yv.r3:jI:=[ab 16 0,⟨some 17,none,.call y9l [.t 16]⟩,ab 15 17,aj 18 0 15,aj 19 1 15,aj 20 2 15,ab 6 18,ab 7 19,ab 8 20]
def yv.r4:jI:=[ab 21 8,a18 22 21 0,ab 23 22,am 24 23 1,am 25 23 6,⟨some 26,(some (23,true)),.callv (.t 24) [.t 25]⟩,am 27 23 0,a3j 28 23 27,a16 29 23 0 28,a15 30 23 1 29,a1u 31 23 30,am 32 23 0,a3j 33 23 32,a16 34 23 1 33,a15 35 23 1 34,⟨some 36,(some (23,true)),.op (.bin .sub (.t 31) (.t 35))⟩,am 37 23 7,⟨some 38,(some (23,true)),.op (.bin .sub (.t 36) (.t 37))⟩,⟨some 39,(some (23,true)),.op (.bin .gtr (.t 26) (.t 38))⟩,aq 40 23 39]
def yv.r5:jI:=[ai 8 1]
def yv.r6:jI:=[ab 41 8,a1c 42 41 0]
def yv.r7:jI:=[ab 43 0,ab 44 8,a13 45 43,ah 46 2 45,ar 1 46 44]
def yv.r8:jI:=[ai 4 0,a17 5]
def yv.r9:jI:=[ab 47 0,a13 48 47,ah 49 1 48,ae 50 1 49,ab 51 7,a1f 52 50 51,ab 9 52]
def yv.r10:jI:=[ab 53 0,ab 54 9,ab 55 1,ab 56 6,a1l 57 55 56,a1f 58 54 57,a13 59 53,ah 60 1 59,ar 1 60 58]
def yv.r11:jI:=[ab 61 6,ab 62 0,a13 63 62,ah 64 0 63,ae 65 1 64,ab 66 9,ab 67 0,a13 68 67,ah 69 1 68,ae 70 1 69,⟨some 71,none,.op (.sls (.t 65) (some (.t 66)) (some (.t 70)))⟩,ab 4 61,ab 5 71]
def yv:AFunc:=⟨72,[.t 4,.t 5],jJ [0,1] yv.r0 (.seq (jJ [0,1,14] yv.r1 (.post [0,1] (.cond (.t 14) (jJ [4,5] yv.r2 (.ret)) (.skip)))) (jJ [0,1,6,7,8] yv.r3 (.seq (.seq (.post [0,1,6,7,8,40] (.draw [0,1,3,7,7,31,7,71,199,455,967,7,2055,6151,14343,32711,7,131015,262143,524287] yv.r4)) (.post [0,1,6,7,8] (.cond (.t 40) (jK [0,1,6,7,8] yv.r5) (.skip)))) (.seq (jJ [0,1,6,7,8,42] yv.r6 (.post [0,1,6,7] (.cond (.t 42) (jJ [] yv.r7 (jJ [4,5] yv.r8 (.ret))) (.skip)))) (jJ [0,1,6,9] yv.r9 (jJ [0,6,9] yv.r10 (.seq (.post [4,5] (.draw [0,0,2,6,14,0,0,64,192,448,1022,1,4095] yv.r11)) (.ret))))))))⟩
theorem yv.ok:y1x Tryz.prog Tryz.f111 yv=true:=by kernel_rfl
theorem yv.at:Tryz.prog.funcs[y7y]?=some Tryz.f111:=Tryz.func111
def y3d.r0:jI:=[ai 2 0]
def y3d.r1:jI:=[ai 2 0]
def y3d:AFunc:=⟨3,[.t 2],jJ [] y3d.r0 (jJ [2] y3d.r1 (.ret))⟩
theorem y3d.ok:y1x Tryz.prog Tryz.f112 y3d=true:=by kernel_rfl
theorem y3d.at:Tryz.prog.funcs[y89]?=some Tryz.f112:=Tryz.func112
def y36.r0:jI:=[ai 2 0]
def y36.r1:jI:=[ab 6 0,⟨some 7,none,.call y7y [.t 6,.c (.fn 112 [])]⟩,ab 5 7,aj 8 0 5,aj 9 1 5,ab 3 8,ab 4 9]
def y36.r2:jI:=[ab 10 3,ab 2 10]
def y36:AFunc:=⟨11,[.t 2],jJ [0] y36.r0 (jJ [3] y36.r1 (jJ [2] y36.r2 (.ret)))⟩
theorem y36.ok:y1x Tryz.prog Tryz.f55 y36=true:=by kernel_rfl
theorem y36.at:Tryz.prog.funcs[y3f]?=some Tryz.f55:=Tryz.func55
def y3o.r0:jI:=[ab 4 0,a13 5 4,ah 6 2 5,ae 7 1 6,a18 8 7 0]
def y3o.r1:jI:=[ab 9 0,ab 10 1,a13 11 9,ah 12 2 11,ar 1 12 10]
def y3o:AFunc:=⟨13,[],jJ [0,1,8] y3o.r0 (.post [] (.cond (.t 8) (jK [] y3o.r1) (.skip)))⟩
theorem y3o.ok:y1x Tryz.prog Tryz.f85 y3o=true:=by kernel_rfl
theorem y3o.at:Tryz.prog.funcs[y4g]?=some Tryz.f85:=Tryz.func85
def y2p.r0:jI:=[ai 2 0,ai 3 0]
def y2p.r1:jI:=[ab 4 0,a13 5 4,ah 6 2 5,ae 7 1 6,a18 8 7 0,ab 9 8,am 10 9 0,a3j 11 9 10,a16 12 9 1 11,a15 13 9 1 12,am 14 9 0,a3j 15 9 14,a16 16 9 0 15,a15 17 9 1 16,a1u 18 9 17,a2q 19 9 13 18,aq 20 9 19]
def y2p.r2:jI:=[ab 21 0,a13 22 21,ah 23 1 22,ae 24 1 23,ab 2 24,ai 3 6]
def y2p.r3:jI:=[ab 25 0,a13 26 25,ah 27 1 26,ae 28 1 27,ab 29 0,a13 30 29,ah 31 2 30,ae 32 1 31,ab 2 28,ab 3 32]
def y2p:AFunc:=⟨33,[.t 2,.t 3],jJ [0] y2p.r0 (.seq (.seq (.post [0,20] (.draw [0,1,3,7,15,31,63,127,255,511,63,1087,3135,7231,15423,32767,65535] y2p.r1)) (.post [0] (.cond (.t 20) (jJ [2,3] y2p.r2 (.ret)) (.skip)))) (.seq (.post [2,3] (.draw [0,1,3,7,0,16,48,112,15,511] y2p.r3)) (.ret)))⟩
theorem y2p.ok:y1x Tryz.prog Tryz.f88 y2p=true:=by kernel_rfl
theorem y2p.at:Tryz.prog.funcs[y5j]?=some Tryz.f88:=Tryz.func88
def y4d.r0:jI:=[ai 2 0]
def y4d.r1:jI:=[ab 6 0,⟨some 7,none,.call y5j [.t 6]⟩,ab 5 7,aj 8 0 5,aj 9 1 5,ab 3 8,ab 4 9]
def y4d.r2:jI:=[ab 10 4,a1c 11 10 6]
def y4d.r3:jI:=[ab 12 4,ab 2 12]
def y4d.r4:jI:=[ai 2 0]
def y4d:AFunc:=⟨13,[.t 2],jJ [0] y4d.r0 (.seq (jJ [4] y4d.r1 (jJ [4,11] y4d.r2 (.post [] (.cond (.t 11) (jJ [2] y4d.r3 (.ret)) (.skip))))) (jJ [2] y4d.r4 (.ret)))⟩
theorem y4d.ok:y1x Tryz.prog Tryz.f56 y4d=true:=by kernel_rfl
theorem y4d.at:Tryz.prog.funcs[yc6]?=some Tryz.f56:=Tryz.func56
def y3y.r0:jI:=[ai 2 0]
def y3y.r1:jI:=[ab 6 0,⟨some 7,none,.call y5j [.t 6]⟩,ab 5 7,aj 8 0 5,aj 9 1 5,ab 3 8,ab 4 9]
def y3y.r2:jI:=[ab 10 4,a1c 11 10 6]
def y3y.r3:jI:=[ab 12 4,ab 2 12]
def y3y.r4:jI:=[ai 2 0]
def y3y:AFunc:=⟨13,[.t 2],jJ [0] y3y.r0 (.seq (jJ [4] y3y.r1 (jJ [4,11] y3y.r2 (.post [] (.cond (.t 11) (jJ [2] y3y.r3 (.ret)) (.skip))))) (jJ [2] y3y.r4 (.ret)))⟩
theorem y3y.ok:y1x Tryz.prog Tryz.f149 y3y=true:=by kernel_rfl
theorem y3y.at:Tryz.prog.funcs[ybd]?=some Tryz.f149:=Tryz.func149
def y3k.r0:jI:=[ai 2 0]
def y3k.r1:jI:=[ab 3 0,ab 2 3]
def y3k:AFunc:=⟨4,[.t 2],jJ [0] y3k.r0 (jJ [2] y3k.r1 (.ret))⟩
theorem y3k.ok:y1x Tryz.prog Tryz.f151 y3k=true:=by kernel_rfl
theorem y3k.at:Tryz.prog.funcs[y8v]?=some Tryz.f151:=Tryz.func151
def y3b.r0:jI:=[a17 2]
def y3b.r1:jI:=[ab 6 0,⟨some 7,none,.call y7y [.t 6,.c (.fn 151 [])]⟩,ab 5 7,aj 8 0 5,aj 9 1 5,ab 3 8,ab 4 9]
def y3b.r2:jI:=[ab 10 4,ab 2 10]
def y3b:AFunc:=⟨11,[.t 2],jJ [0] y3b.r0 (jJ [4] y3b.r1 (jJ [2] y3b.r2 (.ret)))⟩
theorem y3b.ok:y1x Tryz.prog Tryz.f87 y3b=true:=by kernel_rfl
theorem y3b.at:Tryz.prog.funcs[y7z]?=some Tryz.f87:=Tryz.func87
def y2t.r0:jI:=[a17 8,ai 9 0]
def y2t.r1:jI:=[ab 11 1,ab 12 0,a1b 13 12,a2j 14 11 13]
def y2t.r2:jI:=[a17 8,ai 9 2]
def y2t.r3:jI:=[ab 15 0,ab 16 1,a24 17 15 16,ab 18 2,a1f 19 17 18,ab 10 19]
def y2t.r4:jI:=[ab 21 10,a1b 22 21,a1e 23 22 1000,ab 20 23]
def y2t.r5:jI:=[a17 8,ai 9 9]
def y2t.r6:jI:=[ab 25 3,a1d 26 25,ab 27 26,am 28 27 10,am 29 27 0,a3m 30 27 28 29,aq 31 27 30,ab 24 31]
def y2t.r7:jI:=[a17 8,ai 9 13]
def y2t.r8:jI:=[ab 33 0,ab 34 10,⟨some 35,none,.call ybr [.t 33,.t 34]⟩,ab 36 1,a23 37 35 36,ab 32 37]
def y2t.r9:jI:=[a17 8,ai 9 3]
def y2t.r10:jI:=[ab 38 10,ab 8 38,ai 9 0]
def y2t:AFunc:=⟨39,[.t 8,.t 9],jJ [0,1,2,3] y2t.r0 (.seq (jJ [0,1,2,3,14] y2t.r1 (.post [0,1,2,3] (.cond (.t 14) (jJ [8,9] y2t.r2 (.ret)) (.skip)))) (jJ [0,1,3,10] y2t.r3 (.seq (.post [10] (.block 0 (jJ [0,1,3,10,20] y2t.r4 (.post [10] (.cond (.t 20) (jJ [8,9] y2t.r5 (.ret)) (jJ [0,1,10,24] y2t.r6 (.post [10] (.cond (.t 24) (jJ [8,9] y2t.r7 (.ret)) (jJ [10,32] y2t.r8 (.post [10] (.cond (.t 32) (jJ [8,9] y2t.r9 (.ret)) (.skip)))))))))))) (jJ [8,9] y2t.r10 (.ret)))))⟩
theorem y2t.ok:y1x Tryz.prog Tryz.f150 y2t=true:=by kernel_rfl
theorem y2t.at:Tryz.prog.funcs[yfn]?=some Tryz.f150:=Tryz.func150
def y19.r0:jI:=[a28 2,ai 3 0]
def y19.r1:jI:=[ab 13 0,⟨some 14,none,.op (.eqk .ptr false (.t 13) (.c (.p none)))⟩]
def y19.r2:jI:=[a28 2,ai 3 7]
def y19.r3:jI:=[⟨some 15,none,.op (.build [.sl none 0 0] [])⟩,a1v 16 15,ab 4 16]
def y19.r4:jI:=[ab 17 0,⟨some 18,none,.call y3f [.t 17]⟩,ab 5 18]
def y19.r5:jI:=[ab 19 5,a1e 20 19 6000]
def y19.r6:jI:=[ab 21 0,⟨some 22,none,.call y4g [.t 21,.c (.i .i64 4)]⟩]
def y19.r7:jI:=[a17 6]
def y19.r8:jI:=[ai 7 0]
def y19.r9:jI:=[ab 23 7,ab 24 5,ax 25 23 24,ab 26 25,am 27 26 0,⟨some 28,(some (26,true)),.call ybd [.t 27]⟩,a1q 29 26 28 0,aq 30 26 29]
def y19.r10:jI:=[ab 33 0,⟨some 34,none,.call y3f [.t 33]⟩,ab 35 0,⟨some 36,none,.call y7z [.t 35]⟩,ab 8 34,ab 9 36]
def y19.r11:jI:=[ab 37 0,⟨some 38,none,.call ybd [.t 37]⟩,a1c 39 38 0]
def y19.r12:jI:=[ab 41 6,ab 42 8,ab 43 9,ab 44 7,a18 45 44 0,⟨some 46,none,.call yfn [.t 41,.t 42,.t 43,.t 45]⟩,ab 40 46,aj 47 0 40,aj 48 1 40,ab 10 47,ab 11 48]
def y19.r13:jI:=[ab 49 0,ab 50 11,⟨some 51,none,.call y4g [.t 49,.t 50]⟩]
def y19.r14:jI:=[ab 52 4,ab 53 4,a13 54 53,ah 55 0 54,ae 56 1 55,ab 57 10,a31 58 1 1 0 1 57,a1w 59 1 16 56 58,a13 60 52,ah 61 0 60,ar 1 61 59]
def y19.r15:jI:=[ab 62 10,ab 6 62]
def y19.r16:jI:=[ab 31 7,ay 32 31 1,ab 7 32]
def y19.l0:ACode:=.seq (jJ [0,4,5,6,7,30] y19.r9 (.post [0,4,5,6,7] (.cond (.t 30) (.skip) (.exit 0)))) (.seq (.post [0,4,5,6,7] (.block 1 (jJ [0,4,5,6,7,8,9] y19.r10 (.seq (jJ [0,4,5,6,7,8,9,39] y19.r11 (.post [0,4,5,6,7,8,9] (.cond (.t 39) (.exit 0) (.skip)))) (jJ [0,4,5,7,10,11] y19.r12 (jJ [0,4,5,7,10] y19.r13 (jJ [0,4,5,7,10] y19.r14 (jK [0,4,5,6,7] y19.r15)))))))) (jK [0,4,5,6,7] y19.r16))
def y19.r17:jI:=[ab 63 0,⟨some 64,none,.call ybd [.t 63]⟩,ab 12 64]
def y19.r18:jI:=[ab 65 12,a1c 66 65 0]
def y19.r19:jI:=[ab 67 12,a28 2,ab 3 67]
def y19.r20:jI:=[ab 68 4,ab 2 68,ai 3 0]
def y19:AFunc:=⟨69,[.t 2,.t 3],jJ [0] y19.r0 (.seq (jJ [0,14] y19.r1 (.post [0] (.cond (.t 14) (jJ [2,3] y19.r2 (.ret)) (.skip)))) (jJ [0,4] y19.r3 (jJ [0,4,5] y19.r4 (.seq (jJ [0,4,5,20] y19.r5 (.post [0,4,5] (.cond (.t 20) (jK [0,4,5] y19.r6) (.skip)))) (jJ [0,4,5,6] y19.r7 (.seq (jJ [0,4,5,6,7] y19.r8 (.post [0,4] (.block 0 (.loop y19.l0)))) (.seq (jJ [4,12] y19.r17 (jJ [4,12,66] y19.r18 (.post [4] (.cond (.t 66) (jJ [2,3] y19.r19 (.ret)) (.skip))))) (jJ [2,3] y19.r20 (.ret)))))))))⟩
theorem y19.ok:y1x Tryz.prog Tryz.f86 y19=true:=by kernel_rfl
theorem y19.at:Tryz.prog.funcs[yfo]?=some Tryz.f86:=Tryz.func86
def y17.r0:jI:=[a28 2,a17 3,ai 4 0]
def y17.r1:jI:=[ab 14 0,⟨some 15,none,.call y9z [.t 14,.c (.s [119,101,102,116])]⟩,ab 13 15,aj 16 0 13,aj 17 1 13,ab 5 16,ab 6 17]
def y17.r2:jI:=[ab 18 6,a1d 19 18]
def y17.r3:jI:=[a28 2,a17 3,ai 4 5]
def y17.r4:jI:=[ab 20 5,⟨some 21,none,.call yck [.t 20]⟩,ab 7 21]
def y17.r5:jI:=[ab 22 7,⟨some 23,none,.call y3f [.t 22]⟩,ab 8 23]
def y17.r6:jI:=[ab 24 8,a1c 25 24 1]
def y17.r7:jI:=[ab 26 7,⟨some 27,none,.call y4g [.t 26,.c (.i .i64 5)]⟩]
def y17.r8:jI:=[ab 28 7,⟨some 29,none,.call yc6 [.t 28]⟩,ab 9 29]
def y17.r9:jI:=[ab 30 9,a1c 31 30 0]
def y17.r10:jI:=[ab 32 9,a28 2,a17 3,ab 4 32]
def y17.r11:jI:=[ab 34 7,⟨some 35,none,.call yfo [.t 34]⟩,ab 33 35,aj 36 0 33,aj 37 1 33,ab 10 36,ab 11 37]
def y17.r12:jI:=[ab 38 11,a1c 39 38 0]
def y17.r13:jI:=[ab 40 11,a28 2,a17 3,ab 4 40]
def y17.r14:jI:=[ab 41 7,⟨some 42,none,.call y7z [.t 41]⟩,ab 12 42]
def y17.r15:jI:=[ab 44 7,⟨some 45,none,.call y5j [.t 44]⟩,ab 43 45,aj 46 0 43,aj 47 1 43,ab 11 47]
def y17.r16:jI:=[ab 48 10,ab 49 12,ab 50 11,ab 2 48,ab 3 49,ab 4 50]
def y17:AFunc:=⟨51,[.t 2,.t 3,.t 4],jJ [0] y17.r0 (jJ [5,6] y17.r1 (.seq (jJ [5,19] y17.r2 (.post [5] (.cond (.t 19) (jJ [2,3,4] y17.r3 (.ret)) (.skip)))) (jJ [7] y17.r4 (.seq (jJ [7,8] y17.r5 (jJ [7,25] y17.r6 (.post [7] (.cond (.t 25) (jK [7] y17.r7) (.skip))))) (.seq (jJ [7,9] y17.r8 (jJ [7,9,31] y17.r9 (.post [7] (.cond (.t 31) (jJ [2,3,4] y17.r10 (.ret)) (.skip))))) (jJ [7,10,11] y17.r11 (.seq (jJ [7,10,11,39] y17.r12 (.post [7,10] (.cond (.t 39) (jJ [2,3,4] y17.r13 (.ret)) (.skip)))) (jJ [7,10,12] y17.r14 (jJ [10,11,12] y17.r15 (jJ [2,3,4] y17.r16 (.ret)))))))))))⟩
theorem y17.ok:y1x Tryz.prog Tryz.f35 y17=true:=by kernel_rfl
theorem y17.at:Tryz.prog.funcs[ycu]?=some Tryz.f35:=Tryz.func35
def y34.r0:jI:=[ap 2]
def y34.r1:jI:=[ab 6 0,a13 7 6,ah 8 0 7,ae 9 1 8,⟨some 10,none,.call y5j [.t 9]⟩,ab 5 10,aj 11 0 5,aj 12 1 5,ab 3 11,ab 4 12]
def y34.r2:jI:=[ab 13 4,a18 14 13 0,ab 15 14,a19 16 15 4,a1s 17 15 16 6,az 18 15 17,ab 2 18]
def y34:AFunc:=⟨19,[.t 2],jJ [0] y34.r0 (jJ [4] y34.r1 (jJ [2] y34.r2 (.ret)))⟩
theorem y34.ok:y1x Tryz.prog Tryz.f152 y34=true:=by kernel_rfl
theorem y34.at:Tryz.prog.funcs[y5a]?=some Tryz.f152:=Tryz.func152
def y3j.r0:jI:=[a17 4,ap 5]
def y3j.r1:jI:=[ab 7 0,⟨some 8,none,.call y7k [.t 7]⟩,ab 6 8]
def y3j.r2:jI:=[ab 9 1,a1k 10 9 0,ab 11 10,am 12 11 1,am 13 11 6,a33 14 11 13,a2q 15 11 12 14,aq 16 11 15]
def y3j.r3:jI:=[ab 17 6,ab 18 1,a10 19 1 17 18,ae 20 1 19,ab 4 20,a1g 5]
def y3j.r4:jI:=[a17 4,ap 5]
def y3j:AFunc:=⟨21,[.t 4,.t 5],jJ [0,1] y3j.r0 (.seq (jJ [1,6] y3j.r1 (jJ [1,6,16] y3j.r2 (.post [] (.cond (.t 16) (jJ [4,5] y3j.r3 (.ret)) (.skip))))) (jJ [4,5] y3j.r4 (.ret)))⟩
theorem y3j.ok:y1x Tryz.prog Tryz.f153 y3j=true:=by kernel_rfl
theorem y3j.at:Tryz.prog.funcs[ycw]?=some Tryz.f153:=Tryz.func153
def y1s.r0:jI:=[a17 2]
def y1s.r1:jI:=[ab 6 0,a13 7 6,ah 8 0 7,ae 9 1 8,⟨some 10,none,.call y3f [.t 9]⟩,ab 3 10]
def y1s.r2:jI:=[ab 11 0,⟨some 12,none,.call y5a [.t 11]⟩,a1d 13 12]
def y1s.r3:jI:=[a17 2]
def y1s.r4:jI:=[ab 15 0,a13 16 15,ah 17 1 16,ae 18 1 17,ab 19 3,⟨some 20,none,.call ycw [.t 18,.t 19]⟩,ab 14 20,aj 21 0 14,aj 22 1 14,ab 4 21,ab 5 22]
def y1s.r5:jI:=[ab 23 5,a1d 24 23]
def y1s.r6:jI:=[ab 25 0,a13 26 25,ah 27 0 26,ae 28 1 27,⟨some 29,none,.call y4g [.t 28,.c (.i .i64 2)]⟩]
def y1s.r7:jI:=[ab 30 4,ab 2 30]
def y1s:AFunc:=⟨31,[.t 2],jJ [0] y1s.r0 (jJ [0,3] y1s.r1 (.seq (jJ [0,3,13] y1s.r2 (.post [0,3] (.cond (.t 13) (jJ [2] y1s.r3 (.ret)) (.skip)))) (jJ [0,4,5] y1s.r4 (.seq (jJ [0,4,24] y1s.r5 (.post [4] (.cond (.t 24) (jK [4] y1s.r6) (.skip)))) (jJ [2] y1s.r7 (.ret))))))⟩
theorem y1s.ok:y1x Tryz.prog Tryz.f89 y1s=true:=by kernel_rfl
theorem y1s.at:Tryz.prog.funcs[y2v]?=some Tryz.f89:=Tryz.func89
def yh.r0:jI:=[a1p 4 0 0]
def yh.r1:jI:=[ab 8 0,a13 9 8,ah 10 0 9,ae 11 1 10,⟨some 12,none,.call y3f [.t 11]⟩,ab 5 12]
def yh.r2:jI:=[ab 13 5,a1e 14 13 6000]
def yh.r3:jI:=[ab 15 0,a13 16 15,ah 17 0 16,ae 18 1 17,⟨some 19,none,.call y4g [.t 18,.c (.i .i64 4)]⟩]
def yh.r4:jI:=[a1p 6 0 0]
def yh.r5:jI:=[ai 7 0]
def yh.r6:jI:=[ab 20 7,ab 21 5,ax 22 20 21,ab 23 22,am 24 23 0,⟨some 25,(some (23,true)),.call y5a [.t 24]⟩,aq 26 23 25]
def yh.r7:jI:=[ab 29 6,ab 30 1,a2r 31 30,a31 32 1 1 0 1 31,a1w 33 1 16 29 32,ab 6 33]
def yh.r8:jI:=[ab 27 7,ay 28 27 1,ab 7 28]
def yh.l0:ACode:=.seq (jJ [0,1,5,6,7,26] yh.r6 (.post [0,1,5,6,7] (.cond (.t 26) (.skip) (.exit 0)))) (.seq (.post [0,1,5,6,7] (.block 1 (jK [0,1,5,6,7] yh.r7))) (jK [0,1,5,6,7] yh.r8))
def yh.r9:jI:=[ab 34 6,ab 4 34]
def yh:AFunc:=⟨35,[.t 4],jJ [0,1] yh.r0 (jJ [0,1,5] yh.r1 (.seq (jJ [0,1,5,14] yh.r2 (.post [0,1,5] (.cond (.t 14) (jK [0,1,5] yh.r3) (.skip)))) (jJ [0,1,5,6] yh.r4 (.seq (jJ [0,1,5,6,7] yh.r5 (.post [6] (.block 0 (.loop yh.l0)))) (jJ [4] yh.r9 (.ret))))))⟩
theorem yh.ok:y1x Tryz.prog Tryz.f90 yh=true:=by kernel_rfl
theorem yh.at:Tryz.prog.funcs[y67]?=some Tryz.f90:=Tryz.func90
def y3c.r0:jI:=[a3e 2 0]
def y3c.r1:jI:=[ab 4 0,a13 5 4,ah 6 0 5,ae 7 1 6,⟨some 8,none,.call y3f [.t 7]⟩,ab 3 8]
def y3c.r2:jI:=[ab 9 3,ab 10 0,⟨some 11,none,.call y2v [.t 10]⟩,⟨some 12,none,.op (.build [.i .i64 0,.s []] [(0,1,.t 9),(1,1,.t 11)])⟩,ar 2 2 12]
def y3c:AFunc:=⟨13,[.cell 2 true 2],jJ [0,2] y3c.r0 (jJ [0,2,3] y3c.r1 (jJ [2] y3c.r2 (.ret)))⟩
theorem y3c.ok:y1x Tryz.prog Tryz.f155 y3c=true:=by kernel_rfl
theorem y3c.at:Tryz.prog.funcs[y81]?=some Tryz.f155:=Tryz.func155
def y1o.r0:jI:=[a1p 4 0 0]
def y1o.r1:jI:=[ab 8 0,a13 9 8,ah 10 0 9,ae 11 1 10,⟨some 12,none,.call y3f [.t 11]⟩,ab 5 12]
def y1o.r2:jI:=[ab 13 5,a1e 14 13 6000]
def y1o.r3:jI:=[ab 15 0,a13 16 15,ah 17 0 16,ae 18 1 17,⟨some 19,none,.call y4g [.t 18,.c (.i .i64 4)]⟩]
def y1o.r4:jI:=[a1p 6 0 0]
def y1o.r5:jI:=[ai 7 0]
def y1o.r6:jI:=[ab 20 7,ab 21 5,ax 22 20 21,ab 23 22,am 24 23 0,⟨some 25,(some (23,true)),.call y5a [.t 24]⟩,aq 26 23 25]
def y1o.r7:jI:=[ab 29 6,ab 30 1,a2r 31 30,⟨some 32,none,.op (.bfz 1 2 [.i .i64 0,.s []] [(0,2,.t 31)])⟩,a1w 33 2 24 29 32,ab 6 33]
def y1o.r8:jI:=[ab 27 7,ay 28 27 1,ab 7 28]
def y1o.l0:ACode:=.seq (jJ [0,1,5,6,7,26] y1o.r6 (.post [0,1,5,6,7] (.cond (.t 26) (.skip) (.exit 0)))) (.seq (.post [0,1,5,6,7] (.block 1 (jK [0,1,5,6,7] y1o.r7))) (jK [0,1,5,6,7] y1o.r8))
def y1o.r9:jI:=[ab 34 6,ab 4 34]
def y1o:AFunc:=⟨35,[.t 4],jJ [0,1] y1o.r0 (jJ [0,1,5] y1o.r1 (.seq (jJ [0,1,5,14] y1o.r2 (.post [0,1,5] (.cond (.t 14) (jK [0,1,5] y1o.r3) (.skip)))) (jJ [0,1,5,6] y1o.r4 (.seq (jJ [0,1,5,6,7] y1o.r5 (.post [6] (.block 0 (.loop y1o.l0)))) (jJ [4] y1o.r9 (.ret))))))⟩
theorem y1o.ok:y1x Tryz.prog Tryz.f154 y1o=true:=by kernel_rfl
theorem y1o.at:Tryz.prog.funcs[ya2]?=some Tryz.f154:=Tryz.func154
def y2b.r0:jI:=[a38 2 0 0]
def y2b.r1:jI:=[ab 4 0,⟨some 5,none,.call y2v [.t 4]⟩,⟨some 6,none,.op (.build [.s [],.s [],.sl none 0 0] [(0,1,.t 5)])⟩,a38 3 0 0,ar 3 3 6]
def y2b.r2:jI:=[ab 7 0,⟨some 8,none,.call y2v [.t 7]⟩,ah 9 1 3,ar 1 9 8]
def y2b.r3:jI:=[ab 10 0,ab 11 0,⟨some 12,none,.op (.mkfb y81 [.t 11])⟩,⟨some 13,none,.call ya2 [.t 10,.t 12]⟩,ah 14 2 3,ar 1 14 13]
def y2b.r4:jI:=[a14 15 3 3,ar 3 2 15]
def y2b:AFunc:=⟨16,[.cell 2 true 3],jJ [0,2] y2b.r0 (jJ [0,2,3] y2b.r1 (jJ [0,2,3] y2b.r2 (jJ [2,3] y2b.r3 (jJ [2] y2b.r4 (.ret)))))⟩
theorem y2b.ok:y1x Tryz.prog Tryz.f92 y2b=true:=by kernel_rfl
theorem y2b.at:Tryz.prog.funcs[y79]?=some Tryz.f92:=Tryz.func92
def y1q.r0:jI:=[a1p 4 0 0]
def y1q.r1:jI:=[ab 8 0,a13 9 8,ah 10 0 9,ae 11 1 10,⟨some 12,none,.call y3f [.t 11]⟩,ab 5 12]
def y1q.r2:jI:=[ab 13 5,a1e 14 13 6000]
def y1q.r3:jI:=[ab 15 0,a13 16 15,ah 17 0 16,ae 18 1 17,⟨some 19,none,.call y4g [.t 18,.c (.i .i64 4)]⟩]
def y1q.r4:jI:=[a1p 6 0 0]
def y1q.r5:jI:=[ai 7 0]
def y1q.r6:jI:=[ab 20 7,ab 21 5,ax 22 20 21,ab 23 22,am 24 23 0,⟨some 25,(some (23,true)),.call y5a [.t 24]⟩,aq 26 23 25]
def y1q.r7:jI:=[ab 29 6,ab 30 1,a2r 31 30,⟨some 32,none,.op (.bfz 1 3 [.s [],.s [],.sl none 0 0] [(0,3,.t 31)])⟩,a1w 33 3 56 29 32,ab 6 33]
def y1q.r8:jI:=[ab 27 7,ay 28 27 1,ab 7 28]
def y1q.l0:ACode:=.seq (jJ [0,1,5,6,7,26] y1q.r6 (.post [0,1,5,6,7] (.cond (.t 26) (.skip) (.exit 0)))) (.seq (.post [0,1,5,6,7] (.block 1 (jK [0,1,5,6,7] y1q.r7))) (jK [0,1,5,6,7] y1q.r8))
def y1q.r9:jI:=[ab 34 6,ab 4 34]
def y1q:AFunc:=⟨35,[.t 4],jJ [0,1] y1q.r0 (jJ [0,1,5] y1q.r1 (.seq (jJ [0,1,5,14] y1q.r2 (.post [0,1,5] (.cond (.t 14) (jK [0,1,5] y1q.r3) (.skip)))) (jJ [0,1,5,6] y1q.r4 (.seq (jJ [0,1,5,6,7] y1q.r5 (.post [6] (.block 0 (.loop y1q.l0)))) (jJ [4] y1q.r9 (.ret))))))⟩
theorem y1q.ok:y1x Tryz.prog Tryz.f91 y1q=true:=by kernel_rfl
theorem y1q.at:Tryz.prog.funcs[yaf]?=some Tryz.f91:=Tryz.func91
def y25.r0:jI:=[a3f 2]
def y25.r1:jI:=[ab 4 0,⟨some 5,none,.call y2v [.t 4]⟩,⟨some 6,none,.op (.build [.s [],.s [],.s []] [(0,1,.t 5)])⟩,a3f 3,ar 3 3 6]
def y25.r2:jI:=[ab 7 0,⟨some 8,none,.call y2v [.t 7]⟩,ah 9 1 3,ar 1 9 8]
def y25.r3:jI:=[ab 10 0,⟨some 11,none,.call y2v [.t 10]⟩,ah 12 2 3,ar 1 12 11]
def y25.r4:jI:=[a14 13 3 3,ar 3 2 13]
def y25:AFunc:=⟨14,[.cell 2 true 3],jJ [0,2] y25.r0 (jJ [0,2,3] y25.r1 (jJ [0,2,3] y25.r2 (jJ [2,3] y25.r3 (jJ [2] y25.r4 (.ret)))))⟩
theorem y25.ok:y1x Tryz.prog Tryz.f94 y25=true:=by kernel_rfl
theorem y25.at:Tryz.prog.funcs[y6j]?=some Tryz.f94:=Tryz.func94
def y1v.r0:jI:=[a1p 4 0 0]
def y1v.r1:jI:=[ab 8 0,a13 9 8,ah 10 0 9,ae 11 1 10,⟨some 12,none,.call y3f [.t 11]⟩,ab 5 12]
def y1v.r2:jI:=[ab 13 5,a1e 14 13 6000]
def y1v.r3:jI:=[ab 15 0,a13 16 15,ah 17 0 16,ae 18 1 17,⟨some 19,none,.call y4g [.t 18,.c (.i .i64 4)]⟩]
def y1v.r4:jI:=[a1p 6 0 0]
def y1v.r5:jI:=[ai 7 0]
def y1v.r6:jI:=[ab 20 7,ab 21 5,ax 22 20 21,ab 23 22,am 24 23 0,⟨some 25,(some (23,true)),.call y5a [.t 24]⟩,aq 26 23 25]
def y1v.r7:jI:=[ab 29 6,ab 30 1,a2r 31 30,⟨some 32,none,.op (.bfz 1 3 [.s [],.s [],.s []] [(0,3,.t 31)])⟩,a1w 33 3 48 29 32,ab 6 33]
def y1v.r8:jI:=[ab 27 7,ay 28 27 1,ab 7 28]
def y1v.l0:ACode:=.seq (jJ [0,1,5,6,7,26] y1v.r6 (.post [0,1,5,6,7] (.cond (.t 26) (.skip) (.exit 0)))) (.seq (.post [0,1,5,6,7] (.block 1 (jK [0,1,5,6,7] y1v.r7))) (jK [0,1,5,6,7] y1v.r8))
def y1v.r9:jI:=[ab 34 6,ab 4 34]
def y1v:AFunc:=⟨35,[.t 4],jJ [0,1] y1v.r0 (jJ [0,1,5] y1v.r1 (.seq (jJ [0,1,5,14] y1v.r2 (.post [0,1,5] (.cond (.t 14) (jK [0,1,5] y1v.r3) (.skip)))) (jJ [0,1,5,6] y1v.r4 (.seq (jJ [0,1,5,6,7] y1v.r5 (.post [6] (.block 0 (.loop y1v.l0)))) (jJ [4] y1v.r9 (.ret))))))⟩
theorem y1v.ok:y1x Tryz.prog Tryz.f93 y1v=true:=by kernel_rfl
theorem y1v.at:Tryz.prog.funcs[yam]?=some Tryz.f93:=Tryz.func93
def y1z.r0:jI:=[a2s 2 0 0 0 0]
def y1z.r1:jI:=[ab 4 0,a13 5 4,ah 6 0 5,ae 7 1 6,⟨some 8,none,.call y3f [.t 7]⟩,⟨some 9,none,.op (.build [.i .i64 0,.s [],.s [],.i .i64 0,.s [],.sl none 0 0] [(0,1,.t 8)])⟩,a2s 3 0 0 0 0,ar 6 3 9]
def y1z.r2:jI:=[ab 10 0,⟨some 11,none,.call y2v [.t 10]⟩,ah 12 1 3,ar 1 12 11]
def y1z.r3:jI:=[ab 13 0,⟨some 14,none,.call y2v [.t 13]⟩,ah 15 2 3,ar 1 15 14]
def y1z.r4:jI:=[ab 16 0,a13 17 16,ah 18 0 17,ae 19 1 18,⟨some 20,none,.call y3f [.t 19]⟩,ah 21 3 3,ar 1 21 20]
def y1z.r5:jI:=[ab 22 0,⟨some 23,none,.call y2v [.t 22]⟩,ah 24 4 3,ar 1 24 23]
def y1z.r6:jI:=[ab 25 0,ab 26 0,⟨some 27,none,.op (.mkfb y2v [.t 26])⟩,⟨some 28,none,.call y67 [.t 25,.t 27]⟩,ah 29 5 3,ar 1 29 28]
def y1z.r7:jI:=[a14 30 6 3,ar 6 2 30]
def y1z:AFunc:=⟨31,[.cell 2 true 6],jJ [0,2] y1z.r0 (jJ [0,2,3] y1z.r1 (jJ [0,2,3] y1z.r2 (jJ [0,2,3] y1z.r3 (jJ [0,2,3] y1z.r4 (jJ [0,2,3] y1z.r5 (jJ [2,3] y1z.r6 (jJ [2] y1z.r7 (.ret))))))))⟩
theorem y1z.ok:y1x Tryz.prog Tryz.f96 y1z=true:=by kernel_rfl
theorem y1z.at:Tryz.prog.funcs[y8k]?=some Tryz.f96:=Tryz.func96
def y1r.r0:jI:=[a1p 4 0 0]
def y1r.r1:jI:=[ab 8 0,a13 9 8,ah 10 0 9,ae 11 1 10,⟨some 12,none,.call y3f [.t 11]⟩,ab 5 12]
def y1r.r2:jI:=[ab 13 5,a1e 14 13 6000]
def y1r.r3:jI:=[ab 15 0,a13 16 15,ah 17 0 16,ae 18 1 17,⟨some 19,none,.call y4g [.t 18,.c (.i .i64 4)]⟩]
def y1r.r4:jI:=[a1p 6 0 0]
def y1r.r5:jI:=[ai 7 0]
def y1r.r6:jI:=[ab 20 7,ab 21 5,ax 22 20 21,ab 23 22,am 24 23 0,⟨some 25,(some (23,true)),.call y5a [.t 24]⟩,aq 26 23 25]
def y1r.r7:jI:=[ab 29 6,ab 30 1,a2r 31 30,⟨some 32,none,.op (.bfz 1 6 [.i .i64 0,.s [],.s [],.i .i64 0,.s [],.sl none 0 0] [(0,6,.t 31)])⟩,a1w 33 6 88 29 32,ab 6 33]
def y1r.r8:jI:=[ab 27 7,ay 28 27 1,ab 7 28]
def y1r.l0:ACode:=.seq (jJ [0,1,5,6,7,26] y1r.r6 (.post [0,1,5,6,7] (.cond (.t 26) (.skip) (.exit 0)))) (.seq (.post [0,1,5,6,7] (.block 1 (jK [0,1,5,6,7] y1r.r7))) (jK [0,1,5,6,7] y1r.r8))
def y1r.r9:jI:=[ab 34 6,ab 4 34]
def y1r:AFunc:=⟨35,[.t 4],jJ [0,1] y1r.r0 (jJ [0,1,5] y1r.r1 (.seq (jJ [0,1,5,14] y1r.r2 (.post [0,1,5] (.cond (.t 14) (jK [0,1,5] y1r.r3) (.skip)))) (jJ [0,1,5,6] y1r.r4 (.seq (jJ [0,1,5,6,7] y1r.r5 (.post [6] (.block 0 (.loop y1r.l0)))) (jJ [4] y1r.r9 (.ret))))))⟩
theorem y1r.ok:y1x Tryz.prog Tryz.f95 y1r=true:=by kernel_rfl
theorem y1r.at:Tryz.prog.funcs[yag]?=some Tryz.f95:=Tryz.func95
def y23.r0:jI:=[a2i 4 0 0 0 0 0 0 0 0 0 0 0 0,ai 5 0]
def y23.r1:jI:=[ab 10 1,⟨some 11,none,.call yck [.t 10]⟩,ab 12 0,⟨some 13,none,.op (.build [.p none,.p none] [(0,1,.t 11),(1,1,.t 12)])⟩,a1v 14 13,ab 6 14]
def y23.r2:jI:=[ab 15 6,⟨some 16,none,.call y2v [.t 15]⟩,⟨some 17,none,.op (.build [.s [],.sl none 0 0,.sl none 0 0,.sl none 0 0,.sl none 0 0,.sl none 0 0,.sl none 0 0] [(0,1,.t 16)])⟩,a2i 7 0 0 0 0 0 0 0 0 0 0 0 0,ar 7 7 17]
def y23.r3:jI:=[ab 18 6,ab 19 6,⟨some 20,none,.op (.mkfb y2v [.t 19])⟩,⟨some 21,none,.call y67 [.t 18,.t 20]⟩,ah 22 1 7,ar 1 22 21]
def y23.r4:jI:=[ab 23 6,ab 24 6,⟨some 25,none,.op (.mkfb y2v [.t 24])⟩,⟨some 26,none,.call y67 [.t 23,.t 25]⟩,ah 27 2 7,ar 1 27 26]
def y23.r5:jI:=[ab 28 6,ab 29 6,⟨some 30,none,.op (.mkfb y2v [.t 29])⟩,⟨some 31,none,.call y67 [.t 28,.t 30]⟩,ah 32 3 7,ar 1 32 31]
def y23.r6:jI:=[ab 33 6,ab 34 6,⟨some 35,none,.op (.mkfb y79 [.t 34])⟩,⟨some 36,none,.call yaf [.t 33,.t 35]⟩,ah 37 4 7,ah 38 0 37,ar 1 38 36]
def y23.r7:jI:=[ab 39 6,ab 40 6,⟨some 41,none,.op (.mkfb y6j [.t 40])⟩,⟨some 42,none,.call yam [.t 39,.t 41]⟩,ah 43 4 7,ah 44 1 43,ar 1 44 42]
def y23.r8:jI:=[ab 45 6,ab 46 6,⟨some 47,none,.op (.mkfb y8k [.t 46])⟩,⟨some 48,none,.call yag [.t 45,.t 47]⟩,ah 49 4 7,ah 50 2 49,ar 1 50 48]
def y23.r9:jI:=[ab 52 6,a13 53 52,ah 54 0 53,ae 55 1 54,⟨some 56,none,.call y5j [.t 55]⟩,ab 51 56,aj 57 0 51,aj 58 1 51,ab 8 57,ab 9 58]
def y23.r10:jI:=[ab 59 9,a1c 60 59 0]
def y23.r11:jI:=[a34 61 0 0 0 0 0 0 0 0 0 0 0 0,ab 62 9,ar 7 4 61,ab 5 62]
def y23.r12:jI:=[a14 63 7 7,ar 7 4 63,ai 5 0]
def y23:AFunc:=⟨64,[.cell 4 true 7,.t 5],jJ [0,1,4] y23.r0 (jJ [4,6] y23.r1 (jJ [4,6,7] y23.r2 (jJ [4,6,7] y23.r3 (jJ [4,6,7] y23.r4 (jJ [4,6,7] y23.r5 (jJ [4,6,7] y23.r6 (jJ [4,6,7] y23.r7 (jJ [4,6,7] y23.r8 (.seq (jJ [4,7,9] y23.r9 (jJ [4,7,9,60] y23.r10 (.post [4,7] (.cond (.t 60) (jJ [4,5] y23.r11 (.ret)) (.skip))))) (jJ [4,5] y23.r12 (.ret)))))))))))⟩
theorem y23.ok:y1x Tryz.prog Tryz.f36 y23=true:=by kernel_rfl
theorem y23.at:Tryz.prog.funcs[yds]?=some Tryz.f36:=Tryz.func36
def y53.r0:jI:=[ai 2 0]
def y53.r1:jI:=[ab 3 0,⟨some 4,none,.call y7k [.t 3]⟩,av 5 4,ab 2 5]
def y53:AFunc:=⟨6,[.t 2],jJ [0] y53.r0 (jJ [2] y53.r1 (.ret))⟩
theorem y53.ok:y1x Tryz.prog Tryz.f37 y53=true:=by kernel_rfl
theorem y53.at:Tryz.prog.funcs[yc8]?=some Tryz.f37:=Tryz.func37
def yp.r0:jI:=[a2i 2 0 0 0 0 0 0 0 0 0 0 0 0,ai 3 0]
def yp.r1:jI:=[ab 10 0,a1b 11 10,a1e 12 11 200000]
def yp.r2:jI:=[a34 13 0 0 0 0 0 0 0 0 0 0 0 0,ar 7 2 13,ai 3 9]
def yp.r3:jI:=[ab 15 0,⟨some 16,none,.call ygx [.t 15]⟩,ab 14 16,aj 17 0 14,aj 18 1 14,ab 4 17,ab 5 18]
def yp.r4:jI:=[ab 19 5,a1d 20 19]
def yp.r5:jI:=[a34 21 0 0 0 0 0 0 0 0 0 0 0 0,ar 7 2 21,ai 3 14]
def yp.r6:jI:=[ab 23 4,⟨some 24,none,.call ycu [.t 23]⟩,ab 22 24,aj 25 0 22,aj 26 1 22,aj 27 2 22,ab 6 25,ab 7 26,ab 8 27]
def yp.r7:jI:=[ab 28 8,a1c 29 28 0]
def yp.r8:jI:=[a34 30 0 0 0 0 0 0 0 0 0 0 0 0,ab 31 8,ar 7 2 30,ab 3 31]
def yp.r9:jI:=[ab 33 6,ab 34 7,⟨some 35,none,.call yds [.t 33,.t 34]⟩,ab 32 35,aj 36 0 32,aj 37 1 32,a2i 9 0 0 0 0 0 0 0 0 0 0 0 0,ar 7 9 36,ab 8 37]
def yp.r10:jI:=[ab 38 8,a18 39 38 0]
def yp.r11:jI:=[a14 40 7 9,⟨some 41,none,.call yae [.t 40]⟩,ab 8 41]
def yp.r12:jI:=[ab 42 8,a18 43 42 0,ab 44 43,a1h 45 44 7 9,⟨some 46,(some (44,true)),.call yb6 [.t 45]⟩,a33 47 44 46,am 48 44 6,⟨some 49,(some (44,true)),.call yc8 [.t 48]⟩,⟨some 50,(some (44,true)),.op (.bin .neq (.t 47) (.t 49))⟩,aq 51 44 50]
def yp.r13:jI:=[ai 8 3]
def yp.r14:jI:=[ab 52 8,a1c 53 52 0]
def yp.r15:jI:=[a34 54 0 0 0 0 0 0 0 0 0 0 0 0,ab 55 8,ar 7 2 54,ab 3 55]
def yp.r16:jI:=[a14 56 7 9,ar 7 2 56,ai 3 0]
def yp:AFunc:=⟨57,[.cell 2 true 7,.t 3],jJ [0,2] yp.r0 (.seq (jJ [0,2,12] yp.r1 (.post [0,2] (.cond (.t 12) (jJ [2,3] yp.r2 (.ret)) (.skip)))) (jJ [2,4,5] yp.r3 (.seq (jJ [2,4,20] yp.r4 (.post [2,4] (.cond (.t 20) (jJ [2,3] yp.r5 (.ret)) (.skip)))) (jJ [2,6,7,8] yp.r6 (.seq (jJ [2,6,7,8,29] yp.r7 (.post [2,6,7] (.cond (.t 29) (jJ [2,3] yp.r8 (.ret)) (.skip)))) (jJ [2,6,8,9] yp.r9 (.seq (jJ [2,6,8,9,39] yp.r10 (.post [2,6,8,9] (.cond (.t 39) (jK [2,6,8,9] yp.r11) (.skip)))) (.seq (jJ [2,8,9,51] yp.r12 (.post [2,8,9] (.cond (.t 51) (jK [2,8,9] yp.r13) (.skip)))) (.seq (jJ [2,8,9,53] yp.r14 (.post [2,9] (.cond (.t 53) (jJ [2,3] yp.r15 (.ret)) (.skip)))) (jJ [2,3] yp.r16 (.ret)))))))))))⟩
theorem yp.ok:y1x Tryz.prog Tryz.f11 yp=true:=by kernel_rfl
theorem yp.at:Tryz.prog.funcs[y8r]?=some Tryz.f11:=Tryz.func11
def y1y.r0:jI:=[ap 4]
def y1y.r1:jI:=[ab 6 0,av 7 6,ab 8 1,av 9 8,a23 10 7 9]
def y1y.r2:jI:=[ap 4]
def y1y.r3:jI:=[ai 5 0]
def y1y.r4:jI:=[ab 11 5,ab 12 0,av 13 12,ax 14 11 13,ab 15 14,am 16 15 5,am 17 15 1,a33 18 15 17,a2q 19 15 16 18,aq 20 15 19]
def y1y.r5:jI:=[ab 23 0,ab 24 5,a10 25 1 23 24,ae 26 1 25,ab 27 1,ab 28 5,a10 29 1 27 28,ae 30 1 29,a23 31 26 30]
def y1y.r6:jI:=[ap 4]
def y1y.r7:jI:=[ab 21 5,ay 22 21 1,ab 5 22]
def y1y.l0:ACode:=.seq (jJ [0,1,5,20] y1y.r4 (.post [0,1,5] (.cond (.t 20) (.skip) (.exit 0)))) (.seq (.post [0,1,5] (.block 1 (.seq (.post [0,1,5,31] (.draw [0,0,3,7,0,0,48,112,255] y1y.r5)) (.post [0,1,5] (.cond (.t 31) (jJ [4] y1y.r6 (.ret)) (.skip)))))) (jK [0,1,5] y1y.r7))
def y1y.r8:jI:=[a1g 4]
def y1y:AFunc:=⟨32,[.t 4],jJ [0,1] y1y.r0 (.seq (jJ [0,1,10] y1y.r1 (.post [0,1] (.cond (.t 10) (jJ [4] y1y.r2 (.ret)) (.skip)))) (.seq (jJ [0,1,5] y1y.r3 (.post [] (.block 0 (.loop y1y.l0)))) (jJ [4] y1y.r8 (.ret))))⟩
theorem y1y.ok:y1x Tryz.prog Tryz.f38 y1y=true:=by kernel_rfl
theorem y1y.at:Tryz.prog.funcs[y8n]?=some Tryz.f38:=Tryz.func38
def y1b.r0:jI:=[a1a 2 0,a1a 3 1,ap 4]
def y1b.r1:jI:=[ah 6 0 2,ae 7 1 6,ah 8 0 3,ae 9 1 8,a23 10 7 9,ab 11 10,a12 12 11 1 2,a11 13 11 1 12,a12 14 11 1 3,a11 15 11 1 14,a2f 16 11 13 15,az 17 11 16,ab 18 17,a12 19 18 2 2,a11 20 18 1 19,a1o 21 18 20,a12 22 18 2 3,a11 23 18 1 22,a1o 24 18 23,a2f 25 18 21 24,az 26 18 25]
def y1b.r2:jI:=[ap 4]
def y1b.r3:jI:=[ai 5 0]
def y1b.r4:jI:=[ab 27 5,ah 28 2 2,ae 29 1 28,av 30 29,ax 31 27 30,ab 32 31,am 33 32 5,a16 34 32 2 3,a15 35 32 1 34,a33 36 32 35,a2q 37 32 33 36,aq 38 32 37]
def y1b.r5:jI:=[ah 41 2 2,ae 42 1 41,ab 43 5,a10 44 2 42 43,a14 45 2 44,ah 46 2 3,ae 47 1 46,ab 48 5,a10 49 2 47 48,a14 50 2 49,⟨some 51,none,.op (.eqa true [0,1] (.t 45) (.t 50))⟩]
def y1b.r6:jI:=[ap 4]
def y1b.r7:jI:=[ab 39 5,ay 40 39 1,ab 5 40]
def y1b.l0:ACode:=.seq (jJ [2,3,5,38] y1b.r4 (.post [2,3,5] (.cond (.t 38) (.skip) (.exit 0)))) (.seq (.post [2,3,5] (.block 1 (.seq (.post [2,3,5,51] (.draw [0,1,0,7,15,0,32,0,224,480,1023] y1b.r5)) (.post [2,3,5] (.cond (.t 51) (jJ [4] y1b.r6 (.ret)) (.skip)))))) (jK [2,3,5] y1b.r7))
def y1b.r8:jI:=[a1g 4]
def y1b:AFunc:=⟨52,[.t 4],jJ [2,3] y1b.r0 (.seq (jJ [2,3,26] y1b.r1 (.post [2,3] (.cond (.t 26) (jJ [4] y1b.r2 (.ret)) (.skip)))) (.seq (jJ [2,3,5] y1b.r3 (.post [] (.block 0 (.loop y1b.l0)))) (jJ [4] y1b.r8 (.ret))))⟩
theorem y1b.ok:y1x Tryz.prog Tryz.f97 y1b=true:=by kernel_rfl
theorem y1b.at:Tryz.prog.funcs[y9y]?=some Tryz.f97:=Tryz.func97
def yj.r0:jI:=[a1a 2 0,a1a 3 1,ap 4]
def yj.r1:jI:=[ah 8 0 2,ae 9 1 8,av 10 9,ah 11 0 3,ae 12 1 11,av 13 12,a23 14 10 13,ab 15 14,a12 16 15 1 2,a11 17 15 1 16,a1o 18 15 17,a12 19 15 1 3,a11 20 15 1 19,a1o 21 15 20,a2f 22 15 18 21,az 23 15 22,ab 24 23,a12 25 24 2 2,a11 26 24 1 25,a1o 27 24 26,a12 28 24 2 3,a11 29 24 1 28,a1o 30 24 29,a2f 31 24 27 30,az 32 24 31]
def yj.r2:jI:=[ap 4]
def yj.r3:jI:=[ai 5 0]
def yj.r4:jI:=[ab 33 5,ah 34 0 2,ae 35 1 34,av 36 35,ax 37 33 36]
def yj.r5:jI:=[ah 40 0 2,ae 41 1 40,ab 42 5,a10 43 3 41 42,a14 44 3 43,ah 45 0 3,ae 46 1 45,ab 47 5,a10 48 3 46 47,a14 49 3 48,⟨some 50,none,.call y9y [.t 44,.t 49]⟩,a1d 51 50]
def yj.r6:jI:=[ap 4]
def yj.r7:jI:=[ab 38 5,ay 39 38 1,ab 5 39]
def yj.l0:ACode:=.seq (jJ [2,3,5,37] yj.r4 (.post [2,3,5] (.cond (.t 37) (.skip) (.exit 0)))) (.seq (.post [2,3,5] (.block 1 (.seq (.post [2,3,5,51] (.draw [0,1,0,7,15,0,32,0,224,480,1023,2047] yj.r5)) (.post [2,3,5] (.cond (.t 51) (jJ [4] yj.r6 (.ret)) (.skip)))))) (jK [2,3,5] yj.r7))
def yj.r8:jI:=[ai 6 0]
def yj.r9:jI:=[ab 52 6,ah 53 1 2,ae 54 1 53,av 55 54,ax 56 52 55]
def yj.r10:jI:=[ah 59 1 2,ae 60 1 59,ab 61 6,a10 62 3 60 61,a14 63 3 62,ah 64 1 3,ae 65 1 64,ab 66 6,a10 67 3 65 66,a14 68 3 67,⟨some 69,none,.op (.eqa true [1,1,1] (.t 63) (.t 68))⟩]
def yj.r11:jI:=[ap 4]
def yj.r12:jI:=[ab 57 6,ay 58 57 1,ab 6 58]
def yj.l1:ACode:=.seq (jJ [2,3,6,56] yj.r9 (.post [2,3,6] (.cond (.t 56) (.skip) (.exit 2)))) (.seq (.post [2,3,6] (.block 3 (.seq (.post [2,3,6,69] (.draw [0,1,0,7,15,0,32,0,224,480,1023] yj.r10)) (.post [2,3,6] (.cond (.t 69) (jJ [4] yj.r11 (.ret)) (.skip)))))) (jK [2,3,6] yj.r12))
def yj.r13:jI:=[ai 7 0]
def yj.r14:jI:=[ab 70 7,ah 71 2 2,ae 72 1 71,av 73 72,ax 74 70 73]
def yj.r15:jI:=[ah 77 2 2,ae 78 1 77,ab 79 7,a10 80 6 78 79,a14 81 6 80,ah 82 2 3,ae 83 1 82,ab 84 7,a10 85 6 83 84,a14 86 6 85,⟨some 87,none,.call y8g [.t 81,.t 86]⟩,a1c 88 87 0]
def yj.r16:jI:=[ap 4]
def yj.r17:jI:=[ab 75 7,ay 76 75 1,ab 7 76]
def yj.l2:ACode:=.seq (jJ [2,3,7,74] yj.r14 (.post [2,3,7] (.cond (.t 74) (.skip) (.exit 4)))) (.seq (.post [2,3,7] (.block 5 (.seq (.post [2,3,7,88] (.draw [0,1,0,7,15,0,32,0,224,480,1023,2047] yj.r15)) (.post [2,3,7] (.cond (.t 88) (jJ [4] yj.r16 (.ret)) (.skip)))))) (jK [2,3,7] yj.r17))
def yj.r18:jI:=[a1g 4]
def yj:AFunc:=⟨89,[.t 4],jJ [2,3] yj.r0 (.seq (jJ [2,3,32] yj.r1 (.post [2,3] (.cond (.t 32) (jJ [4] yj.r2 (.ret)) (.skip)))) (.seq (jJ [2,3,5] yj.r3 (.post [2,3] (.block 0 (.loop yj.l0)))) (.seq (jJ [2,3,6] yj.r8 (.post [2,3] (.block 2 (.loop yj.l1)))) (.seq (jJ [2,3,7] yj.r13 (.post [] (.block 4 (.loop yj.l2)))) (jJ [4] yj.r18 (.ret))))))⟩
theorem yj.ok:y1x Tryz.prog Tryz.f39 yj=true:=by kernel_rfl
theorem yj.at:Tryz.prog.funcs[ybj]?=some Tryz.f39:=Tryz.func39
def y4j.r0:jI:=[a1a 2 0,a1a 3 1,ap 4]
def y4j.r1:jI:=[ah 5 0 2,ae 6 1 5,ah 7 0 3,ae 8 1 7,a2g 9 6 8,ab 10 9,a16 11 10 1 2,a15 12 10 1 11,a16 13 10 1 3,a15 14 10 1 13,⟨some 15,(some (10,true)),.call y8n [.t 12,.t 14]⟩,aq 16 10 15,ab 17 16,a16 18 17 2 2,a15 19 17 1 18,a16 20 17 2 3,a15 21 17 1 20,⟨some 22,(some (17,true)),.call y8n [.t 19,.t 21]⟩,aq 23 17 22,ab 24 23,a16 25 24 3 2,a15 26 24 1 25,a16 27 24 3 3,a15 28 24 1 27,⟨some 29,(some (24,true)),.call y8n [.t 26,.t 28]⟩,aq 30 24 29,ab 31 30,a16 32 31 4 2,a1h 33 31 3 32,a16 34 31 4 3,a1h 35 31 3 34,⟨some 36,(some (31,true)),.call ybj [.t 33,.t 35]⟩,aq 37 31 36,ab 4 37]
def y4j:AFunc:=⟨38,[.t 4],jJ [2,3] y4j.r0 (jJ [4] y4j.r1 (.ret))⟩
theorem y4j.ok:y1x Tryz.prog Tryz.f12 y4j=true:=by kernel_rfl
theorem y4j.at:Tryz.prog.funcs[y8l]?=some Tryz.f12:=Tryz.func12
end C
end Go.Proofs.YthmkcebbeehbeaaGreatDoor
