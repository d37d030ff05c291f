/- Part 17. -/
import Derived.Test.YtikpijbeobeckaaGreatDoorXFw16
set_option linter.unusedSimpArgs false
set_option linter.unusedVariables false
namespace Go.Proofs.YtikpijbeobeckaaGreatDoor
open Am Go.Proofs
set_option maxRecDepth 100000
namespace C
def y1a.r0:jI:=[a14 2 0,ak 4]
def y1a.r1:jI:=[ac 10 1,⟨some 11,none,.call y6y [.t 10]⟩,ac 9 11,ai 12 0 9,ai 13 1 9,ai 14 2 9,ac 5 12,ac 6 13,ac 7 14]
def y1a.r2:jI:=[ah 8 0]
def y1a.r3:jI:=[ac 15 8,af 16 0 2,ae 17 1 16,aq 18 17,a11 19 15 18,ac 20 19,aj 21 20 7,an 22 20 21]
def y1a.r4:jI:=[af 25 0 2,ae 26 1 25,ac 27 8,al 28 3 26 27,af 29 0 28,ae 30 1 29,ac 31 5,a29 32 30 31]
def y1a.r5:jI:=[ac 33 6,af 34 0 2,ae 35 1 34,ac 36 8,al 37 3 35 36,af 38 1 37,ae 39 1 38,a18 40 39,a11 41 33 40,ac 42 41,az 43 42 0 2,ay 44 42 1 43,aj 45 42 8,a1d 46 42 3 44 45,az 47 42 1 46,ay 48 42 1 47,aj 49 42 6,a2l 50 42 48 49,a38 51 42 50 112,an 52 42 51,ac 4 52]
def y1a.r6:jI:=[ac 23 8,a12 24 23 1,ac 8 24]
def y1a.l0:ACode:=.seq (jJ [2,5,6,7,8,22] y1a.r3 (.post [2,5,6,7,8] (.cond (.t 22) (.skip) (.exit 0)))) (.seq (.post [2,5,6,7,8] (.block 1 (jJ [2,5,6,7,8,32] y1a.r4 (.post [2,5,6,7,8] (.cond (.t 32) (jJ [4] y1a.r5 (.ret)) (.skip)))))) (jK [2,5,6,7,8] y1a.r6))
def y1a.r7:jI:=[ak 4]
def y1a:AFunc:=⟨53,[.t 4],jJ [1,2] y1a.r0 (jJ [2,5,6,7] y1a.r1 (.seq (jJ [2,5,6,7,8] y1a.r2 (.post [] (.block 0 (.loop y1a.l0)))) (jJ [4] y1a.r7 (.ret))))⟩
theorem y1a.ok:y2b Tryz.prog Tryz.f127 y1a=true:=by kernel_rfl
theorem y1a.at:km y6d Tryz.f127:=Tryz.func127
def y20.r0:jI:=[a15 4]
def y20.r1:jI:=[ac 10 0,⟨some 11,none,.call y4b [.t 10]⟩,ac 9 11,ai 12 0 9,ai 13 1 9,a1c 5 0 0 0 0,ap 6 5 12,ac 6 13]
def y20.r2:jI:=[ac 14 6,a19 15 14 0,ac 16 15,ax 17 16 0 5,ar 18 16 1 17,a1m 19 16 18 5,am 20 16 19,ac 21 20,ax 22 21 5 5,ar 23 21 1 22,a1r 24 21 23 (-1),am 25 21 24,ac 26 25,a10 27 26 1,a1m 28 26 27 0,am 29 26 28]
def y20.r3:jI:=[a15 4]
def y20.r4:jI:=[ac 30 1,af 31 5 5,ap 1 31 30]
def y20.r5:jI:=[aw 33 6 5,⟨some 34,none,.call y5s [.t 33]⟩,ac 32 34,ai 35 0 32,ai 36 1 32,ac 7 35,ac 8 36]
def y20.r6:jI:=[ac 37 7,ac 4 37]
def y20:AFunc:=⟨38,[.t 4],jJ [0,1] y20.r0 (jJ [1,5,6] y20.r1 (.seq (jJ [1,5,29] y20.r2 (.post [1,5] (.cond (.t 29) (jJ [4] y20.r3 (.ret)) (.skip)))) (jJ [5] y20.r4 (jJ [7] y20.r5 (jJ [4] y20.r6 (.ret))))))⟩
theorem y20.ok:y2b Tryz.prog Tryz.f143 y20=true:=by kernel_rfl
theorem y20.at:km y9e Tryz.f143:=Tryz.func143
def yw.r0:jI:=[a14 4 0,a15 8]
def yw.r1:jI:=[ac 15 1,⟨some 16,none,.call y6y [.t 15]⟩,ac 14 16,ai 17 0 14,ai 18 1 14,ai 19 2 14,ac 9 17,ac 10 18,ac 11 19]
def yw.r2:jI:=[ah 12 0]
def yw.r3:jI:=[ac 20 12,af 21 0 4,ae 22 1 21,aq 23 22,a11 24 20 23,ac 25 24,aj 26 25 11,an 27 25 26]
def yw.r4:jI:=[af 30 0 4,ae 31 1 30,ac 32 12,al 33 3 31 32,af 34 0 33,ae 35 1 34,ac 36 9,a27 37 35 36]
def yw.r5:jI:=[ah 13 0]
def yw.r6:jI:=[ac 38 13,af 39 0 4,ae 40 1 39,ac 41 12,al 42 3 40 41,af 43 2 42,ae 44 1 43,aq 45 44,a11 46 38 45]
def yw.r7:jI:=[af 49 0 4,ae 50 1 49,ac 51 12,al 52 3 50 51,af 53 2 52,ae 54 1 53,ac 55 13,al 56 2 54 55,af 57 0 56,ae 58 1 57,ac 59 10,a29 60 58 59,ac 61 60,az 62 61 0 4,ay 63 61 1 62,aj 64 61 12,a1d 65 61 3 63 64,az 66 61 2 65,ay 67 61 1 66,aj 68 61 13,a1d 69 61 2 67 68,az 70 61 1 69,ay 71 61 1 70,aj 72 61 2,a3a 73 61 71 72,an 74 61 73,ac 75 74,aj 76 75 10,aj 77 75 3,⟨some 78,(some (75,true)),.op (.bin .add (.t 76) (.t 77))⟩,az 79 75 0 4,ay 80 75 1 79,aj 81 75 12,a1d 82 75 3 80 81,az 83 75 1 82,ay 84 75 1 83,a1v 85 75 84,a1t 86 75 78 85,an 87 75 86]
def yw.r8:jI:=[ac 88 9,ac 89 10,ac 90 3,a17 91 89 90,⟨some 92,none,.call y9e [.t 88,.t 91]⟩,ac 8 92]
def yw.r9:jI:=[ac 47 13,a12 48 47 1,ac 13 48]
def yw.l1:ACode:=.seq (jJ [2,3,4,9,10,11,12,13,46] yw.r6 (.post [2,3,4,9,10,11,12,13] (.cond (.t 46) (.skip) (.exit 2)))) (.seq (.post [2,3,4,9,10,11,12,13] (.block 3 (jJ [2,3,4,9,10,11,12,13,87] yw.r7 (.post [2,3,4,9,10,11,12,13] (.cond (.t 87) (jJ [8] yw.r8 (.ret)) (.skip)))))) (jK [2,3,4,9,10,11,12,13] yw.r9))
def yw.r10:jI:=[ac 28 12,a12 29 28 1,ac 12 29]
def yw.l0:ACode:=.seq (jJ [2,3,4,9,10,11,12,27] yw.r3 (.post [2,3,4,9,10,11,12] (.cond (.t 27) (.skip) (.exit 0)))) (.seq (.post [2,3,4,9,10,11,12] (.block 1 (.seq (jJ [2,3,4,9,10,11,12,37] yw.r4 (.post [2,3,4,9,10,11,12] (.cond (.t 37) (.exit 1) (.skip)))) (jJ [2,3,4,9,10,11,12,13] yw.r5 (.post [2,3,4,9,10,11,12] (.block 2 (.loop yw.l1))))))) (jK [2,3,4,9,10,11,12] yw.r10))
def yw.r11:jI:=[a15 8]
def yw:AFunc:=⟨93,[.t 8],jJ [1,2,3,4] yw.r0 (jJ [2,3,4,9,10,11] yw.r1 (.seq (jJ [2,3,4,9,10,11,12] yw.r2 (.post [] (.block 0 (.loop yw.l0)))) (jJ [8] yw.r11 (.ret))))⟩
theorem yw.ok:y2b Tryz.prog Tryz.f128 yw=true:=by kernel_rfl
theorem yw.at:km y8k Tryz.f128:=Tryz.func128
def y1u.r0:jI:=[a14 3 0,ak 6]
def y1u.r1:jI:=[ac 12 2,⟨some 13,none,.call y82 [.t 12]⟩,ac 11 13,ai 14 0 11,ai 15 1 11,ai 16 2 11,ac 7 14,ac 8 15,ac 9 16]
def y1u.r2:jI:=[ah 10 0]
def y1u.r3:jI:=[ac 17 10,af 18 1 3,ae 19 1 18,aq 20 19,a11 21 17 20]
def y1u.r4:jI:=[af 24 1 3,ae 25 1 24,ac 26 10,al 27 3 25 26,af 28 0 27,ae 29 1 28,ac 30 1,a29 31 29 30]
def y1u.r5:jI:=[af 32 1 3,ae 33 1 32,ac 34 10,al 35 3 33 34,af 36 1 35,ae 37 1 36,ac 38 7,a29 39 37 38,ac 40 39,aj 41 40 8,a2z 42 40 41,aj 43 40 42,ax 44 43 1 3,ar 45 43 1 44,a10 46 43 10,a2m 47 43 3 45 46,ax 48 43 2 47,ar 49 43 1 48,a10 50 43 8,⟨some 51,(some (43,false)),.op (.bin .eql (.t 49) (.t 50))⟩,a1k 52 40 43 51,an 53 40 52,ac 6 53]
def y1u.r6:jI:=[ac 22 10,a12 23 22 1,ac 10 23]
def y1u.l0:ACode:=.seq (jJ [1,3,7,8,10,21] y1u.r3 (.post [1,3,7,8,10] (.cond (.t 21) (.skip) (.exit 0)))) (.seq (.post [1,3,7,8,10] (.block 1 (jJ [1,3,7,8,10,31] y1u.r4 (.post [1,3,7,8,10] (.cond (.t 31) (jJ [6] y1u.r5 (.ret)) (.skip)))))) (jK [1,3,7,8,10] y1u.r6))
def y1u.r7:jI:=[ak 6]
def y1u:AFunc:=⟨54,[.t 6],jJ [1,2,3] y1u.r0 (jJ [1,3,7,8] y1u.r1 (.seq (jJ [1,3,7,8,10] y1u.r2 (.post [] (.block 0 (.loop y1u.l0)))) (jJ [6] y1u.r7 (.ret))))⟩
theorem y1u.ok:y2b Tryz.prog Tryz.f187 y1u=true:=by kernel_rfl
theorem y1u.at:km y9c Tryz.f187:=Tryz.func187
def y29.r0:jI:=[a15 4]
def y29.r1:jI:=[ac 10 0,⟨some 11,none,.call y4b [.t 10]⟩,ac 9 11,ai 12 0 9,ai 13 1 9,a1c 5 0 0 0 0,ap 6 5 12,ac 6 13]
def y29.r2:jI:=[af 14 0 5,a2d 1 14 2]
def y29.r3:jI:=[ac 15 1,af 16 4 5,ap 1 16 15]
def y29.r4:jI:=[aw 18 6 5,⟨some 19,none,.call y5s [.t 18]⟩,ac 17 19,ai 20 0 17,ai 21 1 17,ac 7 20,ac 8 21]
def y29.r5:jI:=[ac 22 7,ac 4 22]
def y29:AFunc:=⟨23,[.t 4],jJ [0,1] y29.r0 (jJ [1,5] y29.r1 (jJ [1,5] y29.r2 (jJ [5] y29.r3 (jJ [7] y29.r4 (jJ [4] y29.r5 (.ret))))))⟩
theorem y29.ok:y2b Tryz.prog Tryz.f46 y29=true:=by kernel_rfl
theorem y29.at:km y6x Tryz.f46:=Tryz.func46
def yh.r0:jI:=[a14 4 1,a14 5 2,a1b 6 0 0,ak 7]
def yh.r1:jI:=[ak 8,ak 9]
def yh.r2:jI:=[ac 13 0,af 14 2 5,ae 15 1 14,⟨some 16,none,.call y5u [.t 13,.t 15]⟩,ac 10 16]
def yh.r3:jI:=[ah 11 0]
def yh.r4:jI:=[ac 17 11,ac 18 10,aq 19 18,a11 20 17 19]
def yh.r5:jI:=[aw 23 3 4,ac 24 10,ac 25 11,al 26 1 24 25,ae 27 1 26,af 28 4 5,ae 29 1 28,⟨some 30,none,.call y9c [.t 23,.t 27,.t 29]⟩,a1a 31 30]
def yh.r6:jI:=[ac 33 0,af 34 1 5,ae 35 1 34,ac 36 10,ac 37 11,al 38 1 36 37,ae 39 1 38,⟨some 40,none,.call y4n [.t 33,.t 35,.t 39]⟩,ac 32 40,ai 41 0 32,ai 42 1 32,ac 0 41,ac 9 42]
def yh.r7:jI:=[ac 43 8,ac 44 43,a10 45 44 9,am 46 44 45,ac 8 46]
def yh.r8:jI:=[ah 12 0]
def yh.r9:jI:=[ac 47 12,af 48 5 5,ae 49 1 48,aq 50 49,a11 51 47 50]
def yh.r10:jI:=[af 54 5 5,ae 55 1 54,ac 56 12,al 57 1 55 56,ae 58 1 57,a1o 59 58]
def yh.r11:jI:=[ac 60 12,a13 61 60 0]
def yh.r12:jI:=[ac 63 0,af 64 5 5,ae 65 1 64,a2e 66 1 65 0,ae 67 1 66,ac 68 10,ac 69 11,al 70 1 68 69,ae 71 1 70,⟨some 72,none,.call y6x [.t 71,.c (.i .i64 0)]⟩,⟨some 73,none,.call y4d [.t 63,.t 67,.t 72]⟩,ac 62 73,ai 74 0 62,ai 75 1 62,ac 0 74,ac 9 75]
def yh.r13:jI:=[ac 77 0,ac 78 10,ac 79 11,al 80 1 78 79,ae 81 1 80,ac 82 12,⟨some 83,none,.call y6x [.t 81,.t 82]⟩,af 84 5 5,ae 85 1 84,ac 86 12,al 87 1 85 86,ae 88 1 87,⟨some 89,none,.call y4d [.t 77,.t 83,.t 88]⟩,ac 76 89,ai 90 0 76,ai 91 1 76,ac 0 90,ac 9 91]
def yh.r14:jI:=[ac 92 8,ac 93 92,a10 94 93 9,am 95 93 94,ac 8 95]
def yh.r15:jI:=[ac 52 12,a12 53 52 1,ac 12 53]
def yh.l1:ACode:=.seq (jJ [0,4,5,8,10,11,12,51] yh.r9 (.post [0,4,5,8,10,11,12] (.cond (.t 51) (.skip) (.exit 2)))) (.seq (.post [0,4,5,8,10,11,12] (.block 3 (.seq (jJ [0,4,5,8,10,11,12,59] yh.r10 (.post [0,4,5,8,10,11,12] (.cond (.t 59) (.exit 3) (.skip)))) (.seq (jJ [0,4,5,8,10,11,12,61] yh.r11 (.post [0,4,5,8,9,10,11,12] (.cond (.t 61) (.post [0,4,5,8,9,10,11,12] (.draw [0,0,2,6,14,0,0,96,224,480,1023,2047,4095,4095,8191,32767] yh.r12)) (.post [0,4,5,8,9,10,11,12] (.draw [0,0,0,6,14,0,62,0,128,0,896,1920,4095,8191,16383,16383,32767,131071] yh.r13))))) (jK [0,4,5,8,10,11,12] yh.r14))))) (jK [0,4,5,8,10,11,12] yh.r15))
def yh.r16:jI:=[ac 21 11,a12 22 21 1,ac 11 22]
def yh.l0:ACode:=.seq (jJ [0,4,5,8,10,11,20] yh.r4 (.post [0,4,5,8,10,11] (.cond (.t 20) (.skip) (.exit 0)))) (.seq (.post [0,4,5,8,10,11] (.block 1 (.seq (.seq (.post [0,4,5,8,10,11,31] (.draw [0,0,0,6,14,0,32,127,255] yh.r5)) (.post [0,4,5,8,10,11] (.cond (.t 31) (.exit 1) (.skip)))) (.seq (.post [0,4,5,8,9,10,11] (.draw [0,0,2,0,0,24,56,127,255,511,511,1023,4095] yh.r6)) (jJ [0,4,5,8,10,11] yh.r7 (jJ [0,4,5,8,10,11,12] yh.r8 (.post [0,4,5,8,10,11] (.block 2 (.loop yh.l1))))))))) (jK [0,4,5,8,10,11] yh.r16))
def yh.r17:jI:=[ac 96 0,ac 97 8,ac 6 96,ac 7 97]
def yh:AFunc:=⟨98,[.t 6,.t 7],jJ [0,4,5] yh.r0 (jJ [0,4,5,8] yh.r1 (jJ [0,4,5,8,10] yh.r2 (.seq (jJ [0,4,5,8,10,11] yh.r3 (.post [0,8] (.block 0 (.loop yh.l0)))) (jJ [6,7] yh.r17 (.ret)))))⟩
theorem yh.ok:y2b Tryz.prog Tryz.f129 yh=true:=by kernel_rfl
theorem yh.at:km y77 Tryz.f129:=Tryz.func129
def y0.r0:jI:=[a14 4 1,a14 5 2,a1b 6 0 0,ak 7]
def y0.r1:jI:=[ak 8,ak 9]
def y0.r2:jI:=[af 17 0 5,ae 18 1 17]
def y0.r3:jI:=[a13 20 18 1,ac 19 20]
def y0.r4:jI:=[ac 21 0,af 22 1 5,ae 23 1 22,af 24 2 5,ae 25 1 24,⟨some 26,none,.call y4n [.t 21,.t 23,.t 25]⟩,ai 27 0 26,ai 28 1 26,ac 6 27,ac 7 28]
def y0.r5:jI:=[a13 30 18 2,ac 29 30]
def y0.r6:jI:=[ac 31 0,af 32 1 5,ae 33 1 32,af 34 2 5,ae 35 1 34,⟨some 36,none,.call y4d [.t 31,.t 33,.t 35]⟩,ai 37 0 36,ai 38 1 36,ac 6 37,ac 7 38]
def y0.r7:jI:=[a13 40 18 3,ac 39 40]
def y0.r8:jI:=[ac 41 0,af 42 2 5,ae 43 1 42,⟨some 44,none,.call y5u [.t 41,.t 43]⟩,ac 10 44]
def y0.r9:jI:=[ah 11 0]
def y0.r10:jI:=[ac 45 11,ac 46 10,aq 47 46,a11 48 45 47]
def y0.r11:jI:=[aw 51 3 4,ac 52 10,ac 53 11,al 54 1 52 53,ae 55 1 54,⟨some 56,none,.call y6d [.t 51,.t 55]⟩]
def y0.r12:jI:=[ac 58 0,af 59 1 5,ae 60 1 59,ac 61 10,ac 62 11,al 63 1 61 62,ae 64 1 63,⟨some 65,none,.call y4d [.t 58,.t 60,.t 64]⟩,ac 57 65,ai 66 0 57,ai 67 1 57,ac 0 66,ac 9 67]
def y0.r13:jI:=[ac 68 8,ac 69 68,a10 70 69 9,am 71 69 70,ac 8 71]
def y0.r14:jI:=[ac 49 11,a12 50 49 1,ac 11 50]
def y0.l0:ACode:=.seq (jJ [0,4,5,8,10,11,48] y0.r10 (.post [0,4,5,8,10,11] (.cond (.t 48) (.skip) (.exit 1)))) (.seq (.post [0,4,5,8,10,11] (.block 2 (.seq (.post [0,4,5,8,10,11,56] (.draw [0,0,0,6,14,31] y0.r11)) (.post [0,4,5,8,10,11] (.cond (.t 56) (.seq (.post [0,4,5,8,9,10,11] (.draw [0,0,2,0,0,24,56,127,255,511,511,1023,4095] y0.r12)) (jK [0,4,5,8,10,11] y0.r13)) (.skip)))))) (jK [0,4,5,8,10,11] y0.r14))
def y0.r15:jI:=[a13 73 18 4,ac 72 73]
def y0.r16:jI:=[ac 74 0,af 75 1 5,ae 76 1 75,⟨some 77,none,.call y5u [.t 74,.t 76]⟩,ac 12 77]
def y0.r17:jI:=[ah 13 0]
def y0.r18:jI:=[ac 78 13,ac 79 12,aq 80 79,a11 81 78 80]
def y0.r19:jI:=[aw 84 3 4,ac 85 12,ac 86 13,al 87 1 85 86,ae 88 1 87,⟨some 89,none,.call y6d [.t 84,.t 88]⟩]
def y0.r20:jI:=[ac 91 0,ac 92 12,ac 93 13,al 94 1 92 93,ae 95 1 94,af 96 2 5,ae 97 1 96,⟨some 98,none,.call y4d [.t 91,.t 95,.t 97]⟩,ac 90 98,ai 99 0 90,ai 100 1 90,ac 0 99,ac 9 100]
def y0.r21:jI:=[ac 101 8,ac 102 101,a10 103 102 9,am 104 102 103,ac 8 104]
def y0.r22:jI:=[ac 82 13,a12 83 82 1,ac 13 83]
def y0.l1:ACode:=.seq (jJ [0,4,5,8,12,13,81] y0.r18 (.post [0,4,5,8,12,13] (.cond (.t 81) (.skip) (.exit 3)))) (.seq (.post [0,4,5,8,12,13] (.block 4 (.seq (.post [0,4,5,8,12,13,89] (.draw [0,0,0,6,14,31] y0.r19)) (.post [0,4,5,8,12,13] (.cond (.t 89) (.seq (.post [0,4,5,8,9,12,13] (.draw [0,0,0,6,14,0,32,127,255,511,511,1023,4095] y0.r20)) (jK [0,4,5,8,12,13] y0.r21)) (.skip)))))) (jK [0,4,5,8,12,13] y0.r22))
def y0.r23:jI:=[a13 106 18 5,ac 105 106]
def y0.r24:jI:=[ac 107 0,af 108 2 5,ae 109 1 108,⟨some 110,none,.call y5u [.t 107,.t 109]⟩,ac 14 110]
def y0.r25:jI:=[ah 15 0]
def y0.r26:jI:=[ac 111 15,ac 112 14,aq 113 112,a11 114 111 113]
def y0.r27:jI:=[aw 117 3 4,ac 118 14,ac 119 15,al 120 1 118 119,ae 121 1 120,af 122 4 5,ae 123 1 122,af 124 3 5,ae 125 1 124,⟨some 126,none,.call y8k [.t 117,.t 121,.t 123,.t 125]⟩,ac 16 126]
def y0.r28:jI:=[ac 127 16,a1q 128 127]
def y0.r29:jI:=[ac 130 0,af 131 1 5,ae 132 1 131,ac 133 16,⟨some 134,none,.call y4n [.t 130,.t 132,.t 133]⟩,ac 129 134,ai 135 0 129,ai 136 1 129,ac 0 135,ac 9 136]
def y0.r30:jI:=[ac 137 8,ac 138 137,a10 139 138 9,am 140 138 139,ac 8 140]
def y0.r31:jI:=[ac 115 15,a12 116 115 1,ac 15 116]
def y0.l2:ACode:=.seq (jJ [0,4,5,8,14,15,114] y0.r26 (.post [0,4,5,8,14,15] (.cond (.t 114) (.skip) (.exit 5)))) (.seq (.post [0,4,5,8,14,15] (.block 6 (.seq (.post [0,4,5,8,14,15,16] (.draw [0,0,0,6,14,0,32,0,128,511,1023] y0.r27)) (jJ [0,4,5,8,14,15,16,128] y0.r28 (.post [0,4,5,8,14,15] (.cond (.t 128) (jJ [0,4,5,8,9,14,15] y0.r29 (jK [0,4,5,8,14,15] y0.r30)) (.skip))))))) (jK [0,4,5,8,14,15] y0.r31))
def y0.r32:jI:=[a13 142 18 6,ac 141 142]
def y0.r33:jI:=[ac 143 0,aw 144 3 4,aw 145 6 5,⟨some 146,none,.call y77 [.t 143,.t 144,.t 145]⟩,ai 147 0 146,ai 148 1 146,ac 6 147,ac 7 148]
def y0.r34:jI:=[ac 149 0,ac 150 8,ac 6 149,ac 7 150]
def y0:AFunc:=⟨151,[.t 6,.t 7],jJ [0,4,5] y0.r0 (jJ [0,4,5,8] y0.r1 (.seq (jJ [0,4,5,8,18] y0.r2 (.post [0,8] (.block 0 (jJ [0,4,5,8,18,19] y0.r3 (.post [0,8] (.cond (.t 19) (jJ [6,7] y0.r4 (.ret)) (jJ [0,4,5,8,18,29] y0.r5 (.post [0,8] (.cond (.t 29) (jJ [6,7] y0.r6 (.ret)) (jJ [0,4,5,8,18,39] y0.r7 (.post [0,8] (.cond (.t 39) (jJ [0,4,5,8,10] y0.r8 (jJ [0,4,5,8,10,11] y0.r9 (.post [0,8] (.block 1 (.loop y0.l0))))) (jJ [0,4,5,8,18,72] y0.r15 (.post [0,8] (.cond (.t 72) (jJ [0,4,5,8,12] y0.r16 (jJ [0,4,5,8,12,13] y0.r17 (.post [0,8] (.block 3 (.loop y0.l1))))) (jJ [0,4,5,8,18,105] y0.r23 (.post [0,8] (.cond (.t 105) (jJ [0,4,5,8,14] y0.r24 (jJ [0,4,5,8,14,15] y0.r25 (.post [0,8] (.block 5 (.loop y0.l2))))) (jJ [0,4,5,8,141] y0.r32 (.post [0,8] (.cond (.t 141) (jJ [6,7] y0.r33 (.ret)) (.skip)))))))))))))))))))))) (jJ [6,7] y0.r34 (.ret))))⟩
theorem y0.ok:y2b Tryz.prog Tryz.f73 y0=true:=by kernel_rfl
theorem y0.at:km y6q Tryz.f73:=Tryz.func73
def y17.r0:jI:=[a14 1 0,a1b 2 0 0]
def y17.r1:jI:=[a2k 8 2,ac 3 8]
def y17.r2:jI:=[a1e 4]
def y17.r3:jI:=[ac 9 4]
def y17.r4:jI:=[ak 4]
def y17.r5:jI:=[ah 5 0]
def y17.r6:jI:=[ac 10 5,af 11 2 1,ae 12 1 11,aq 13 12,a11 14 10 13]
def y17.r7:jI:=[ac 18 3,aw 19 3 1,af 20 2 1,ae 21 1 20,ac 22 5,al 23 6 21 22,aw 24 6 23,⟨some 25,none,.call y6q [.t 18,.t 19,.t 24]⟩,ac 17 25,ai 26 0 17,ai 27 1 17,ac 6 26,ac 7 27]
def y17.r8:jI:=[ac 28 6,ac 3 28]
def y17.r9:jI:=[ac 29 4,ac 30 29,a10 31 30 7,am 32 30 31,ac 4 32]
def y17.r10:jI:=[ac 15 5,a12 16 15 1,ac 5 16]
def y17.l1:ACode:=.seq (jJ [1,3,4,5,14] y17.r6 (.post [1,3,4,5] (.cond (.t 14) (.skip) (.exit 2)))) (.seq (.post [1,3,4,5] (.block 3 (.seq (.post [1,4,5,6,7] (.draw [0,0,0,4,0,28,60,127,255,511,511,1023,4095] y17.r7)) (jJ [1,3,4,5,7] y17.r8 (jK [1,3,4,5] y17.r9))))) (jK [1,3,4,5] y17.r10))
def y17.l0:ACode:=.seq (jJ [1,3,9] y17.r3 (.post [1,3] (.cond (.t 9) (.skip) (.exit 0)))) (.post [1,3,4] (.block 1 (jJ [1,3,4] y17.r4 (jJ [1,3,4,5] y17.r5 (.post [1,3,4] (.block 2 (.loop y17.l1)))))))
def y17.r11:jI:=[ac 33 3,ac 2 33]
def y17:AFunc:=⟨34,[.t 2],jJ [1] y17.r0 (jJ [1,3] y17.r1 (.seq (jJ [1,3,4] y17.r2 (.post [3] (.block 0 (.loop y17.l0)))) (jJ [2] y17.r11 (.ret))))⟩
theorem y17.ok:y2b Tryz.prog Tryz.f31 y17=true:=by kernel_rfl
theorem y17.at:km y8l Tryz.f31:=Tryz.func31
def y2q.r0:jI:=[a14 1 0,a1b 2 0 0,ah 3 0]
def y2q.r1:jI:=[aw 5 3 1,⟨some 6,none,.call y8o [.t 5]⟩,ac 4 6]
def y2q.r2:jI:=[ac 7 4,a19 8 7 0]
def y2q.r3:jI:=[ac 9 4,a1b 2 0 0,ac 3 9]
def y2q.r4:jI:=[aw 10 3 1,⟨some 11,none,.call y8l [.t 10]⟩,ac 2 11,ah 3 0]
def y2q:AFunc:=⟨12,[.t 2,.t 3],jJ [1] y2q.r0 (jJ [1,4] y2q.r1 (.seq (jJ [1,4,8] y2q.r2 (.post [1] (.cond (.t 8) (jJ [2,3] y2q.r3 (.ret)) (.skip)))) (jJ [2,3] y2q.r4 (.ret))))⟩
theorem y2q.ok:y2b Tryz.prog Tryz.f10 y2q=true:=by kernel_rfl
theorem y2q.at:km y8m Tryz.f10:=Tryz.func10
def y1s.r0:jI:=[ak 4]
def y1s.r1:jI:=[ac 6 0,aq 7 6,ac 8 1,aq 9 8,a27 10 7 9]
def y1s.r2:jI:=[ak 4]
def y1s.r3:jI:=[ah 5 0]
def y1s.r4:jI:=[ac 11 5,ac 12 0,aq 13 12,a11 14 11 13,ac 15 14,aj 16 15 5,aj 17 15 1,a3b 18 15 17,a1t 19 15 16 18,an 20 15 19]
def y1s.r5:jI:=[ac 23 0,ac 24 5,al 25 1 23 24,ae 26 1 25,ac 27 1,ac 28 5,al 29 1 27 28,ae 30 1 29,a27 31 26 30]
def y1s.r6:jI:=[ak 4]
def y1s.r7:jI:=[ac 21 5,a12 22 21 1,ac 5 22]
def y1s.l0:ACode:=.seq (jJ [0,1,5,20] y1s.r4 (.post [0,1,5] (.cond (.t 20) (.skip) (.exit 0)))) (.seq (.post [0,1,5] (.block 1 (.seq (.post [0,1,5,31] (.draw [0,0,3,7,0,0,48,112,255] y1s.r5)) (.post [0,1,5] (.cond (.t 31) (jJ [4] y1s.r6 (.ret)) (.skip)))))) (jK [0,1,5] y1s.r7))
def y1s.r8:jI:=[a1e 4]
def y1s:AFunc:=⟨32,[.t 4],jJ [0,1] y1s.r0 (.seq (jJ [0,1,10] y1s.r1 (.post [0,1] (.cond (.t 10) (jJ [4] y1s.r2 (.ret)) (.skip)))) (.seq (jJ [0,1,5] y1s.r3 (.post [] (.block 0 (.loop y1s.l0)))) (jJ [4] y1s.r8 (.ret))))⟩
theorem y1s.ok:y2b Tryz.prog Tryz.f16 y1s=true:=by kernel_rfl
theorem y1s.at:km y7u Tryz.f16:=Tryz.func16
def y1p.r0:jI:=[ak 4]
def y1p.r1:jI:=[ac 6 0,aq 7 6,ac 8 1,aq 9 8,a27 10 7 9]
def y1p.r2:jI:=[ak 4]
def y1p.r3:jI:=[ah 5 0]
def y1p.r4:jI:=[ac 11 5,ac 12 0,aq 13 12,a11 14 11 13,ac 15 14,aj 16 15 5,aj 17 15 1,a3b 18 15 17,a1t 19 15 16 18,an 20 15 19]
def y1p.r5:jI:=[ac 23 0,ac 24 5,al 25 2 23 24,af 26 0 25,ae 27 1 26,ac 28 1,ac 29 5,al 30 2 28 29,af 31 0 30,ae 32 1 31,a27 33 27 32,ac 34 33,a10 35 34 0,a10 36 34 5,a2m 37 34 2 35 36,ax 38 34 1 37,ar 39 34 1 38,a10 40 34 1,a10 41 34 5,a2m 42 34 2 40 41,ax 43 34 1 42,ar 44 34 1 43,⟨some 45,(some (34,false)),.call y7u [.t 39,.t 44]⟩,a1s 46 34 45,am 47 34 46]
def y1p.r6:jI:=[ak 4]
def y1p.r7:jI:=[ac 21 5,a12 22 21 1,ac 5 22]
def y1p.l0:ACode:=.seq (jJ [0,1,5,20] y1p.r4 (.post [0,1,5] (.cond (.t 20) (.skip) (.exit 0)))) (.seq (.post [0,1,5] (.block 1 (.seq (.post [0,1,5,47] (.draw [0,0,3,7,15,0,0,96,224,480,1023,2047,4095,4095,16383,32767,65535,4095,4095,397311,921599,1970175,4194303,8388607,16777215] y1p.r5)) (.post [0,1,5] (.cond (.t 47) (jJ [4] y1p.r6 (.ret)) (.skip)))))) (jK [0,1,5] y1p.r7))
def y1p.r8:jI:=[a1e 4]
def y1p:AFunc:=⟨48,[.t 4],jJ [0,1] y1p.r0 (.seq (jJ [0,1,10] y1p.r1 (.post [0,1] (.cond (.t 10) (jJ [4] y1p.r2 (.ret)) (.skip)))) (.seq (jJ [0,1,5] y1p.r3 (.post [] (.block 0 (.loop y1p.l0)))) (jJ [4] y1p.r8 (.ret))))⟩
theorem y1p.ok:y2b Tryz.prog Tryz.f11 y1p=true:=by kernel_rfl
theorem y1p.at:km y9b Tryz.f11:=Tryz.func11
def y46.r0:jI:=[a14 2 0,ak 3]
def y46.r1:jI:=[af 4 0 2,ae 5 1 4,ae 6 1 1,a29 7 5 6,ac 3 7]
def y46:AFunc:=⟨8,[.t 3],jJ [1,2] y46.r0 (jJ [3] y46.r1 (.ret))⟩
theorem y46.ok:y2b Tryz.prog Tryz.f76 y46=true:=by kernel_rfl
theorem y46.at:km yal Tryz.f76:=Tryz.func76
def yk.r0:jI:=[ah 4 0]
def yk.r1:jI:=[ac 6 0,aq 7 6,ah 8 0]
def yk.r2:jI:=[a11 9 8 7]
def yk.r3:jI:=[ac 10 8,ac 5 10]
def yk.r4:jI:=[ac 11 1,ac 12 0,ac 13 5,al 14 2 12 13,aw 15 2 14,a2o 16 11 15]
def yk.r5:jI:=[ac 17 5,ac 4 17]
def yk.r6:jI:=[a12 18 8 1,ac 8 18]
def yk.l0:ACode:=jJ [0,1,7,8,9] yk.r2 (.seq (.post [0,1,7,8] (.cond (.t 9) (.skip) (.exit 0))) (.seq (.post [0,1,7,8] (.block 1 (jJ [0,1,5,7,8] yk.r3 (jJ [0,1,5,7,8,16] yk.r4 (.post [0,1,7,8] (.cond (.t 16) (jJ [4] yk.r5 (.ret)) (.skip))))))) (jK [0,1,7,8] yk.r6)))
def yk.r7:jI:=[ah 4 (-1)]
def yk:AFunc:=⟨19,[.t 4],jJ [0,1] yk.r0 (.seq (jJ [0,1,7,8] yk.r1 (.post [] (.block 0 (.loop yk.l0)))) (jJ [4] yk.r7 (.ret)))⟩
theorem yk.ok:y2b Tryz.prog Tryz.f75 yk=true:=by kernel_rfl
theorem yk.at:km y4f Tryz.f75:=Tryz.func75
def y3c.r0:jI:=[a23 3 1,a1b 4 0 0]
def y3c.r1:jI:=[ac 6 0,⟨some 7,none,.op (.mkfn yal [.t 3])⟩,⟨some 8,none,.call y4f [.t 6,.t 7]⟩,ac 5 8]
def y3c.r2:jI:=[ac 9 5,a26 10 9 0]
def y3c.r3:jI:=[a1b 4 0 0]
def y3c.r4:jI:=[ac 11 0,ac 12 5,al 13 2 11 12,af 14 1 13,ae 15 1 14,ac 4 15]
def y3c:AFunc:=⟨16,[.t 4],jJ [0,3] y3c.r0 (jJ [0,5] y3c.r1 (.seq (jJ [0,5,10] y3c.r2 (.post [0,5] (.cond (.t 10) (jJ [4] y3c.r3 (.ret)) (.skip)))) (jJ [4] y3c.r4 (.ret))))⟩
theorem y3c.ok:y2b Tryz.prog Tryz.f39 y3c=true:=by kernel_rfl
theorem y3c.at:km ybt Tryz.f39:=Tryz.func39
def y56.r0:jI:=[a1b 4 0 0]
def y56.r1:jI:=[ac 5 0,ac 6 1,⟨some 7,none,.call ybt [.t 5,.t 6]⟩,⟨some 8,none,.call y6z [.t 7]⟩,ac 4 8]
def y56:AFunc:=⟨9,[.t 4],jJ [0,1] y56.r0 (jJ [4] y56.r1 (.ret))⟩
theorem y56.ok:y2b Tryz.prog Tryz.f17 y56=true:=by kernel_rfl
theorem y56.at:km ye8 Tryz.f17:=Tryz.func17
def y1r.r0:jI:=[a14 1 0,ak 2]
def y1r.r1:jI:=[aw 7 3 1,⟨some 8,none,.call y8s [.t 7,.c (.i .i64 60)]⟩]
def y1r.r2:jI:=[a1e 2]
def y1r.r3:jI:=[aw 10 3 1,⟨some 11,none,.call y9n [.t 10]⟩,ac 9 11,ai 12 0 9,ai 13 1 9,ac 3 12,ac 4 13]
def y1r.r4:jI:=[aw 15 3 1,⟨some 16,none,.call y8m [.t 15]⟩,ac 14 16,ai 17 0 14,ai 18 1 14,ac 5 17,ac 6 18]
def y1r.r5:jI:=[ac 19 3,ac 20 5,⟨some 21,none,.call y9b [.t 19,.t 20]⟩,ac 22 21,aj 23 22 4,aj 24 22 6,a3a 25 22 23 24,an 26 22 25,ac 27 26,⟨some 28,(some (27,true)),.call y8r []⟩,an 29 27 28,ac 2 29]
def y1r:AFunc:=⟨30,[.t 2],jJ [1] y1r.r0 (.seq (jJ [1,8] y1r.r1 (.post [1] (.cond (.t 8) (jJ [2] y1r.r2 (.ret)) (.skip)))) (jJ [1,3,4] y1r.r3 (jJ [3,4,5,6] y1r.r4 (jJ [2] y1r.r5 (.ret)))))⟩
theorem y1r.ok:y2b Tryz.prog Tryz.f3 y1r=true:=by kernel_rfl
theorem y1r.at:km y8h Tryz.f3:=Tryz.func3
end C
end Go.Proofs.YtikpijbeobeckaaGreatDoor
