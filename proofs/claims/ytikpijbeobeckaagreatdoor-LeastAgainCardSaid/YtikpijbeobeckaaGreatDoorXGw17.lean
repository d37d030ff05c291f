/- Part 17. -/
import Derived.Test.YtikpijbeobeckaaGreatDoorXGw16
set_option linter.unusedSimpArgs false
set_option linter.unusedVariables false
namespace Go.Proofs.YtikpijbeobeckaaGreatDoor
open Am Go.Proofs
set_option maxRecDepth 100000
namespace C
def y1e.r0:jI:=[an 4]
def y1e.r1:jI:=[ac 6 0,al 7 6,ac 8 1,al 9 8,a1j 10 7 9]
def y1e.r2:jI:=[an 4]
def y1e.r3:jI:=[ah 5 0]
def y1e.r4:jI:=[ac 11 5,ac 12 0,al 13 12,aq 14 11 13,ac 15 14,ap 16 15 5,ap 17 15 1,a2m 18 15 17,a1w 19 15 16 18,ar 20 15 19]
def y1e.r5:jI:=[ac 23 0,ac 24 5,am 25 1 23 24,af 26 1 25,ac 27 1,ac 28 5,am 29 1 27 28,af 30 1 29,a1j 31 26 30]
def y1e.r6:jI:=[an 4]
def y1e.r7:jI:=[ac 21 5,ay 22 21 1,ac 5 22]
def y1e.l0:ACode:=.seq (jJ [0,1,5,20] y1e.r4 (.post [0,1,5] (.cond (.t 20) (.skip) (.exit 0)))) (.seq (.post [0,1,5] (.block 1 (.seq (.post [0,1,5,31] (.draw [0,0,3,7,0,0,48,112,255] y1e.r5)) (.post [0,1,5] (.cond (.t 31) (jJ [4] y1e.r6 (.ret)) (.skip)))))) (jK [0,1,5] y1e.r7))
def y1e.r8:jI:=[a19 4]
def y1e:AFunc:=⟨32,[.t 4],jJ [0,1] y1e.r0 (.seq (jJ [0,1,10] y1e.r1 (.post [0,1] (.cond (.t 10) (jJ [4] y1e.r2 (.ret)) (.skip)))) (.seq (jJ [0,1,5] y1e.r3 (.post [] (.block 0 (.loop y1e.l0)))) (jJ [4] y1e.r8 (.ret))))⟩
theorem y1e.ok:y25 Tryz.prog Tryz.f16 y1e=true:=by kernel_rfl
theorem y1e.at:km y81 Tryz.f16:=Tryz.func16
def y3e.r0:jI:=[a12 2 0,an 3]
def y3e.r1:jI:=[ae 4 0 2,af 5 1 4,af 6 1 1,⟨some 7,none,.op (.bin .eql (.t 5) (.t 6))⟩,ac 3 7]
def y3e:AFunc:=⟨8,[.t 3],jJ [1,2] y3e.r0 (jJ [3] y3e.r1 (.ret))⟩
theorem y3e.ok:y25 Tryz.prog Tryz.f76 y3e=true:=by kernel_rfl
theorem y3e.at:km y8v Tryz.f76:=Tryz.func76
def yi.r0:jI:=[ah 4 0]
def yi.r1:jI:=[ac 6 0,al 7 6,ah 8 0]
def yi.r2:jI:=[aq 9 8 7]
def yi.r3:jI:=[ac 10 8,ac 5 10]
def yi.r4:jI:=[ac 11 1,ac 12 0,ac 13 5,am 14 2 12 13,ak 15 2 14,a1z 16 11 15]
def yi.r5:jI:=[ac 17 5,ac 4 17]
def yi.r6:jI:=[ay 18 8 1,ac 8 18]
def yi.l0:ACode:=jJ [0,1,7,8,9] yi.r2 (.seq (.post [0,1,7,8] (.cond (.t 9) (.skip) (.exit 0))) (.seq (.post [0,1,7,8] (.block 1 (jJ [0,1,5,7,8] yi.r3 (jJ [0,1,5,7,8,16] yi.r4 (.post [0,1,7,8] (.cond (.t 16) (jJ [4] yi.r5 (.ret)) (.skip))))))) (jK [0,1,7,8] yi.r6)))
def yi.r7:jI:=[ah 4 (-1)]
def yi:AFunc:=⟨19,[.t 4],jJ [0,1] yi.r0 (.seq (jJ [0,1,7,8] yi.r1 (.post [] (.block 0 (.loop yi.l0)))) (jJ [4] yi.r7 (.ret)))⟩
theorem yi.ok:y25 Tryz.prog Tryz.f75 yi=true:=by kernel_rfl
theorem yi.at:km y3p Tryz.f75:=Tryz.func75
def y2j.r0:jI:=[a1i 3 1,a1c 4 0 0]
def y2j.r1:jI:=[ac 6 0,⟨some 7,none,.op (.mkfn y8v [.t 3])⟩,⟨some 8,none,.call y3p [.t 6,.t 7]⟩,ac 5 8]
def y2j.r2:jI:=[ac 9 5,a2b 10 9 0]
def y2j.r3:jI:=[a1c 4 0 0]
def y2j.r4:jI:=[ac 11 0,ac 12 5,am 13 2 11 12,ae 14 1 13,af 15 1 14,ac 4 15]
def y2j:AFunc:=⟨16,[.t 4],jJ [0,3] y2j.r0 (jJ [0,5] y2j.r1 (.seq (jJ [0,5,10] y2j.r2 (.post [0,5] (.cond (.t 10) (jJ [4] y2j.r3 (.ret)) (.skip)))) (jJ [4] y2j.r4 (.ret))))⟩
theorem y2j.ok:y25 Tryz.prog Tryz.f39 y2j=true:=by kernel_rfl
theorem y2j.at:km ya4 Tryz.f39:=Tryz.func39
def y4b.r0:jI:=[a1c 4 0 0]
def y4b.r1:jI:=[ac 5 0,ac 6 1,⟨some 7,none,.call ya4 [.t 5,.t 6]⟩,⟨some 8,none,.call y5t [.t 7]⟩,ac 4 8]
def y4b:AFunc:=⟨9,[.t 4],jJ [0,1] y4b.r0 (jJ [4] y4b.r1 (.ret))⟩
theorem y4b.ok:y25 Tryz.prog Tryz.f17 y4b=true:=by kernel_rfl
theorem y4b.at:km ycf Tryz.f17:=Tryz.func17
def y15.r0:jI:=[a12 2 0,a12 3 1,an 4]
def y15.r1:jI:=[ae 6 0 2,af 7 1 6,ae 8 0 3,af 9 1 8,a1j 10 7 9,ac 11 10,a13 12 11 1 2,a14 13 11 1 12,a13 14 11 1 3,a14 15 11 1 14,a2a 16 11 13 15,a11 17 11 16,ac 18 17,a13 19 18 2 2,a14 20 18 1 19,a1k 21 18 20,a13 22 18 2 3,a14 23 18 1 22,a1k 24 18 23,a2a 25 18 21 24,a11 26 18 25]
def y15.r2:jI:=[an 4]
def y15.r3:jI:=[ah 5 0]
def y15.r4:jI:=[ac 27 5,ae 28 2 2,af 29 1 28,al 30 29,aq 31 27 30,ac 32 31,ap 33 32 5,aw 34 32 2 3,ax 35 32 1 34,a2m 36 32 35,a1w 37 32 33 36,ar 38 32 37]
def y15.r5:jI:=[ae 41 2 2,af 42 1 41,ac 43 5,am 44 2 42 43,ak 45 2 44,ae 46 2 3,af 47 1 46,ac 48 5,am 49 2 47 48,ak 50 2 49,⟨some 51,none,.op (.eqa true [0,1] (.t 45) (.t 50))⟩]
def y15.r6:jI:=[an 4]
def y15.r7:jI:=[ac 39 5,ay 40 39 1,ac 5 40]
def y15.l0:ACode:=.seq (jJ [2,3,5,38] y15.r4 (.post [2,3,5] (.cond (.t 38) (.skip) (.exit 0)))) (.seq (.post [2,3,5] (.block 1 (.seq (.post [2,3,5,51] (.draw [0,1,0,7,15,0,32,0,224,480,1023] y15.r5)) (.post [2,3,5] (.cond (.t 51) (jJ [4] y15.r6 (.ret)) (.skip)))))) (jK [2,3,5] y15.r7))
def y15.r8:jI:=[a19 4]
def y15:AFunc:=⟨52,[.t 4],jJ [2,3] y15.r0 (.seq (jJ [2,3,26] y15.r1 (.post [2,3] (.cond (.t 26) (jJ [4] y15.r2 (.ret)) (.skip)))) (.seq (jJ [2,3,5] y15.r3 (.post [] (.block 0 (.loop y15.l0)))) (jJ [4] y15.r8 (.ret))))⟩
theorem y15.ok:y25 Tryz.prog Tryz.f74 y15=true:=by kernel_rfl
theorem y15.at:km y6m Tryz.f74:=Tryz.func74
def y13.r0:jI:=[a1i 3 1,a1c 4 0 0]
def y13.r1:jI:=[ah 5 0]
def y13.r2:jI:=[ac 7 5,ac 8 0,al 9 8,aq 10 7 9,ac 11 10,ap 12 11 0,ap 13 11 5,a1h 14 11 3 12 13,aw 15 11 0 14,ax 16 11 1 15,aw 17 11 0 3,ax 18 11 1 17,a2z 19 11 16 18,ar 20 11 19]
def y13.r3:jI:=[ac 21 0,ac 22 5,am 23 3 21 22,ak 24 3 23,ak 25 3 3,⟨some 26,none,.call y6m [.t 24,.t 25]⟩]
def y13.r4:jI:=[ac 27 0,ac 4 27]
def y13.r5:jI:=[ac 28 5,ay 29 28 1,ac 5 29]
def y13.l0:ACode:=.seq (.seq (.post [0,3,5,20] (.draw [0,0,2,7,15,31,31,127,255,511,31,1055,4095,8191] y13.r2)) (.post [0,3,5] (.cond (.t 20) (.skip) (.exit 0)))) (.post [0,3,5] (.block 1 (.seq (.seq (.post [0,3,5,26] (.draw [0,0,3,7,0,31] y13.r3)) (.post [0,3,5] (.cond (.t 26) (jJ [4] y13.r4 (.ret)) (.skip)))) (jK [0,3,5] y13.r5))))
def y13.r6:jI:=[a1p 30 2,ae 31 2 3,af 32 1 31,a17 33 2 24 30 32,ae 34 2 3,aj 1 34 33]
def y13.r7:jI:=[a1p 35 3,ac 36 0,ac 37 5,a3d 38 3 36 37,a17 39 3 56 35 38,ac 6 39]
def y13.r8:jI:=[ac 40 6,ak 41 3 3,⟨some 42,none,.op (.bfz 1 3 [.s [],.s [],.sl none 0 0] [(0,3,.t 41)])⟩,a17 43 3 56 40 42,ac 6 43]
def y13.r9:jI:=[ac 44 6,ac 45 0,ac 46 5,a3e 47 3 45 46,a17 48 3 56 44 47,ac 4 48]
def y13:AFunc:=⟨49,[.t 4],jJ [0,3] y13.r0 (jJ [0,3,5] y13.r1 (.seq (.post [0,3,5] (.block 0 (.loop y13.l0))) (jJ [0,3,5] y13.r6 (jJ [0,3,5,6] y13.r7 (jJ [0,5,6] y13.r8 (jJ [4] y13.r9 (.ret)))))))⟩
theorem y13.ok:y25 Tryz.prog Tryz.f32 y13=true:=by kernel_rfl
theorem y13.at:km y6l Tryz.f32:=Tryz.func32
def y1b.r0:jI:=[a12 3 1,a1c 4 0 0]
def y1b.r1:jI:=[ah 5 0]
def y1b.r2:jI:=[ac 7 5,ac 8 0,al 9 8,aq 10 7 9,ac 11 10,ap 12 11 0,ap 13 11 5,a1h 14 11 3 12 13,aw 15 11 0 14,ax 16 11 1 15,aw 17 11 0 3,ax 18 11 1 17,a2z 19 11 16 18,ar 20 11 19]
def y1b.r3:jI:=[ac 21 0,ac 22 5,am 23 3 21 22,ak 24 3 23,ak 25 3 3,⟨some 26,none,.op (.eqa false [1,1,1] (.t 24) (.t 25))⟩]
def y1b.r4:jI:=[ac 27 0,ac 4 27]
def y1b.r5:jI:=[ac 28 5,ay 29 28 1,ac 5 29]
def y1b.l0:ACode:=.seq (.seq (.post [0,3,5,20] (.draw [0,0,2,7,15,31,31,127,255,511,31,1055,4095,8191] y1b.r2)) (.post [0,3,5] (.cond (.t 20) (.skip) (.exit 0)))) (.post [0,3,5] (.block 1 (.seq (.seq (.post [0,3,5,26] (.draw [0,0,3,7,0,31] y1b.r3)) (.post [0,3,5] (.cond (.t 26) (jJ [4] y1b.r4 (.ret)) (.skip)))) (jK [0,3,5] y1b.r5))))
def y1b.r6:jI:=[a1p 30 3,ac 31 0,ac 32 5,a3d 33 3 31 32,a17 34 3 48 30 33,ac 6 34]
def y1b.r7:jI:=[ac 35 6,ak 36 3 3,⟨some 37,none,.op (.bfz 1 3 [.s [],.s [],.s []] [(0,3,.t 36)])⟩,a17 38 3 48 35 37,ac 6 38]
def y1b.r8:jI:=[ac 39 6,ac 40 0,ac 41 5,a3e 42 3 40 41,a17 43 3 48 39 42,ac 4 43]
def y1b:AFunc:=⟨44,[.t 4],jJ [0,3] y1b.r0 (jJ [0,3,5] y1b.r1 (.seq (.post [0,3,5] (.block 0 (.loop y1b.l0))) (jJ [0,3,5,6] y1b.r6 (jJ [0,5,6] y1b.r7 (jJ [4] y1b.r8 (.ret))))))⟩
theorem y1b.ok:y25 Tryz.prog Tryz.f33 y1b=true:=by kernel_rfl
theorem y1b.at:km y6u Tryz.f33:=Tryz.func33
def y1c.r0:jI:=[a1i 3 1,a1c 4 0 0]
def y1c.r1:jI:=[ah 5 0]
def y1c.r2:jI:=[ac 7 5,ac 8 0,al 9 8,aq 10 7 9,ac 11 10,ap 12 11 0,ap 13 11 5,a1h 14 11 6 12 13,a1b 15 11 6 14,a1b 16 11 6 3,⟨some 17,(some (11,true)),.call y5e [.t 15,.t 16]⟩,a2p 18 11 17 0,ar 19 11 18]
def y1c.r3:jI:=[ac 20 5,ay 21 20 1,ac 5 21]
def y1c.l0:ACode:=.seq (.seq (.post [0,3,5,19] (.draw [0,0,2,7,15,31,31,127,255,31,1023,2047,4095] y1c.r2)) (.post [0,3,5] (.cond (.t 19) (.skip) (.exit 0)))) (.post [0,3,5] (.block 1 (jK [0,3,5] y1c.r3)))
def y1c.r4:jI:=[ac 22 5,ac 23 0,al 24 23,aq 25 22 24,ac 26 25,ap 27 26 0,ap 28 26 5,a1h 29 26 6 27 28,a1b 30 26 6 29,a1b 31 26 6 3,⟨some 32,(some (26,true)),.call y5e [.t 30,.t 31]⟩,a1l 33 26 32 0,ar 34 26 33]
def y1c.r5:jI:=[ac 35 0,ac 4 35]
def y1c.r6:jI:=[a1p 36 6,ac 37 0,ac 38 5,a3d 39 6 37 38,a17 40 6 88 36 39,ac 6 40]
def y1c.r7:jI:=[a1p 41 1,ae 42 5 3,af 43 1 42,a17 44 1 16 41 43,ae 45 5 3,aj 1 45 44]
def y1c.r8:jI:=[ac 46 6,ak 47 6 3,⟨some 48,none,.op (.bfz 1 6 [.i .i64 0,.s [],.s [],.i .i64 0,.s [],.sl none 0 0] [(0,6,.t 47)])⟩,a17 49 6 88 46 48,ac 6 49]
def y1c.r9:jI:=[ac 50 6,ac 51 0,ac 52 5,a3e 53 6 51 52,a17 54 6 88 50 53,ac 4 54]
def y1c:AFunc:=⟨55,[.t 4],jJ [0,3] y1c.r0 (jJ [0,3,5] y1c.r1 (.seq (.post [0,3,5] (.block 0 (.loop y1c.l0))) (.seq (.seq (.post [0,3,5,34] (.draw [0,0,2,7,15,31,31,127,255,31,1023,2047,4095] y1c.r4)) (.post [0,3,5] (.cond (.t 34) (jJ [4] y1c.r5 (.ret)) (.skip)))) (jJ [0,3,5,6] y1c.r6 (jJ [0,3,5,6] y1c.r7 (jJ [0,5,6] y1c.r8 (jJ [4] y1c.r9 (.ret))))))))⟩
theorem y1c.ok:y25 Tryz.prog Tryz.f34 y1c=true:=by kernel_rfl
theorem y1c.at:km y80 Tryz.f34:=Tryz.func34
def yq.r0:jI:=[a12 1 0,a2n 2 0 0 0 0 0 0]
def yq.r1:jI:=[a2n 3 0 0 0 0 0 0]
def yq.r2:jI:=[ah 4 0]
def yq.r3:jI:=[ac 7 4,ae 8 0 1,af 9 1 8,al 10 9,aq 11 7 10]
def yq.r4:jI:=[ae 14 0 3,af 15 1 14,ae 16 0 1,af 17 1 16,ac 18 4,am 19 3 17 18,ak 20 3 19,⟨some 21,none,.call y6l [.t 15,.t 20]⟩,ae 22 0 3,aj 1 22 21]
def yq.r5:jI:=[ac 12 4,ay 13 12 1,ac 4 13]
def yq.l0:ACode:=.seq (jJ [1,2,3,4,11] yq.r3 (.post [1,2,3,4] (.cond (.t 11) (.skip) (.exit 0)))) (.seq (.post [1,2,3,4] (.block 1 (.post [1,2,3,4] (.draw [0,1,0,4,0,28,60,127,255,511] yq.r4)))) (jK [1,2,3,4] yq.r5))
def yq.r6:jI:=[ah 5 0]
def yq.r7:jI:=[ac 23 5,ae 24 1 1,af 25 1 24,al 26 25,aq 27 23 26]
def yq.r8:jI:=[ae 30 1 3,af 31 1 30,ae 32 1 1,af 33 1 32,ac 34 5,am 35 3 33 34,ak 36 3 35,⟨some 37,none,.call y6u [.t 31,.t 36]⟩,ae 38 1 3,aj 1 38 37]
def yq.r9:jI:=[ac 28 5,ay 29 28 1,ac 5 29]
def yq.l1:ACode:=.seq (jJ [1,2,3,5,27] yq.r7 (.post [1,2,3,5] (.cond (.t 27) (.skip) (.exit 2)))) (.seq (.post [1,2,3,5] (.block 3 (.post [1,2,3,5] (.draw [0,1,0,4,0,28,60,127,255,511] yq.r8)))) (jK [1,2,3,5] yq.r9))
def yq.r10:jI:=[ah 6 0]
def yq.r11:jI:=[ac 39 6,ae 40 2 1,af 41 1 40,al 42 41,aq 43 39 42]
def yq.r12:jI:=[ae 46 2 3,af 47 1 46,ae 48 2 1,af 49 1 48,ac 50 6,am 51 6 49 50,ak 52 6 51,⟨some 53,none,.call y80 [.t 47,.t 52]⟩,ae 54 2 3,aj 1 54 53]
def yq.r13:jI:=[ac 44 6,ay 45 44 1,ac 6 45]
def yq.l2:ACode:=.seq (jJ [1,2,3,6,43] yq.r11 (.post [1,2,3,6] (.cond (.t 43) (.skip) (.exit 4)))) (.seq (.post [1,2,3,6] (.block 5 (.post [1,2,3,6] (.draw [0,1,0,4,0,28,60,127,255,511] yq.r12)))) (jK [1,2,3,6] yq.r13))
def yq.r14:jI:=[ak 55 3 3,aj 3 2 55]
def yq:AFunc:=⟨56,[.cell 2 true 3],jJ [1,2] yq.r0 (jJ [1,2,3] yq.r1 (.seq (jJ [1,2,3,4] yq.r2 (.post [1,2,3] (.block 0 (.loop yq.l0)))) (.seq (jJ [1,2,3,5] yq.r6 (.post [1,2,3] (.block 2 (.loop yq.l1)))) (.seq (jJ [1,2,3,6] yq.r10 (.post [2,3] (.block 4 (.loop yq.l2)))) (jJ [2] yq.r14 (.ret))))))⟩
theorem yq.ok:y25 Tryz.prog Tryz.f13 yq=true:=by kernel_rfl
theorem yq.at:km y7f Tryz.f13:=Tryz.func13
def yg.r0:jI:=[an 6]
def yg.r1:jI:=[ac 10 0,al 11 10,ac 12 1,al 13 12,a1j 14 11 13]
def yg.r2:jI:=[an 6]
def yg.r3:jI:=[ac 15 0,al 16 15,ah 17 0]
def yg.r4:jI:=[aq 18 17 16]
def yg.r5:jI:=[ac 19 17,am 20 2 15 17,ak 21 2 20,a3b 8 0 0,ac 7 19,aj 2 8 21]
def yg.r6:jI:=[ac 22 1,ac 23 7,am 24 2 22 23,ak 25 2 24,a3b 9 0 0,aj 2 9 25]
def yg.r7:jI:=[ac 26 2,ak 27 2 8,ak 28 2 9,a1u 29 26 27 28,a1a 30 29]
def yg.r8:jI:=[an 6]
def yg.r9:jI:=[ay 31 17 1,ac 17 31]
def yg.l0:ACode:=jJ [1,2,15,16,17,18] yg.r4 (.seq (.post [1,2,15,16,17] (.cond (.t 18) (.skip) (.exit 0))) (.seq (.post [1,2,15,16,17] (.block 1 (jJ [1,2,7,8,15,16,17] yg.r5 (jJ [1,2,8,9,15,16,17] yg.r6 (jJ [1,2,15,16,17,30] yg.r7 (.post [1,2,15,16,17] (.cond (.t 30) (jJ [6] yg.r8 (.ret)) (.skip)))))))) (jK [1,2,15,16,17] yg.r9)))
def yg.r10:jI:=[a19 6]
def yg:AFunc:=⟨32,[.t 6],jJ [0,1,2] yg.r0 (.seq (jJ [0,1,2,14] yg.r1 (.post [0,1,2] (.cond (.t 14) (jJ [6] yg.r2 (.ret)) (.skip)))) (.seq (jJ [1,2,15,16,17] yg.r3 (.post [] (.block 0 (.loop yg.l0)))) (jJ [6] yg.r10 (.ret))))⟩
theorem yg.at:km y3f Tryz.f35:=Tryz.func35
def ym.r0:jI:=[an 4]
def ym.r1:jI:=[ac 6 0,al 7 6,ac 8 1,al 9 8,a1j 10 7 9]
def ym.r2:jI:=[an 4]
def ym.r3:jI:=[ac 11 0,al 12 11,ah 13 0]
def ym.r4:jI:=[aq 14 13 12]
def ym.r5:jI:=[ac 15 13,ac 5 15]
def ym.r6:jI:=[ac 16 0,ac 17 5,am 18 1 16 17,af 19 1 18,ac 20 1,ac 21 5,am 22 1 20 21,af 23 1 22,a1j 24 19 23]
def ym.r7:jI:=[an 4]
def ym.r8:jI:=[ay 25 13 1,ac 13 25]
def ym.l0:ACode:=jJ [0,1,12,13,14] ym.r4 (.seq (.post [0,1,12,13] (.cond (.t 14) (.skip) (.exit 0))) (.seq (.post [0,1,12,13] (.block 1 (jJ [0,1,5,12,13] ym.r5 (.seq (.post [0,1,12,13,24] (.draw [0,0,3,7,0,0,48,112,255] ym.r6)) (.post [0,1,12,13] (.cond (.t 24) (jJ [4] ym.r7 (.ret)) (.skip))))))) (jK [0,1,12,13] ym.r8)))
def ym.r9:jI:=[a19 4]
def ym:AFunc:=⟨26,[.t 4],jJ [0,1] ym.r0 (.seq (jJ [0,1,10] ym.r1 (.post [0,1] (.cond (.t 10) (jJ [4] ym.r2 (.ret)) (.skip)))) (.seq (jJ [0,1,12,13] ym.r3 (.post [] (.block 0 (.loop ym.l0)))) (jJ [4] ym.r9 (.ret))))⟩
theorem ym.ok:y25 Tryz.prog Tryz.f37 ym=true:=by kernel_rfl
theorem ym.at:km y4g Tryz.f37:=Tryz.func37
def y3b.r0:jI:=[a12 2 0,a12 3 1,an 4]
def y3b.r1:jI:=[ae 5 0 2,af 6 1 5,ae 7 0 3,af 8 1 7,⟨some 9,none,.op (.bin .eql (.t 6) (.t 8))⟩,ac 10 9,aw 11 10 1 2,ax 12 10 1 11,aw 13 10 1 3,ax 14 10 1 13,⟨some 15,(some (10,true)),.call y4g [.t 12,.t 14]⟩,ar 16 10 15,ac 4 16]
def y3b:AFunc:=⟨17,[.t 4],jJ [2,3] y3b.r0 (jJ [4] y3b.r1 (.ret))⟩
theorem y3b.ok:y25 Tryz.prog Tryz.f36 y3b=true:=by kernel_rfl
theorem y3b.at:km y8w Tryz.f36:=Tryz.func36
def y3r.r0:jI:=[an 4]
def y3r.r1:jI:=[ac 5 0,ac 6 1,⟨some 7,none,.call y3f [.t 5,.t 6,.c (.fn 36 [])]⟩,ac 4 7]
def y3r:AFunc:=⟨8,[.t 4],jJ [0,1] y3r.r0 (jJ [4] y3r.r1 (.ret))⟩
theorem y3r.ok:y25 Tryz.prog Tryz.f14 y3r=true:=by kernel_rfl
theorem y3r.at:km ya5 Tryz.f14:=Tryz.func14
end C
end Go.Proofs.YtikpijbeobeckaaGreatDoor
