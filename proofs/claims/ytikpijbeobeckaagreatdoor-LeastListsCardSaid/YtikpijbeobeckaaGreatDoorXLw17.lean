/- Part 17 of the proof of the laws of the queries: CodeB. -/
import Derived.Test.YtikpijbeobeckaaGreatDoorXLw16
set_option linter.unusedSimpArgs false
set_option linter.unusedVariables false
namespace Go.Proofs.YtikpijbeobeckaaGreatDoor
open Am Go.Proofs
set_option maxRecDepth 100000
namespace C
def y19.r0:jI:=[ak 4]
def y19.r1:jI:=[ac 6 0,al 7 6,ac 8 1,al 9 8,a1f 10 7 9]
def y19.r2:jI:=[ak 4]
def y19.r3:jI:=[ah 5 0]
def y19.r4:jI:=[ac 11 5,ac 12 0,al 13 12,ar 14 11 13,ac 15 14,an 16 15 5,an 17 15 1,a35 18 15 17,a29 19 15 16 18,aq 20 15 19]
def y19.r5:jI:=[ac 23 0,ac 24 5,am 25 1 23 24,ae 26 1 25,ac 27 1,ac 28 5,am 29 1 27 28,ae 30 1 29,a1f 31 26 30]
def y19.r6:jI:=[ak 4]
def y19.r7:jI:=[ac 21 5,ax 22 21 1,ac 5 22]
def y19.l0:ACode:=.seq (jJ [0,1,5,20] y19.r4 (.post [0,1,5] (.cond (.t 20) (.skip) (.exit 0)))) (.seq (.post [0,1,5] (.block 1 (.seq (.post [0,1,5,31] (.draw [0,0,3,7,0,0,48,112,255] y19.r5)) (.post [0,1,5] (.cond (.t 31) (jJ [4] y19.r6 (.ret)) (.skip)))))) (jK [0,1,5] y19.r7))
def y19.r8:jI:=[a18 4]
def y19:AFunc:=⟨32,[.t 4],jJ [0,1] y19.r0 (.seq (jJ [0,1,10] y19.r1 (.post [0,1] (.cond (.t 10) (jJ [4] y19.r2 (.ret)) (.skip)))) (.seq (jJ [0,1,5] y19.r3 (.post [] (.block 0 (.loop y19.l0)))) (jJ [4] y19.r8 (.ret))))⟩
theorem y19.ok:y23 Tryz.prog Tryz.f16 y19=true:=by kernel_rfl
theorem y19.at:Tryz.prog.funcs[y5a]?=some Tryz.f16:=Tryz.func16
def y18.r0:jI:=[ak 4]
def y18.r1:jI:=[ac 6 0,al 7 6,ac 8 1,al 9 8,a1f 10 7 9]
def y18.r2:jI:=[ak 4]
def y18.r3:jI:=[ah 5 0]
def y18.r4:jI:=[ac 11 5,ac 12 0,al 13 12,ar 14 11 13,ac 15 14,an 16 15 5,an 17 15 1,a35 18 15 17,a29 19 15 16 18,aq 20 15 19]
def y18.r5:jI:=[ac 23 0,ac 24 5,am 25 2 23 24,af 26 0 25,ae 27 1 26,ac 28 1,ac 29 5,am 30 2 28 29,af 31 0 30,ae 32 1 31,a1f 33 27 32,ac 34 33,a12 35 34 0,a12 36 34 5,⟨some 37,(some (34,false)),.op (.iad 2 (.t 35) (.t 36))⟩,a13 38 34 1 37,a14 39 34 1 38,a12 40 34 1,a12 41 34 5,⟨some 42,(some (34,false)),.op (.iad 2 (.t 40) (.t 41))⟩,a13 43 34 1 42,a14 44 34 1 43,⟨some 45,(some (34,false)),.call y5a [.t 39,.t 44]⟩,a1r 46 34 45,a11 47 34 46]
def y18.r6:jI:=[ak 4]
def y18.r7:jI:=[ac 21 5,ax 22 21 1,ac 5 22]
def y18.l0:ACode:=.seq (jJ [0,1,5,20] y18.r4 (.post [0,1,5] (.cond (.t 20) (.skip) (.exit 0)))) (.seq (.post [0,1,5] (.block 1 (.seq (.post [0,1,5,47] (.draw [0,0,3,7,15,0,0,96,224,480,1023,2047,4095,4095,16383,32767,65535,4095,4095,397311,921599,1970175,4194303,8388607,16777215] y18.r5)) (.post [0,1,5] (.cond (.t 47) (jJ [4] y18.r6 (.ret)) (.skip)))))) (jK [0,1,5] y18.r7))
def y18.r8:jI:=[a18 4]
def y18:AFunc:=⟨48,[.t 4],jJ [0,1] y18.r0 (.seq (jJ [0,1,10] y18.r1 (.post [0,1] (.cond (.t 10) (jJ [4] y18.r2 (.ret)) (.skip)))) (.seq (jJ [0,1,5] y18.r3 (.post [] (.block 0 (.loop y18.l0)))) (jJ [4] y18.r8 (.ret))))⟩
theorem y18.ok:y23 Tryz.prog Tryz.f11 y18=true:=by kernel_rfl
theorem y18.at:Tryz.prog.funcs[y69]?=some Tryz.f11:=Tryz.func11
def y3b.r0:jI:=[a15 2 0,ak 3]
def y3b.r1:jI:=[af 4 0 2,ae 5 1 4,ae 6 1 1,a2b 7 5 6,ac 3 7]
def y3b:AFunc:=⟨8,[.t 3],jJ [1,2] y3b.r0 (jJ [3] y3b.r1 (.ret))⟩
theorem y3b.ok:y23 Tryz.prog Tryz.f76 y3b=true:=by kernel_rfl
theorem y3b.at:Tryz.prog.funcs[y8b]?=some Tryz.f76:=Tryz.func76
def yg.r0:jI:=[ah 4 0]
def yg.r1:jI:=[ac 6 0,al 7 6,ah 8 0]
def yg.r2:jI:=[ar 9 8 7]
def yg.r3:jI:=[ac 10 8,ac 5 10]
def yg.r4:jI:=[ac 11 1,ac 12 0,ac 13 5,am 14 2 12 13,ap 15 2 14,a1y 16 11 15]
def yg.r5:jI:=[ac 17 5,ac 4 17]
def yg.r6:jI:=[ax 18 8 1,ac 8 18]
def yg.l0:ACode:=jJ [0,1,7,8,9] yg.r2 (.seq (.post [0,1,7,8] (.cond (.t 9) (.skip) (.exit 0))) (.seq (.post [0,1,7,8] (.block 1 (jJ [0,1,5,7,8] yg.r3 (jJ [0,1,5,7,8,16] yg.r4 (.post [0,1,7,8] (.cond (.t 16) (jJ [4] yg.r5 (.ret)) (.skip))))))) (jK [0,1,7,8] yg.r6)))
def yg.r7:jI:=[ah 4 (-1)]
def yg:AFunc:=⟨19,[.t 4],jJ [0,1] yg.r0 (.seq (jJ [0,1,7,8] yg.r1 (.post [] (.block 0 (.loop yg.l0)))) (jJ [4] yg.r7 (.ret)))⟩
theorem yg.ok:y23 Tryz.prog Tryz.f75 yg=true:=by kernel_rfl
theorem yg.at:Tryz.prog.funcs[y3l]?=some Tryz.f75:=Tryz.func75
def y2g.r0:jI:=[a1i 3 1,a17 4 0 0]
def y2g.r1:jI:=[ac 6 0,⟨some 7,none,.op (.mkfn y8b [.t 3])⟩,⟨some 8,none,.call y3l [.t 6,.t 7]⟩,ac 5 8]
def y2g.r2:jI:=[ac 9 5,a1v 10 9 0]
def y2g.r3:jI:=[a17 4 0 0]
def y2g.r4:jI:=[ac 11 0,ac 12 5,am 13 2 11 12,af 14 1 13,ae 15 1 14,ac 4 15]
def y2g:AFunc:=⟨16,[.t 4],jJ [0,3] y2g.r0 (jJ [0,5] y2g.r1 (.seq (jJ [0,5,10] y2g.r2 (.post [0,5] (.cond (.t 10) (jJ [4] y2g.r3 (.ret)) (.skip)))) (jJ [4] y2g.r4 (.ret))))⟩
theorem y2g.ok:y23 Tryz.prog Tryz.f39 y2g=true:=by kernel_rfl
theorem y2g.at:Tryz.prog.funcs[y80]?=some Tryz.f39:=Tryz.func39
def y45.r0:jI:=[a17 4 0 0]
def y45.r1:jI:=[ac 5 0,ac 6 1,⟨some 7,none,.call y80 [.t 5,.t 6]⟩,⟨some 8,none,.call y4b [.t 7]⟩,ac 4 8]
def y45:AFunc:=⟨9,[.t 4],jJ [0,1] y45.r0 (jJ [4] y45.r1 (.ret))⟩
theorem y45.ok:y23 Tryz.prog Tryz.f17 y45=true:=by kernel_rfl
theorem y45.at:Tryz.prog.funcs[y9s]?=some Tryz.f17:=Tryz.func17
def yd.r0:jI:=[ak 6]
def yd.r1:jI:=[ac 10 0,al 11 10,ac 12 1,al 13 12,a1f 14 11 13]
def yd.r2:jI:=[ak 6]
def yd.r3:jI:=[ac 15 0,al 16 15,ah 17 0]
def yd.r4:jI:=[ar 18 17 16]
def yd.r5:jI:=[ac 19 17,am 20 2 15 17,ap 21 2 20,a2a 8 0 0,ac 7 19,aj 2 8 21]
def yd.r6:jI:=[ac 22 1,ac 23 7,am 24 2 22 23,ap 25 2 24,a2a 9 0 0,aj 2 9 25]
def yd.r7:jI:=[ac 26 2,ap 27 2 8,ap 28 2 9,a1u 29 26 27 28,a19 30 29]
def yd.r8:jI:=[ak 6]
def yd.r9:jI:=[ax 31 17 1,ac 17 31]
def yd.l0:ACode:=jJ [1,2,15,16,17,18] yd.r4 (.seq (.post [1,2,15,16,17] (.cond (.t 18) (.skip) (.exit 0))) (.seq (.post [1,2,15,16,17] (.block 1 (jJ [1,2,7,8,15,16,17] yd.r5 (jJ [1,2,8,9,15,16,17] yd.r6 (jJ [1,2,15,16,17,30] yd.r7 (.post [1,2,15,16,17] (.cond (.t 30) (jJ [6] yd.r8 (.ret)) (.skip)))))))) (jK [1,2,15,16,17] yd.r9)))
def yd.r10:jI:=[a18 6]
def yd:AFunc:=⟨32,[.t 6],jJ [0,1,2] yd.r0 (.seq (jJ [0,1,2,14] yd.r1 (.post [0,1,2] (.cond (.t 14) (jJ [6] yd.r2 (.ret)) (.skip)))) (.seq (jJ [1,2,15,16,17] yd.r3 (.post [] (.block 0 (.loop yd.l0)))) (jJ [6] yd.r10 (.ret))))⟩
theorem yd.at:Tryz.prog.funcs[y3c]?=some Tryz.f35:=Tryz.func35
def yj.r0:jI:=[ak 4]
def yj.r1:jI:=[ac 6 0,al 7 6,ac 8 1,al 9 8,a1f 10 7 9]
def yj.r2:jI:=[ak 4]
def yj.r3:jI:=[ac 11 0,al 12 11,ah 13 0]
def yj.r4:jI:=[ar 14 13 12]
def yj.r5:jI:=[ac 15 13,ac 5 15]
def yj.r6:jI:=[ac 16 0,ac 17 5,am 18 1 16 17,ae 19 1 18,ac 20 1,ac 21 5,am 22 1 20 21,ae 23 1 22,a1f 24 19 23]
def yj.r7:jI:=[ak 4]
def yj.r8:jI:=[ax 25 13 1,ac 13 25]
def yj.l0:ACode:=jJ [0,1,12,13,14] yj.r4 (.seq (.post [0,1,12,13] (.cond (.t 14) (.skip) (.exit 0))) (.seq (.post [0,1,12,13] (.block 1 (jJ [0,1,5,12,13] yj.r5 (.seq (.post [0,1,12,13,24] (.draw [0,0,3,7,0,0,48,112,255] yj.r6)) (.post [0,1,12,13] (.cond (.t 24) (jJ [4] yj.r7 (.ret)) (.skip))))))) (jK [0,1,12,13] yj.r8)))
def yj.r9:jI:=[a18 4]
def yj:AFunc:=⟨26,[.t 4],jJ [0,1] yj.r0 (.seq (jJ [0,1,10] yj.r1 (.post [0,1] (.cond (.t 10) (jJ [4] yj.r2 (.ret)) (.skip)))) (.seq (jJ [0,1,12,13] yj.r3 (.post [] (.block 0 (.loop yj.l0)))) (jJ [4] yj.r9 (.ret))))⟩
theorem yj.ok:y23 Tryz.prog Tryz.f37 yj=true:=by kernel_rfl
theorem yj.at:Tryz.prog.funcs[y4a]?=some Tryz.f37:=Tryz.func37
def y38.r0:jI:=[a15 2 0,a15 3 1,ak 4]
def y38.r1:jI:=[af 5 0 2,ae 6 1 5,af 7 0 3,ae 8 1 7,a2b 9 6 8,ac 10 9,aw 11 10 1 2,ay 12 10 1 11,aw 13 10 1 3,ay 14 10 1 13,⟨some 15,(some (10,true)),.call y4a [.t 12,.t 14]⟩,aq 16 10 15,ac 4 16]
def y38:AFunc:=⟨17,[.t 4],jJ [2,3] y38.r0 (jJ [4] y38.r1 (.ret))⟩
theorem y38.ok:y23 Tryz.prog Tryz.f36 y38=true:=by kernel_rfl
theorem y38.at:Tryz.prog.funcs[y8d]?=some Tryz.f36:=Tryz.func36
def y3n.r0:jI:=[ak 4]
def y3n.r1:jI:=[ac 5 0,ac 6 1,⟨some 7,none,.call y3c [.t 5,.t 6,.c (.fn 36 [])]⟩,ac 4 7]
def y3n:AFunc:=⟨8,[.t 4],jJ [0,1] y3n.r0 (jJ [4] y3n.r1 (.ret))⟩
theorem y3n.ok:y23 Tryz.prog Tryz.f14 y3n=true:=by kernel_rfl
theorem y3n.at:Tryz.prog.funcs[y81]?=some Tryz.f14:=Tryz.func14
def yf.r0:jI:=[ak 2]
def yf.r1:jI:=[ac 6 0,al 7 6,a1e 8 7 100]
def yf.r2:jI:=[a18 2]
def yf.r3:jI:=[ah 3 0]
def yf.r4:jI:=[ah 4 0]
def yf.r5:jI:=[ac 9 4,ac 10 0,al 11 10,ar 12 9 11]
def yf.r6:jI:=[ac 15 3,ac 16 0,ac 17 4,am 18 2 16 17,af 19 0 18,ae 20 1 19,a1h 21 20,a1a 22 15 21,ac 23 0,ac 24 4,am 25 2 23 24,af 26 1 25,ae 27 1 26,al 28 27,⟨some 29,none,.op (.bin .mul (.c (.i .i64 10)) (.t 28))⟩,a1a 30 22 29,ac 3 30]
def yf.r7:jI:=[ah 5 0]
def yf.r8:jI:=[ac 31 5,ac 32 0,ac 33 4,am 34 2 32 33,af 35 1 34,ae 36 1 35,al 37 36,ar 38 31 37,ac 39 38,an 40 39 5,⟨some 41,(some (39,true)),.op (.bin .lss (.t 40) (.c (.i .i64 500)))⟩,aq 42 39 41]
def yf.r9:jI:=[ac 45 3,ac 46 0,ac 47 4,am 48 2 46 47,af 49 1 48,ae 50 1 49,ac 51 5,am 52 1 50 51,ae 53 1 52,a1h 54 53,a1a 55 45 54,ac 3 55]
def yf.r10:jI:=[ac 43 5,ax 44 43 1,ac 5 44]
def yf.l1:ACode:=.seq (jJ [0,3,4,5,42] yf.r8 (.post [0,3,4,5] (.cond (.t 42) (.skip) (.exit 2)))) (.seq (.post [0,3,4,5] (.block 3 (jK [0,3,4,5] yf.r9))) (jK [0,3,4,5] yf.r10))
def yf.r11:jI:=[ac 56 3,a1e 57 56 50000]
def yf.r12:jI:=[a18 2]
def yf.r13:jI:=[ac 13 4,ax 14 13 1,ac 4 14]
def yf.l0:ACode:=.seq (jJ [0,3,4,12] yf.r5 (.post [0,3,4] (.cond (.t 12) (.skip) (.exit 0)))) (.seq (.post [0,3,4] (.block 1 (.seq (.post [0,3,4] (.draw [0,0,0,6,14,30,62,127,0,0,768,1792,3840,7936,16128,32767,65535] yf.r6)) (.seq (jJ [0,3,4,5] yf.r7 (.post [0,3,4] (.block 2 (.loop yf.l1)))) (jJ [0,3,4,57] yf.r11 (.post [0,3,4] (.cond (.t 57) (jJ [2] yf.r12 (.ret)) (.skip)))))))) (jK [0,3,4] yf.r13))
def yf.r14:jI:=[ak 2]
def yf:AFunc:=⟨58,[.t 2],jJ [0] yf.r0 (.seq (jJ [0,8] yf.r1 (.post [0] (.cond (.t 8) (jJ [2] yf.r2 (.ret)) (.skip)))) (jJ [0,3] yf.r3 (.seq (jJ [0,3,4] yf.r4 (.post [] (.block 0 (.loop yf.l0)))) (jJ [2] yf.r14 (.ret)))))⟩
theorem yf.ok:y23 Tryz.prog Tryz.f15 yf=true:=by kernel_rfl
theorem yf.at:Tryz.prog.funcs[y4k]?=some Tryz.f15:=Tryz.func15
def yn.r0:jI:=[ah 4 0]
def yn.r1:jI:=[ac 6 0,al 7 6,ah 8 0]
def yn.r2:jI:=[ar 9 8 7]
def yn.r3:jI:=[ac 10 8,ac 5 10]
def yn.r4:jI:=[ac 11 1,ac 12 0,ac 13 5,am 14 1 12 13,ae 15 1 14,a2b 16 11 15]
def yn.r5:jI:=[ac 17 5,ac 4 17]
def yn.r6:jI:=[ax 18 8 1,ac 8 18]
def yn.l0:ACode:=jJ [0,1,7,8,9] yn.r2 (.seq (.post [0,1,7,8] (.cond (.t 9) (.skip) (.exit 0))) (.seq (.post [0,1,7,8] (.block 1 (jJ [0,1,5,7,8] yn.r3 (jJ [0,1,5,7,8,16] yn.r4 (.post [0,1,7,8] (.cond (.t 16) (jJ [4] yn.r5 (.ret)) (.skip))))))) (jK [0,1,7,8] yn.r6)))
def yn.r7:jI:=[ah 4 (-1)]
def yn:AFunc:=⟨19,[.t 4],jJ [0,1] yn.r0 (.seq (jJ [0,1,7,8] yn.r1 (.post [] (.block 0 (.loop yn.l0)))) (jJ [4] yn.r7 (.ret)))⟩
theorem yn.ok:y23 Tryz.prog Tryz.f77 yn=true:=by kernel_rfl
theorem yn.at:Tryz.prog.funcs[y49]?=some Tryz.f77:=Tryz.func77
def y1r.r0:jI:=[ak 4]
def y1r.r1:jI:=[ac 5 0,ac 6 1,⟨some 7,none,.call y49 [.t 5,.t 6]⟩,a1j 8 7 0,ac 4 8]
def y1r:AFunc:=⟨9,[.t 4],jJ [0,1] y1r.r0 (jJ [4] y1r.r1 (.ret))⟩
theorem y1r.ok:y23 Tryz.prog Tryz.f40 y1r=true:=by kernel_rfl
theorem y1r.at:Tryz.prog.funcs[y3i]?=some Tryz.f40:=Tryz.func40
def y1q.r0:jI:=[a17 4 0 0]
def y1q.r1:jI:=[a17 5 0 0]
def y1q.r2:jI:=[ac 8 0,al 9 8,ah 10 0]
def y1q.r3:jI:=[ar 11 10 9]
def y1q.r4:jI:=[am 12 2 8 10,ap 13 2 12,a2a 7 0 0,aj 2 7 13]
def y1q.r5:jI:=[ac 14 1,af 15 0 7,ae 16 1 15,⟨some 17,none,.call y3i [.t 14,.t 16]⟩]
def y1q.r6:jI:=[ac 18 5,af 19 0 7,ae 20 1 19,af 21 1 7,ae 22 1 21,⟨some 23,none,.call y4b [.t 22]⟩,⟨some 24,none,.op (.build [.s [],.sl none 0 0] [(0,1,.t 20),(1,1,.t 23)])⟩,a33 25 1 2 0 0 0 2 24,a1g 26 2 40 18 25,ac 5 26]
def y1q.r7:jI:=[ax 27 10 1,ac 10 27]
def y1q.l0:ACode:=jJ [1,5,8,9,10,11] y1q.r3 (.seq (.post [1,5,8,9,10] (.cond (.t 11) (.skip) (.exit 0))) (.seq (.post [1,5,8,9,10] (.block 1 (jJ [1,5,7,8,9,10] y1q.r4 (jJ [1,5,7,8,9,10,17] y1q.r5 (.post [1,5,8,9,10] (.cond (.t 17) (.post [1,5,8,9,10] (.draw [0,0,2,0,8,24,62,126,255,511] y1q.r6)) (.skip))))))) (jK [1,5,8,9,10] y1q.r7)))
def y1q.r8:jI:=[ac 28 5,ac 4 28]
def y1q:AFunc:=⟨29,[.t 4],jJ [0,1] y1q.r0 (jJ [0,1,5] y1q.r1 (.seq (jJ [1,5,8,9,10] y1q.r2 (.post [5] (.block 0 (.loop y1q.l0)))) (jJ [4] y1q.r8 (.ret))))⟩
theorem y1q.ok:y23 Tryz.prog Tryz.f19 y1q=true:=by kernel_rfl
theorem y1q.at:Tryz.prog.funcs[y9e]?=some Tryz.f19:=Tryz.func19
def y1c.r0:jI:=[ah 4 0]
def y1c.r1:jI:=[ah 5 0]
def y1c.r2:jI:=[ac 6 5,ac 7 0,al 8 7,ar 9 6 8]
def y1c.r3:jI:=[ac 12 0,ac 13 5,am 14 1 12 13,ae 15 1 14,ac 16 1,a2b 17 15 16]
def y1c.r4:jI:=[ac 18 5,ac 4 18]
def y1c.r5:jI:=[ac 10 5,ax 11 10 1,ac 5 11]
def y1c.l0:ACode:=.seq (jJ [0,1,5,9] y1c.r2 (.post [0,1,5] (.cond (.t 9) (.skip) (.exit 0)))) (.seq (.post [0,1,5] (.block 1 (jJ [0,1,5,17] y1c.r3 (.post [0,1,5] (.cond (.t 17) (jJ [4] y1c.r4 (.ret)) (.skip)))))) (jK [0,1,5] y1c.r5))
def y1c.r6:jI:=[ah 4 (-1)]
def y1c:AFunc:=⟨19,[.t 4],jJ [0,1] y1c.r0 (.seq (jJ [0,1,5] y1c.r1 (.post [] (.block 0 (.loop y1c.l0)))) (jJ [4] y1c.r6 (.ret)))⟩
theorem y1c.ok:y23 Tryz.prog Tryz.f26 y1c=true:=by kernel_rfl
theorem y1c.at:Tryz.prog.funcs[y5k]?=some Tryz.f26:=Tryz.func26
def y1d.r0:jI:=[a17 4 0 0]
def y1d.r1:jI:=[a17 5 0 0]
def y1d.r2:jI:=[ah 6 0]
def y1d.r3:jI:=[ac 7 6,ac 8 0,al 9 8,ar 10 7 9]
def y1d.r4:jI:=[ac 13 1,ac 14 0,ac 15 6,am 16 2 14 15,af 17 0 16,ae 18 1 17,⟨some 19,none,.call y5k [.t 13,.t 18]⟩,a1j 20 19 0]
def y1d.r5:jI:=[ac 21 5,ac 22 0,ac 23 6,am 24 2 22 23,ap 25 2 24,a33 26 1 2 0 0 0 2 25,a1g 27 2 40 21 26,ac 5 27]
def y1d.r6:jI:=[ac 11 6,ax 12 11 1,ac 6 12]
def y1d.l0:ACode:=.seq (jJ [0,1,5,6,10] y1d.r3 (.post [0,1,5,6] (.cond (.t 10) (.skip) (.exit 0)))) (.seq (.post [0,1,5,6] (.block 1 (jJ [0,1,5,6,20] y1d.r4 (.post [0,1,5,6] (.cond (.t 20) (jK [0,1,5,6] y1d.r5) (.skip)))))) (jK [0,1,5,6] y1d.r6))
def y1d.r7:jI:=[ac 28 5,ac 4 28]
def y1d:AFunc:=⟨29,[.t 4],jJ [0,1] y1d.r0 (jJ [0,1,5] y1d.r1 (.seq (jJ [0,1,5,6] y1d.r2 (.post [5] (.block 0 (.loop y1d.l0)))) (jJ [4] y1d.r7 (.ret))))⟩
theorem y1d.ok:y23 Tryz.prog Tryz.f20 y1d=true:=by kernel_rfl
theorem y1d.at:Tryz.prog.funcs[y7f]?=some Tryz.f20:=Tryz.func20
def y15.r0:jI:=[ak 4]
def y15.r1:jI:=[ac 10 0,al 11 10,ah 12 0]
def y15.r2:jI:=[ar 13 12 11]
def y15.r3:jI:=[am 14 2 10 12,ap 15 2 14,a2a 6 0 0,aj 2 6 15]
def y15.r4:jI:=[ac 16 1,af 17 0 6,ae 18 1 17,⟨some 19,none,.call y80 [.t 16,.t 18]⟩,ac 7 19]
def y15.r5:jI:=[af 20 1 6,ae 21 1 20,al 22 21,ah 23 0]
def y15.r6:jI:=[ar 24 23 22]
def y15.r7:jI:=[am 25 1 21 23,ae 26 1 25,ac 9 26]
def y15.r8:jI:=[ac 27 7,ac 28 9,⟨some 29,none,.call y3i [.t 27,.t 28]⟩,a19 30 29]
def y15.r9:jI:=[ak 4]
def y15.r10:jI:=[ax 31 23 1,ac 23 31]
def y15.l1:ACode:=jJ [1,7,10,11,12,21,22,23,24] y15.r6 (.seq (.post [1,7,10,11,12,21,22,23] (.cond (.t 24) (.skip) (.exit 2))) (.seq (.post [1,7,10,11,12,21,22,23] (.block 3 (jJ [1,7,9,10,11,12,21,22,23] y15.r7 (jJ [1,7,10,11,12,21,22,23,30] y15.r8 (.post [1,7,10,11,12,21,22,23] (.cond (.t 30) (jJ [4] y15.r9 (.ret)) (.skip))))))) (jK [1,7,10,11,12,21,22,23] y15.r10)))
def y15.r11:jI:=[ax 32 12 1,ac 12 32]
def y15.l0:ACode:=jJ [1,10,11,12,13] y15.r2 (.seq (.post [1,10,11,12] (.cond (.t 13) (.skip) (.exit 0))) (.seq (.post [1,10,11,12] (.block 1 (jJ [1,6,10,11,12] y15.r3 (jJ [1,6,7,10,11,12] y15.r4 (jJ [1,7,10,11,12,21,22,23] y15.r5 (.post [1,10,11,12] (.block 2 (.loop y15.l1)))))))) (jK [1,10,11,12] y15.r11)))
def y15.r12:jI:=[a18 4]
def y15:AFunc:=⟨33,[.t 4],jJ [0,1] y15.r0 (.seq (jJ [1,10,11,12] y15.r1 (.post [] (.block 0 (.loop y15.l0)))) (jJ [4] y15.r12 (.ret)))⟩
theorem y15.ok:y23 Tryz.prog Tryz.f21 y15=true:=by kernel_rfl
theorem y15.at:Tryz.prog.funcs[y8c]?=some Tryz.f21:=Tryz.func21
def yz.r0:jI:=[ak 4]
def yz.r1:jI:=[ah 5 0]
def yz.r2:jI:=[ac 8 5,ac 9 0,al 10 9,ar 11 8 10]
def yz.r3:jI:=[ac 14 1,ac 15 0,ac 16 5,am 17 2 15 16,af 18 0 17,ae 19 1 18,⟨some 20,none,.call y75 [.t 14,.t 19]⟩,ac 6 20]
def yz.r4:jI:=[ah 7 0]
def yz.r5:jI:=[ac 21 7,ac 22 0,ac 23 5,am 24 2 22 23,af 25 1 24,ae 26 1 25,al 27 26,ar 28 21 27]
def yz.r6:jI:=[ac 31 6,ac 32 0,ac 33 5,am 34 2 32 33,af 35 1 34,ae 36 1 35,ac 37 7,am 38 1 36 37,ae 39 1 38,⟨some 40,none,.call y5k [.t 31,.t 39]⟩,a1v 41 40 0]
def yz.r7:jI:=[ak 4]
def yz.r8:jI:=[ac 29 7,ax 30 29 1,ac 7 30]
def yz.l1:ACode:=.seq (jJ [0,1,5,6,7,28] yz.r5 (.post [0,1,5,6,7] (.cond (.t 28) (.skip) (.exit 2)))) (.seq (.post [0,1,5,6,7] (.block 3 (jJ [0,1,5,6,7,41] yz.r6 (.post [0,1,5,6,7] (.cond (.t 41) (jJ [4] yz.r7 (.ret)) (.skip)))))) (jK [0,1,5,6,7] yz.r8))
def yz.r9:jI:=[ac 12 5,ax 13 12 1,ac 5 13]
def yz.l0:ACode:=.seq (jJ [0,1,5,11] yz.r2 (.post [0,1,5] (.cond (.t 11) (.skip) (.exit 0)))) (.seq (.post [0,1,5] (.block 1 (jJ [0,1,5,6] yz.r3 (jJ [0,1,5,6,7] yz.r4 (.post [0,1,5] (.block 2 (.loop yz.l1))))))) (jK [0,1,5] yz.r9))
def yz.r10:jI:=[a18 4]
def yz:AFunc:=⟨42,[.t 4],jJ [0,1] yz.r0 (.seq (jJ [0,1,5] yz.r1 (.post [] (.block 0 (.loop yz.l0)))) (jJ [4] yz.r10 (.ret)))⟩
theorem yz.ok:y23 Tryz.prog Tryz.f22 yz=true:=by kernel_rfl
theorem yz.at:Tryz.prog.funcs[y6g]?=some Tryz.f22:=Tryz.func22
def yo.r0:jI:=[ak 6]
def yo.r1:jI:=[ac 8 0,⟨some 9,none,.call y4k [.t 8]⟩,ac 10 9,a12 11 10 1,⟨some 12,(some (10,false)),.call y4k [.t 11]⟩,a11 13 10 12,ac 14 13,a12 15 14 2,a1t 16 14 15,a1m 17 14 16 50,a11 18 14 17]
def yo.r2:jI:=[a18 6]
def yo.r3:jI:=[ah 7 0]
def yo.r4:jI:=[ac 19 7,ac 20 2,al 21 20,ar 22 19 21]
def yo.r5:jI:=[ac 25 2,ac 26 7,am 27 1 25 26,ae 28 1 27,a1h 29 28,a1e 30 29 200]
def yo.r6:jI:=[a18 6]
def yo.r7:jI:=[ac 31 0,ac 32 2,ac 33 7,am 34 1 32 33,ae 35 1 34,⟨some 36,none,.call y9s [.t 31,.t 35]⟩,ac 37 0,ac 38 2,ac 39 7,am 40 1 38 39,ae 41 1 40,⟨some 42,none,.call y75 [.t 37,.t 41]⟩,⟨some 43,none,.call y5a [.t 36,.t 42]⟩,a19 44 43]
def yo.r8:jI:=[ak 6]
def yo.r9:jI:=[ac 23 7,ax 24 23 1,ac 7 24]
def yo.l0:ACode:=.seq (jJ [0,1,2,7,22] yo.r4 (.post [0,1,2,7] (.cond (.t 22) (.skip) (.exit 0)))) (.seq (.post [0,1,2,7] (.block 1 (.seq (jJ [0,1,2,7,30] yo.r5 (.post [0,1,2,7] (.cond (.t 30) (jJ [6] yo.r6 (.ret)) (.skip)))) (.seq (.post [0,1,2,7,44] (.draw [0,0,0,6,14,31,0,0,0,384,896,2047,4095,8191] yo.r7)) (.post [0,1,2,7] (.cond (.t 44) (jJ [6] yo.r8 (.ret)) (.skip))))))) (jK [0,1,2,7] yo.r9))
def yo.r10:jI:=[ac 45 0,ac 46 2,⟨some 47,none,.call y9e [.t 45,.t 46]⟩,ac 48 0,ac 49 2,⟨some 50,none,.call y7f [.t 48,.t 49]⟩,⟨some 51,none,.call y69 [.t 47,.t 50]⟩,ac 52 51,an 53 52 0,an 54 52 1,⟨some 55,(some (52,true)),.call y8c [.t 53,.t 54]⟩,an 56 52 0,an 57 52 1,⟨some 58,(some (52,true)),.call y6g [.t 56,.t 57]⟩,⟨some 59,(some (52,true)),.op (.eqk .bool false (.t 55) (.t 58))⟩,aq 60 52 59,ac 61 60,an 62 61 0,an 63 61 1,⟨some 64,(some (61,true)),.call y81 [.t 62,.t 63]⟩,an 65 61 0,an 66 61 1,⟨some 67,(some (61,true)),.call y69 [.t 65,.t 66]⟩,⟨some 68,(some (61,true)),.op (.eqk .bool false (.t 64) (.t 67))⟩,aq 69 61 68,ac 70 69,an 71 70 0,an 72 70 0,⟨some 73,(some (70,true)),.call y81 [.t 71,.t 72]⟩,aq 74 70 73,ac 75 74,⟨some 76,(some (75,true)),.call y6x []⟩,aq 77 75 76,ac 6 77]
def yo:AFunc:=⟨78,[.t 6],jJ [0,1,2] yo.r0 (.seq (jJ [0,1,2,18] yo.r1 (.post [0,1,2] (.cond (.t 18) (jJ [6] yo.r2 (.ret)) (.skip)))) (.seq (jJ [0,1,2,7] yo.r3 (.post [0,1,2] (.block 0 (.loop yo.l0)))) (jJ [6] yo.r10 (.ret))))⟩
theorem yo.ok:y23 Tryz.prog Tryz.f5 yo=true:=by kernel_rfl
theorem yo.at:Tryz.prog.funcs[y6v]?=some Tryz.f5:=Tryz.func5
end C
end Go.Proofs.YtikpijbeobeckaaGreatDoor
