/- Part 17 of the proof of the laws of the queries: CodeB. -/
import Derived.Test.YthmkcebbeehbeaaGreatDoorXTw16
set_option linter.unusedSimpArgs false
set_option linter.unusedVariables false
namespace Go.Proofs.YthmkcebbeehbeaaGreatDoor
open Am Go.Proofs
set_option maxRecDepth 100000
namespace C
def y39.r0:jI:=[aw 2,am 3]
def y39.r1:jI:=[ab 5 0,az 6 5,a27 7 6 3]
def y39.r2:jI:=[aw 2,am 3]
def y39.r3:jI:=[ab 8 0,ab 9 0,az 10 9,a31 11 10 3,a1q 12 8 11,ab 4 12]
def y39.r4:jI:=[ab 13 4,⟨some 14,none,.call ycq [.t 13]⟩,ab 15 0,a1s 16 14 15]
def y39.r5:jI:=[aw 2,am 3]
def y39.r6:jI:=[ab 17 4,ab 2 17,a1b 3]
def y39:AFunc:=⟨18,[.t 2,.t 3],jJ [0] y39.r0 (.seq (jJ [0,7] y39.r1 (.post [0] (.cond (.t 7) (jJ [2,3] y39.r2 (.ret)) (.skip)))) (jJ [0,4] y39.r3 (.seq (jJ [4,16] y39.r4 (.post [4] (.cond (.t 16) (jJ [2,3] y39.r5 (.ret)) (.skip)))) (jJ [2,3] y39.r6 (.ret)))))⟩
theorem y39.ok:y1o Tryz.prog Tryz.f34 y39=true:=by kernel_rfl
theorem y39.at:Tryz.prog.funcs[yec]?=some Tryz.f34:=Tryz.func34
def y1v.r0:jI:=[am 4]
def y1v.r1:jI:=[ab 5 0,az 6 5,ab 7 1,az 8 7,a2y 9 6 8,ab 10 9,aj 11 10 0,aj 12 10 1,a1j 13 10 12,⟨some 14,(some (10,true)),.op (.sls (.t 11) none (some (.t 13)))⟩,aj 15 10 1,a33 16 10 14 15,an 17 10 16,ab 4 17]
def y1v:AFunc:=⟨18,[.t 4],jJ [0,1] y1v.r0 (jJ [4] y1v.r1 (.ret))⟩
theorem y1v.ok:y1o Tryz.prog Tryz.f165 y1v=true:=by kernel_rfl
theorem y1v.at:Tryz.prog.funcs[y51]?=some Tryz.f165:=Tryz.func165
def y1e.r0:jI:=[aw 4,am 5]
def y1e.r1:jI:=[ab 6 0,ab 7 1,⟨some 8,none,.call y51 [.t 6,.t 7]⟩,a1a 9 8]
def y1e.r2:jI:=[ab 10 0,ab 4 10,am 5]
def y1e.r3:jI:=[ab 11 0,ab 12 1,az 13 12,a1z 14 11 13,ab 4 14,a1b 5]
def y1e:AFunc:=⟨15,[.t 4,.t 5],jJ [0,1] y1e.r0 (.seq (jJ [0,1,9] y1e.r1 (.post [0,1] (.cond (.t 9) (jJ [4,5] y1e.r2 (.ret)) (.skip)))) (jJ [4,5] y1e.r3 (.ret)))⟩
theorem y1e.ok:y1o Tryz.prog Tryz.f110 y1e=true:=by kernel_rfl
theorem y1e.at:Tryz.prog.funcs[y52]?=some Tryz.f110:=Tryz.func110
def y3d.r0:jI:=[aw 4,am 5]
def y3d.r1:jI:=[ab 6 0,ab 7 1,⟨some 8,none,.call y52 [.t 6,.t 7]⟩,ah 9 0 8,ah 10 1 8,ab 4 9,ab 5 10]
def y3d:AFunc:=⟨11,[.t 4,.t 5],jJ [0,1] y3d.r0 (jJ [4,5] y3d.r1 (.ret))⟩
theorem y3d.ok:y1o Tryz.prog Tryz.f53 y3d=true:=by kernel_rfl
theorem y3d.at:Tryz.prog.funcs[y88]?=some Tryz.f53:=Tryz.func53
def y4n.r0:jI:=[a1l 2]
def y4n.r1:jI:=[ab 3 0,⟨some 4,none,.op (.build [.s [],.i .i64 0,.i .i64 0] [(0,1,.t 3)])⟩,a1g 5 4,ab 2 5]
def y4n:AFunc:=⟨6,[.t 2],jJ [0] y4n.r0 (jJ [2] y4n.r1 (.ret))⟩
theorem y4n.ok:y1o Tryz.prog Tryz.f54 y4n=true:=by kernel_rfl
theorem y4n.at:Tryz.prog.funcs[yae]?=some Tryz.f54:=Tryz.func54
def ya.r0:jI:=[af 2 0,af 3 0,af 4 0]
def ya.r1:jI:=[af 5 0]
def ya.r2:jI:=[ab 8 0,ak 9 8,ae 10 0 9,ac 11 1 10,ab 12 0,ak 13 12,ae 14 1 13,ac 15 1 14,ab 16 0,ak 17 16,ae 18 0 17,ac 19 1 18,az 20 19,ab 21 0,ak 22 21,ae 23 1 22,ac 24 1 23,ar 25 24 5,⟨some 26,none,.op (.mn [.t 20,.t 25])⟩,⟨some 27,none,.op (.sls (.t 11) (some (.t 15)) (some (.t 26)))⟩,⟨some 28,none,.op (.s2b (.t 27))⟩,ap 29 28,af 30 0]
def ya.r3:jI:=[aq 31 30 29]
def ya.r4:jI:=[ab 32 30,av 33 1 28 30,ac 34 1 33,ab 6 32,ab 7 34]
def ya.r5:jI:=[ab 35 6,ay 36 35 4,ab 37 36,aj 38 37 7,⟨some 39,(some (37,true)),.op (.bin .gtr (.t 38) (.c (.i .u8 1)))⟩,an 40 37 39]
def ya.r6:jI:=[af 2 0,af 3 0,af 4 2]
def ya.r7:jI:=[ab 41 5,ab 42 7,⟨some 43,none,.op (.bin .and (.t 42) (.c (.i .u8 127)))⟩,a2n 44 43,ab 45 6,a2a 46 7 45,⟨some 47,none,.op (.bin .shl (.t 44) (.t 46))⟩,⟨some 48,none,.op (.bin .or (.t 41) (.t 47))⟩,ab 5 48]
def ya.r8:jI:=[ab 53 7,⟨some 54,none,.op (.bin .and (.t 53) (.c (.i .u8 128)))⟩,⟨some 55,none,.op (.bin .neq (.t 54) (.c (.i .u8 0)))⟩,ab 52 55]
def ya.r9:jI:=[ab 57 7,a1x 58 57 0,ab 59 58,aj 60 59 6,a2v 61 59 60 0,an 62 59 61,ab 56 62]
def ya.r10:jI:=[af 2 0,af 3 0,af 4 3]
def ya.r11:jI:=[ab 64 5,a18 65 64 268435456,ab 63 65]
def ya.r12:jI:=[af 2 0,af 3 0,af 4 2]
def ya.r13:jI:=[ab 49 5,ab 50 6,ar 51 50 1,ab 2 49,ab 3 51,af 4 0]
def ya.r14:jI:=[ar 66 30 1,ab 30 66]
def ya.l0:ACode:=jJ [5,28,29,30,31] ya.r3 (.seq (.post [5,28,29,30] (.cond (.t 31) (.skip) (.exit 0))) (.seq (.post [5,28,29,30] (.block 1 (jJ [5,6,7,28,29,30] ya.r4 (.seq (jJ [5,6,7,28,29,30,40] ya.r5 (.post [5,6,7,28,29,30] (.cond (.t 40) (jJ [2,3,4] ya.r6 (.ret)) (.skip)))) (jJ [5,6,7,28,29,30] ya.r7 (.post [5,28,29,30] (.block 2 (jJ [5,6,7,28,29,30,52] ya.r8 (.post [5,28,29,30] (.cond (.t 52) (.skip) (jJ [5,6,56] ya.r9 (.post [5,28,29,30] (.cond (.t 56) (jJ [2,3,4] ya.r10 (.ret)) (jJ [5,6,63] ya.r11 (.post [5,28,29,30] (.cond (.t 63) (jJ [2,3,4] ya.r12 (.ret)) (jJ [2,3,4] ya.r13 (.ret)))))))))))))))))) (jK [5,28,29,30] ya.r14)))
def ya.r15:jI:=[af 2 0,af 3 0,af 4 1]
def ya:AFunc:=⟨67,[.t 2,.t 3,.t 4],jJ [0] ya.r0 (jJ [0,5] ya.r1 (.seq (.seq (.post [5,28,29,30] (.draw [0,1,3,7,0,16,48,112,0,256,768,1792,3840,0,8192,24576,57344,122880,261888,524287,1048575,2097151,0] ya.r2)) (.post [] (.block 0 (.loop ya.l0)))) (jJ [2,3,4] ya.r15 (.ret))))⟩
theorem ya.ok:y1o Tryz.prog Tryz.f166 ya=true:=by kernel_rfl
theorem ya.at:Tryz.prog.funcs[y7s]?=some Tryz.f166:=Tryz.func166
def yk.r0:jI:=[af 4 0,aw 5]
def yk.r1:jI:=[ab 10 0,ak 11 10,ae 12 2 11,ac 13 1 12,a11 14 13 0]
def yk.r2:jI:=[af 4 0,aw 5]
def yk.r3:jI:=[ab 16 0,⟨some 17,none,.call y7s [.t 16]⟩,ab 15 17,ah 18 0 15,ah 19 1 15,ah 20 2 15,ab 6 18,ab 7 19,ab 8 20]
def yk.r4:jI:=[ab 21 8,ay 22 21 0,ab 23 22,aj 24 23 1,aj 25 23 6,⟨some 26,(some (23,true)),.callv (.t 24) [.t 25]⟩,aj 27 23 0,a2q 28 23 27,a14 29 23 0 28,a12 30 23 1 29,a1j 31 23 30,aj 32 23 0,a2q 33 23 32,a14 34 23 1 33,a12 35 23 1 34,⟨some 36,(some (23,true)),.op (.bin .sub (.t 31) (.t 35))⟩,aj 37 23 7,⟨some 38,(some (23,true)),.op (.bin .sub (.t 36) (.t 37))⟩,⟨some 39,(some (23,true)),.op (.bin .gtr (.t 26) (.t 38))⟩,an 40 23 39]
def yk.r5:jI:=[af 8 1]
def yk.r6:jI:=[ab 41 8,a11 42 41 0]
def yk.r7:jI:=[ab 43 0,ab 44 8,ak 45 43,ae 46 2 45,ai 1 46 44]
def yk.r8:jI:=[af 4 0,aw 5]
def yk.r9:jI:=[ab 47 0,ak 48 47,ae 49 1 48,ac 50 1 49,ab 51 7,a19 52 50 51,ab 9 52]
def yk.r10:jI:=[ab 53 0,ab 54 9,ab 55 1,ab 56 6,a1c 57 55 56,a19 58 54 57,ak 59 53,ae 60 1 59,ai 1 60 58]
def yk.r11:jI:=[ab 61 6,ab 62 0,ak 63 62,ae 64 0 63,ac 65 1 64,ab 66 9,ab 67 0,ak 68 67,ae 69 1 68,ac 70 1 69,⟨some 71,none,.op (.sls (.t 65) (some (.t 66)) (some (.t 70)))⟩,ab 4 61,ab 5 71]
def yk:AFunc:=⟨72,[.t 4,.t 5],jJ [0,1] yk.r0 (.seq (jJ [0,1,14] yk.r1 (.post [0,1] (.cond (.t 14) (jJ [4,5] yk.r2 (.ret)) (.skip)))) (jJ [0,1,6,7,8] yk.r3 (.seq (.seq (.post [0,1,6,7,8,40] (.draw [0,1,3,7,7,31,7,71,199,455,967,7,2055,6151,14343,32711,7,131015,262143,524287] yk.r4)) (.post [0,1,6,7,8] (.cond (.t 40) (jK [0,1,6,7,8] yk.r5) (.skip)))) (.seq (jJ [0,1,6,7,8,42] yk.r6 (.post [0,1,6,7] (.cond (.t 42) (jJ [] yk.r7 (jJ [4,5] yk.r8 (.ret))) (.skip)))) (jJ [0,1,6,9] yk.r9 (jJ [0,6,9] yk.r10 (.seq (.post [4,5] (.draw [0,0,2,6,14,0,0,64,192,448,1022,1,4095] yk.r11)) (.ret))))))))⟩
theorem yk.ok:y1o Tryz.prog Tryz.f111 yk=true:=by kernel_rfl
theorem yk.at:Tryz.prog.funcs[y6m]?=some Tryz.f111:=Tryz.func111
def y2p.r0:jI:=[af 2 0]
def y2p.r1:jI:=[af 2 0]
def y2p:AFunc:=⟨3,[.t 2],jJ [] y2p.r0 (jJ [2] y2p.r1 (.ret))⟩
theorem y2p.ok:y1o Tryz.prog Tryz.f112 y2p=true:=by kernel_rfl
theorem y2p.at:Tryz.prog.funcs[y6q]?=some Tryz.f112:=Tryz.func112
def y2i.r0:jI:=[af 2 0]
def y2i.r1:jI:=[ab 6 0,⟨some 7,none,.call y6m [.t 6,.c (.fn 112 [])]⟩,ab 5 7,ah 8 0 5,ah 9 1 5,ab 3 8,ab 4 9]
def y2i.r2:jI:=[ab 10 3,ab 2 10]
def y2i:AFunc:=⟨11,[.t 2],jJ [0] y2i.r0 (jJ [3] y2i.r1 (jJ [2] y2i.r2 (.ret)))⟩
theorem y2i.ok:y1o Tryz.prog Tryz.f55 y2i=true:=by kernel_rfl
theorem y2i.at:Tryz.prog.funcs[y2q]?=some Tryz.f55:=Tryz.func55
def y2x.r0:jI:=[ab 4 0,ak 5 4,ae 6 2 5,ac 7 1 6,ay 8 7 0]
def y2x.r1:jI:=[ab 9 0,ab 10 1,ak 11 9,ae 12 2 11,ai 1 12 10]
def y2x:AFunc:=⟨13,[],jJ [0,1,8] y2x.r0 (.post [] (.cond (.t 8) (jK [] y2x.r1) (.skip)))⟩
theorem y2x.ok:y1o Tryz.prog Tryz.f85 y2x=true:=by kernel_rfl
theorem y2x.at:Tryz.prog.funcs[y3m]?=some Tryz.f85:=Tryz.func85
def y23.r0:jI:=[af 2 0,af 3 0]
def y23.r1:jI:=[ab 4 0,ak 5 4,ae 6 2 5,ac 7 1 6,ay 8 7 0,ab 9 8,aj 10 9 0,a2q 11 9 10,a14 12 9 1 11,a12 13 9 1 12,aj 14 9 0,a2q 15 9 14,a14 16 9 0 15,a12 17 9 1 16,a1j 18 9 17,a36 19 9 13 18,an 20 9 19]
def y23.r2:jI:=[ab 21 0,ak 22 21,ae 23 1 22,ac 24 1 23,ab 2 24,af 3 6]
def y23.r3:jI:=[ab 25 0,ak 26 25,ae 27 1 26,ac 28 1 27,ab 29 0,ak 30 29,ae 31 2 30,ac 32 1 31,ab 2 28,ab 3 32]
def y23:AFunc:=⟨33,[.t 2,.t 3],jJ [0] y23.r0 (.seq (.seq (.post [0,20] (.draw [0,1,3,7,15,31,63,127,255,511,63,1087,3135,7231,15423,32767,65535] y23.r1)) (.post [0] (.cond (.t 20) (jJ [2,3] y23.r2 (.ret)) (.skip)))) (.seq (.post [2,3] (.draw [0,1,3,7,0,16,48,112,15,511] y23.r3)) (.ret)))⟩
theorem y23.ok:y1o Tryz.prog Tryz.f88 y23=true:=by kernel_rfl
theorem y23.at:Tryz.prog.funcs[y4k]?=some Tryz.f88:=Tryz.func88
def y3k.r0:jI:=[af 2 0]
def y3k.r1:jI:=[ab 6 0,⟨some 7,none,.call y4k [.t 6]⟩,ab 5 7,ah 8 0 5,ah 9 1 5,ab 3 8,ab 4 9]
def y3k.r2:jI:=[ab 10 4,a11 11 10 6]
def y3k.r3:jI:=[ab 12 4,ab 2 12]
def y3k.r4:jI:=[af 2 0]
def y3k:AFunc:=⟨13,[.t 2],jJ [0] y3k.r0 (.seq (jJ [4] y3k.r1 (jJ [4,11] y3k.r2 (.post [] (.cond (.t 11) (jJ [2] y3k.r3 (.ret)) (.skip))))) (jJ [2] y3k.r4 (.ret)))⟩
theorem y3k.ok:y1o Tryz.prog Tryz.f56 y3k=true:=by kernel_rfl
theorem y3k.at:Tryz.prog.funcs[ya0]?=some Tryz.f56:=Tryz.func56
def y35.r0:jI:=[af 2 0]
def y35.r1:jI:=[ab 6 0,⟨some 7,none,.call y4k [.t 6]⟩,ab 5 7,ah 8 0 5,ah 9 1 5,ab 3 8,ab 4 9]
def y35.r2:jI:=[ab 10 4,a11 11 10 6]
def y35.r3:jI:=[ab 12 4,ab 2 12]
def y35.r4:jI:=[af 2 0]
def y35:AFunc:=⟨13,[.t 2],jJ [0] y35.r0 (.seq (jJ [4] y35.r1 (jJ [4,11] y35.r2 (.post [] (.cond (.t 11) (jJ [2] y35.r3 (.ret)) (.skip))))) (jJ [2] y35.r4 (.ret)))⟩
theorem y35.ok:y1o Tryz.prog Tryz.f149 y35=true:=by kernel_rfl
theorem y35.at:Tryz.prog.funcs[y9d]?=some Tryz.f149:=Tryz.func149
def y2u.r0:jI:=[af 2 0]
def y2u.r1:jI:=[ab 3 0,ab 2 3]
def y2u:AFunc:=⟨4,[.t 2],jJ [0] y2u.r0 (jJ [2] y2u.r1 (.ret))⟩
theorem y2u.ok:y1o Tryz.prog Tryz.f151 y2u=true:=by kernel_rfl
theorem y2u.at:Tryz.prog.funcs[y77]?=some Tryz.f151:=Tryz.func151
def y2n.r0:jI:=[aw 2]
def y2n.r1:jI:=[ab 6 0,⟨some 7,none,.call y6m [.t 6,.c (.fn 151 [])]⟩,ab 5 7,ah 8 0 5,ah 9 1 5,ab 3 8,ab 4 9]
def y2n.r2:jI:=[ab 10 4,ab 2 10]
def y2n:AFunc:=⟨11,[.t 2],jJ [0] y2n.r0 (jJ [4] y2n.r1 (jJ [2] y2n.r2 (.ret)))⟩
theorem y2n.ok:y1o Tryz.prog Tryz.f87 y2n=true:=by kernel_rfl
theorem y2n.at:Tryz.prog.funcs[y6n]?=some Tryz.f87:=Tryz.func87
def y26.r0:jI:=[aw 8,af 9 0]
def y26.r1:jI:=[ab 11 1,ab 12 0,az 13 12,a29 14 11 13]
def y26.r2:jI:=[aw 8,af 9 2]
def y26.r3:jI:=[ab 15 0,ab 16 1,a1q 17 15 16,ab 18 2,a19 19 17 18,ab 10 19]
def y26.r4:jI:=[ab 21 10,az 22 21,a18 23 22 1000,ab 20 23]
def y26.r5:jI:=[aw 8,af 9 9]
def y26.r6:jI:=[ab 25 3,a1a 26 25,ab 27 26,aj 28 27 10,aj 29 27 0,⟨some 30,(some (27,true)),.op (.bin .leq (.t 28) (.t 29))⟩,an 31 27 30,ab 24 31]
def y26.r7:jI:=[aw 8,af 9 13]
def y26.r8:jI:=[ab 33 0,ab 34 10,⟨some 35,none,.call y9q [.t 33,.t 34]⟩,ab 36 1,a1s 37 35 36,ab 32 37]
def y26.r9:jI:=[aw 8,af 9 3]
def y26.r10:jI:=[ab 38 10,ab 8 38,af 9 0]
def y26:AFunc:=⟨39,[.t 8,.t 9],jJ [0,1,2,3] y26.r0 (.seq (jJ [0,1,2,3,14] y26.r1 (.post [0,1,2,3] (.cond (.t 14) (jJ [8,9] y26.r2 (.ret)) (.skip)))) (jJ [0,1,3,10] y26.r3 (.seq (.post [10] (.block 0 (jJ [0,1,3,10,20] y26.r4 (.post [10] (.cond (.t 20) (jJ [8,9] y26.r5 (.ret)) (jJ [0,1,10,24] y26.r6 (.post [10] (.cond (.t 24) (jJ [8,9] y26.r7 (.ret)) (jJ [10,32] y26.r8 (.post [10] (.cond (.t 32) (jJ [8,9] y26.r9 (.ret)) (.skip)))))))))))) (jJ [8,9] y26.r10 (.ret)))))⟩
theorem y26.ok:y1o Tryz.prog Tryz.f150 y26=true:=by kernel_rfl
theorem y26.at:Tryz.prog.funcs[yd9]?=some Tryz.f150:=Tryz.func150
def yx.r0:jI:=[a1l 2,af 3 0]
def yx.r1:jI:=[ab 13 0,⟨some 14,none,.op (.eqk .ptr false (.t 13) (.c (.p none)))⟩]
def yx.r2:jI:=[a1l 2,af 3 7]
def yx.r3:jI:=[⟨some 15,none,.op (.build [.sl none 0 0] [])⟩,a1g 16 15,ab 4 16]
def yx.r4:jI:=[ab 17 0,⟨some 18,none,.call y2q [.t 17]⟩,ab 5 18]
def yx.r5:jI:=[ab 19 5,a18 20 19 6000]
def yx.r6:jI:=[ab 21 0,⟨some 22,none,.call y3m [.t 21,.c (.i .i64 4)]⟩]
def yx.r7:jI:=[aw 6]
def yx.r8:jI:=[af 7 0]
def yx.r9:jI:=[ab 23 7,ab 24 5,aq 25 23 24,ab 26 25,aj 27 26 0,⟨some 28,(some (26,true)),.call y9d [.t 27]⟩,a1h 29 26 28 0,an 30 26 29]
def yx.r10:jI:=[ab 33 0,⟨some 34,none,.call y2q [.t 33]⟩,ab 35 0,⟨some 36,none,.call y6n [.t 35]⟩,ab 8 34,ab 9 36]
def yx.r11:jI:=[ab 37 0,⟨some 38,none,.call y9d [.t 37]⟩,a11 39 38 0]
def yx.r12:jI:=[ab 41 6,ab 42 8,ab 43 9,ab 44 7,ay 45 44 0,⟨some 46,none,.call yd9 [.t 41,.t 42,.t 43,.t 45]⟩,ab 40 46,ah 47 0 40,ah 48 1 40,ab 10 47,ab 11 48]
def yx.r13:jI:=[ab 49 0,ab 50 11,⟨some 51,none,.call y3m [.t 49,.t 50]⟩]
def yx.r14:jI:=[ab 52 4,ab 53 4,ak 54 53,ae 55 0 54,ac 56 1 55,ab 57 10,a25 58 1 1 0 1 57,a1k 59 1 16 56 58,ak 60 52,ae 61 0 60,ai 1 61 59]
def yx.r15:jI:=[ab 62 10,ab 6 62]
def yx.r16:jI:=[ab 31 7,ar 32 31 1,ab 7 32]
def yx.l0:ACode:=.seq (jJ [0,4,5,6,7,30] yx.r9 (.post [0,4,5,6,7] (.cond (.t 30) (.skip) (.exit 0)))) (.seq (.post [0,4,5,6,7] (.block 1 (jJ [0,4,5,6,7,8,9] yx.r10 (.seq (jJ [0,4,5,6,7,8,9,39] yx.r11 (.post [0,4,5,6,7,8,9] (.cond (.t 39) (.exit 0) (.skip)))) (jJ [0,4,5,7,10,11] yx.r12 (jJ [0,4,5,7,10] yx.r13 (jJ [0,4,5,7,10] yx.r14 (jK [0,4,5,6,7] yx.r15)))))))) (jK [0,4,5,6,7] yx.r16))
def yx.r17:jI:=[ab 63 0,⟨some 64,none,.call y9d [.t 63]⟩,ab 12 64]
def yx.r18:jI:=[ab 65 12,a11 66 65 0]
def yx.r19:jI:=[ab 67 12,a1l 2,ab 3 67]
def yx.r20:jI:=[ab 68 4,ab 2 68,af 3 0]
def yx:AFunc:=⟨69,[.t 2,.t 3],jJ [0] yx.r0 (.seq (jJ [0,14] yx.r1 (.post [0] (.cond (.t 14) (jJ [2,3] yx.r2 (.ret)) (.skip)))) (jJ [0,4] yx.r3 (jJ [0,4,5] yx.r4 (.seq (jJ [0,4,5,20] yx.r5 (.post [0,4,5] (.cond (.t 20) (jK [0,4,5] yx.r6) (.skip)))) (jJ [0,4,5,6] yx.r7 (.seq (jJ [0,4,5,6,7] yx.r8 (.post [0,4] (.block 0 (.loop yx.l0)))) (.seq (jJ [4,12] yx.r17 (jJ [4,12,66] yx.r18 (.post [4] (.cond (.t 66) (jJ [2,3] yx.r19 (.ret)) (.skip))))) (jJ [2,3] yx.r20 (.ret)))))))))⟩
theorem yx.ok:y1o Tryz.prog Tryz.f86 yx=true:=by kernel_rfl
theorem yx.at:Tryz.prog.funcs[yda]?=some Tryz.f86:=Tryz.func86
def yv.r0:jI:=[a1l 2,aw 3,af 4 0]
def yv.r1:jI:=[ab 14 0,⟨some 15,none,.call y88 [.t 14,.c (.s [119,101,102,116])]⟩,ab 13 15,ah 16 0 13,ah 17 1 13,ab 5 16,ab 6 17]
def yv.r2:jI:=[ab 18 6,a1a 19 18]
def yv.r3:jI:=[a1l 2,aw 3,af 4 5]
def yv.r4:jI:=[ab 20 5,⟨some 21,none,.call yae [.t 20]⟩,ab 7 21]
def yv.r5:jI:=[ab 22 7,⟨some 23,none,.call y2q [.t 22]⟩,ab 8 23]
def yv.r6:jI:=[ab 24 8,a11 25 24 1]
def yv.r7:jI:=[ab 26 7,⟨some 27,none,.call y3m [.t 26,.c (.i .i64 5)]⟩]
def yv.r8:jI:=[ab 28 7,⟨some 29,none,.call ya0 [.t 28]⟩,ab 9 29]
def yv.r9:jI:=[ab 30 9,a11 31 30 0]
def yv.r10:jI:=[ab 32 9,a1l 2,aw 3,ab 4 32]
def yv.r11:jI:=[ab 34 7,⟨some 35,none,.call yda [.t 34]⟩,ab 33 35,ah 36 0 33,ah 37 1 33,ab 10 36,ab 11 37]
def yv.r12:jI:=[ab 38 11,a11 39 38 0]
def yv.r13:jI:=[ab 40 11,a1l 2,aw 3,ab 4 40]
def yv.r14:jI:=[ab 41 7,⟨some 42,none,.call y6n [.t 41]⟩,ab 12 42]
def yv.r15:jI:=[ab 44 7,⟨some 45,none,.call y4k [.t 44]⟩,ab 43 45,ah 46 0 43,ah 47 1 43,ab 11 47]
def yv.r16:jI:=[ab 48 10,ab 49 12,ab 50 11,ab 2 48,ab 3 49,ab 4 50]
def yv:AFunc:=⟨51,[.t 2,.t 3,.t 4],jJ [0] yv.r0 (jJ [5,6] yv.r1 (.seq (jJ [5,19] yv.r2 (.post [5] (.cond (.t 19) (jJ [2,3,4] yv.r3 (.ret)) (.skip)))) (jJ [7] yv.r4 (.seq (jJ [7,8] yv.r5 (jJ [7,25] yv.r6 (.post [7] (.cond (.t 25) (jK [7] yv.r7) (.skip))))) (.seq (jJ [7,9] yv.r8 (jJ [7,9,31] yv.r9 (.post [7] (.cond (.t 31) (jJ [2,3,4] yv.r10 (.ret)) (.skip))))) (jJ [7,10,11] yv.r11 (.seq (jJ [7,10,11,39] yv.r12 (.post [7,10] (.cond (.t 39) (jJ [2,3,4] yv.r13 (.ret)) (.skip)))) (jJ [7,10,12] yv.r14 (jJ [10,11,12] yv.r15 (jJ [2,3,4] yv.r16 (.ret)))))))))))⟩
theorem yv.ok:y1o Tryz.prog Tryz.f35 yv=true:=by kernel_rfl
theorem yv.at:Tryz.prog.funcs[yaq]?=some Tryz.f35:=Tryz.func35
def y2g.r0:jI:=[am 2]
def y2g.r1:jI:=[ab 6 0,ak 7 6,ae 8 0 7,ac 9 1 8,⟨some 10,none,.call y4k [.t 9]⟩,ab 5 10,ah 11 0 5,ah 12 1 5,ab 3 11,ab 4 12]
def y2g.r2:jI:=[ab 13 4,ay 14 13 0,ab 15 14,a17 16 15 4,⟨some 17,(some (15,false)),.op (.bin .eql (.t 16) (.c (.i .i64 6)))⟩,a10 18 15 17,ab 2 18]
def y2g:AFunc:=⟨19,[.t 2],jJ [0] y2g.r0 (jJ [4] y2g.r1 (jJ [2] y2g.r2 (.ret)))⟩
theorem y2g.ok:y1o Tryz.prog Tryz.f152 y2g=true:=by kernel_rfl
theorem y2g.at:Tryz.prog.funcs[y4a]?=some Tryz.f152:=Tryz.func152
def y2t.r0:jI:=[aw 4,am 5]
def y2t.r1:jI:=[ab 7 0,⟨some 8,none,.call y69 [.t 7]⟩,ab 6 8]
def y2t.r2:jI:=[ab 9 1,a1f 10 9 0,ab 11 10,aj 12 11 1,aj 13 11 6,a38 14 11 13,a36 15 11 12 14,an 16 11 15]
def y2t.r3:jI:=[ab 17 6,ab 18 1,av 19 1 17 18,ac 20 1 19,ab 4 20,a1b 5]
def y2t.r4:jI:=[aw 4,am 5]
def y2t:AFunc:=⟨21,[.t 4,.t 5],jJ [0,1] y2t.r0 (.seq (jJ [1,6] y2t.r1 (jJ [1,6,16] y2t.r2 (.post [] (.cond (.t 16) (jJ [4,5] y2t.r3 (.ret)) (.skip))))) (jJ [4,5] y2t.r4 (.ret)))⟩
theorem y2t.ok:y1o Tryz.prog Tryz.f153 y2t=true:=by kernel_rfl
theorem y2t.at:Tryz.prog.funcs[yas]?=some Tryz.f153:=Tryz.func153
def y1d.r0:jI:=[aw 2]
def y1d.r1:jI:=[ab 6 0,ak 7 6,ae 8 0 7,ac 9 1 8,⟨some 10,none,.call y2q [.t 9]⟩,ab 3 10]
def y1d.r2:jI:=[ab 11 0,⟨some 12,none,.call y4a [.t 11]⟩,a1a 13 12]
def y1d.r3:jI:=[aw 2]
def y1d.r4:jI:=[ab 15 0,ak 16 15,ae 17 1 16,ac 18 1 17,ab 19 3,⟨some 20,none,.call yas [.t 18,.t 19]⟩,ab 14 20,ah 21 0 14,ah 22 1 14,ab 4 21,ab 5 22]
def y1d.r5:jI:=[ab 23 5,a1a 24 23]
def y1d.r6:jI:=[ab 25 0,ak 26 25,ae 27 0 26,ac 28 1 27,⟨some 29,none,.call y3m [.t 28,.c (.i .i64 2)]⟩]
def y1d.r7:jI:=[ab 30 4,ab 2 30]
def y1d:AFunc:=⟨31,[.t 2],jJ [0] y1d.r0 (jJ [0,3] y1d.r1 (.seq (jJ [0,3,13] y1d.r2 (.post [0,3] (.cond (.t 13) (jJ [2] y1d.r3 (.ret)) (.skip)))) (jJ [0,4,5] y1d.r4 (.seq (jJ [0,4,24] y1d.r5 (.post [4] (.cond (.t 24) (jK [4] y1d.r6) (.skip)))) (jJ [2] y1d.r7 (.ret))))))⟩
theorem y1d.ok:y1o Tryz.prog Tryz.f89 y1d=true:=by kernel_rfl
theorem y1d.at:Tryz.prog.funcs[y28]?=some Tryz.f89:=Tryz.func89
def yd.r0:jI:=[a1d 4 0 0]
def yd.r1:jI:=[ab 8 0,ak 9 8,ae 10 0 9,ac 11 1 10,⟨some 12,none,.call y2q [.t 11]⟩,ab 5 12]
def yd.r2:jI:=[ab 13 5,a18 14 13 6000]
def yd.r3:jI:=[ab 15 0,ak 16 15,ae 17 0 16,ac 18 1 17,⟨some 19,none,.call y3m [.t 18,.c (.i .i64 4)]⟩]
def yd.r4:jI:=[a1d 6 0 0]
def yd.r5:jI:=[af 7 0]
def yd.r6:jI:=[ab 20 7,ab 21 5,aq 22 20 21,ab 23 22,aj 24 23 0,⟨some 25,(some (23,true)),.call y4a [.t 24]⟩,an 26 23 25]
def yd.r7:jI:=[ab 29 6,ab 30 1,a1u 31 30,a25 32 1 1 0 1 31,a1k 33 1 16 29 32,ab 6 33]
def yd.r8:jI:=[ab 27 7,ar 28 27 1,ab 7 28]
def yd.l0:ACode:=.seq (jJ [0,1,5,6,7,26] yd.r6 (.post [0,1,5,6,7] (.cond (.t 26) (.skip) (.exit 0)))) (.seq (.post [0,1,5,6,7] (.block 1 (jK [0,1,5,6,7] yd.r7))) (jK [0,1,5,6,7] yd.r8))
def yd.r9:jI:=[ab 34 6,ab 4 34]
def yd:AFunc:=⟨35,[.t 4],jJ [0,1] yd.r0 (jJ [0,1,5] yd.r1 (.seq (jJ [0,1,5,14] yd.r2 (.post [0,1,5] (.cond (.t 14) (jK [0,1,5] yd.r3) (.skip)))) (jJ [0,1,5,6] yd.r4 (.seq (jJ [0,1,5,6,7] yd.r5 (.post [6] (.block 0 (.loop yd.l0)))) (jJ [4] yd.r9 (.ret))))))⟩
theorem yd.ok:y1o Tryz.prog Tryz.f90 yd=true:=by kernel_rfl
theorem yd.at:Tryz.prog.funcs[y54]?=some Tryz.f90:=Tryz.func90
def y2o.r0:jI:=[a30 2 0]
def y2o.r1:jI:=[ab 4 0,ak 5 4,ae 6 0 5,ac 7 1 6,⟨some 8,none,.call y2q [.t 7]⟩,ab 3 8]
def y2o.r2:jI:=[ab 9 3,ab 10 0,⟨some 11,none,.call y28 [.t 10]⟩,⟨some 12,none,.op (.build [.i .i64 0,.s []] [(0,1,.t 9),(1,1,.t 11)])⟩,ai 2 2 12]
def y2o:AFunc:=⟨13,[.cell 2 true 2],jJ [0,2] y2o.r0 (jJ [0,2,3] y2o.r1 (jJ [2] y2o.r2 (.ret)))⟩
theorem y2o.ok:y1o Tryz.prog Tryz.f155 y2o=true:=by kernel_rfl
theorem y2o.at:Tryz.prog.funcs[y6p]?=some Tryz.f155:=Tryz.func155
def y1a.r0:jI:=[a1d 4 0 0]
def y1a.r1:jI:=[ab 8 0,ak 9 8,ae 10 0 9,ac 11 1 10,⟨some 12,none,.call y2q [.t 11]⟩,ab 5 12]
def y1a.r2:jI:=[ab 13 5,a18 14 13 6000]
def y1a.r3:jI:=[ab 15 0,ak 16 15,ae 17 0 16,ac 18 1 17,⟨some 19,none,.call y3m [.t 18,.c (.i .i64 4)]⟩]
def y1a.r4:jI:=[a1d 6 0 0]
def y1a.r5:jI:=[af 7 0]
def y1a.r6:jI:=[ab 20 7,ab 21 5,aq 22 20 21,ab 23 22,aj 24 23 0,⟨some 25,(some (23,true)),.call y4a [.t 24]⟩,an 26 23 25]
def y1a.r7:jI:=[ab 29 6,ab 30 1,a1u 31 30,⟨some 32,none,.op (.bfz 1 2 [.i .i64 0,.s []] [(0,2,.t 31)])⟩,a1k 33 2 24 29 32,ab 6 33]
def y1a.r8:jI:=[ab 27 7,ar 28 27 1,ab 7 28]
def y1a.l0:ACode:=.seq (jJ [0,1,5,6,7,26] y1a.r6 (.post [0,1,5,6,7] (.cond (.t 26) (.skip) (.exit 0)))) (.seq (.post [0,1,5,6,7] (.block 1 (jK [0,1,5,6,7] y1a.r7))) (jK [0,1,5,6,7] y1a.r8))
def y1a.r9:jI:=[ab 34 6,ab 4 34]
def y1a:AFunc:=⟨35,[.t 4],jJ [0,1] y1a.r0 (jJ [0,1,5] y1a.r1 (.seq (jJ [0,1,5,14] y1a.r2 (.post [0,1,5] (.cond (.t 14) (jK [0,1,5] y1a.r3) (.skip)))) (jJ [0,1,5,6] y1a.r4 (.seq (jJ [0,1,5,6,7] y1a.r5 (.post [6] (.block 0 (.loop y1a.l0)))) (jJ [4] y1a.r9 (.ret))))))⟩
theorem y1a.ok:y1o Tryz.prog Tryz.f154 y1a=true:=by kernel_rfl
theorem y1a.at:Tryz.prog.funcs[y8a]?=some Tryz.f154:=Tryz.func154
def y1q.r0:jI:=[a2g 2 0 0]
def y1q.r1:jI:=[ab 4 0,⟨some 5,none,.call y28 [.t 4]⟩,⟨some 6,none,.op (.build [.s [],.s [],.sl none 0 0] [(0,1,.t 5)])⟩,a2g 3 0 0,ai 3 3 6]
def y1q.r2:jI:=[ab 7 0,⟨some 8,none,.call y28 [.t 7]⟩,ae 9 1 3,ai 1 9 8]
def y1q.r3:jI:=[ab 10 0,ab 11 0,⟨some 12,none,.op (.mkfb y6p [.t 11])⟩,⟨some 13,none,.call y8a [.t 10,.t 12]⟩,ae 14 2 3,ai 1 14 13]
def y1q.r4:jI:=[ax 15 3 3,ai 3 2 15]
def y1q:AFunc:=⟨16,[.cell 2 true 3],jJ [0,2] y1q.r0 (jJ [0,2,3] y1q.r1 (jJ [0,2,3] y1q.r2 (jJ [2,3] y1q.r3 (jJ [2] y1q.r4 (.ret)))))⟩
theorem y1q.ok:y1o Tryz.prog Tryz.f92 y1q=true:=by kernel_rfl
theorem y1q.at:Tryz.prog.funcs[y61]?=some Tryz.f92:=Tryz.func92
def y1b.r0:jI:=[a1d 4 0 0]
def y1b.r1:jI:=[ab 8 0,ak 9 8,ae 10 0 9,ac 11 1 10,⟨some 12,none,.call y2q [.t 11]⟩,ab 5 12]
def y1b.r2:jI:=[ab 13 5,a18 14 13 6000]
def y1b.r3:jI:=[ab 15 0,ak 16 15,ae 17 0 16,ac 18 1 17,⟨some 19,none,.call y3m [.t 18,.c (.i .i64 4)]⟩]
def y1b.r4:jI:=[a1d 6 0 0]
def y1b.r5:jI:=[af 7 0]
def y1b.r6:jI:=[ab 20 7,ab 21 5,aq 22 20 21,ab 23 22,aj 24 23 0,⟨some 25,(some (23,true)),.call y4a [.t 24]⟩,an 26 23 25]
def y1b.r7:jI:=[ab 29 6,ab 30 1,a1u 31 30,⟨some 32,none,.op (.bfz 1 3 [.s [],.s [],.sl none 0 0] [(0,3,.t 31)])⟩,a1k 33 3 56 29 32,ab 6 33]
def y1b.r8:jI:=[ab 27 7,ar 28 27 1,ab 7 28]
def y1b.l0:ACode:=.seq (jJ [0,1,5,6,7,26] y1b.r6 (.post [0,1,5,6,7] (.cond (.t 26) (.skip) (.exit 0)))) (.seq (.post [0,1,5,6,7] (.block 1 (jK [0,1,5,6,7] y1b.r7))) (jK [0,1,5,6,7] y1b.r8))
def y1b.r9:jI:=[ab 34 6,ab 4 34]
def y1b:AFunc:=⟨35,[.t 4],jJ [0,1] y1b.r0 (jJ [0,1,5] y1b.r1 (.seq (jJ [0,1,5,14] y1b.r2 (.post [0,1,5] (.cond (.t 14) (jK [0,1,5] y1b.r3) (.skip)))) (jJ [0,1,5,6] y1b.r4 (.seq (jJ [0,1,5,6,7] y1b.r5 (.post [6] (.block 0 (.loop y1b.l0)))) (jJ [4] y1b.r9 (.ret))))))⟩
theorem y1b.ok:y1o Tryz.prog Tryz.f91 y1b=true:=by kernel_rfl
theorem y1b.at:Tryz.prog.funcs[y8k]?=some Tryz.f91:=Tryz.func91
def y1l.r0:jI:=[a2k 2]
def y1l.r1:jI:=[ab 4 0,⟨some 5,none,.call y28 [.t 4]⟩,⟨some 6,none,.op (.build [.s [],.s [],.s []] [(0,1,.t 5)])⟩,a2k 3,ai 3 3 6]
def y1l.r2:jI:=[ab 7 0,⟨some 8,none,.call y28 [.t 7]⟩,ae 9 1 3,ai 1 9 8]
def y1l.r3:jI:=[ab 10 0,⟨some 11,none,.call y28 [.t 10]⟩,ae 12 2 3,ai 1 12 11]
def y1l.r4:jI:=[ax 13 3 3,ai 3 2 13]
def y1l:AFunc:=⟨14,[.cell 2 true 3],jJ [0,2] y1l.r0 (jJ [0,2,3] y1l.r1 (jJ [0,2,3] y1l.r2 (jJ [2,3] y1l.r3 (jJ [2] y1l.r4 (.ret)))))⟩
theorem y1l.ok:y1o Tryz.prog Tryz.f94 y1l=true:=by kernel_rfl
theorem y1l.at:Tryz.prog.funcs[y5e]?=some Tryz.f94:=Tryz.func94
def y1f.r0:jI:=[a1d 4 0 0]
def y1f.r1:jI:=[ab 8 0,ak 9 8,ae 10 0 9,ac 11 1 10,⟨some 12,none,.call y2q [.t 11]⟩,ab 5 12]
def y1f.r2:jI:=[ab 13 5,a18 14 13 6000]
def y1f.r3:jI:=[ab 15 0,ak 16 15,ae 17 0 16,ac 18 1 17,⟨some 19,none,.call y3m [.t 18,.c (.i .i64 4)]⟩]
def y1f.r4:jI:=[a1d 6 0 0]
def y1f.r5:jI:=[af 7 0]
def y1f.r6:jI:=[ab 20 7,ab 21 5,aq 22 20 21,ab 23 22,aj 24 23 0,⟨some 25,(some (23,true)),.call y4a [.t 24]⟩,an 26 23 25]
def y1f.r7:jI:=[ab 29 6,ab 30 1,a1u 31 30,⟨some 32,none,.op (.bfz 1 3 [.s [],.s [],.s []] [(0,3,.t 31)])⟩,a1k 33 3 48 29 32,ab 6 33]
def y1f.r8:jI:=[ab 27 7,ar 28 27 1,ab 7 28]
def y1f.l0:ACode:=.seq (jJ [0,1,5,6,7,26] y1f.r6 (.post [0,1,5,6,7] (.cond (.t 26) (.skip) (.exit 0)))) (.seq (.post [0,1,5,6,7] (.block 1 (jK [0,1,5,6,7] y1f.r7))) (jK [0,1,5,6,7] y1f.r8))
def y1f.r9:jI:=[ab 34 6,ab 4 34]
def y1f:AFunc:=⟨35,[.t 4],jJ [0,1] y1f.r0 (jJ [0,1,5] y1f.r1 (.seq (jJ [0,1,5,14] y1f.r2 (.post [0,1,5] (.cond (.t 14) (jK [0,1,5] y1f.r3) (.skip)))) (jJ [0,1,5,6] y1f.r4 (.seq (jJ [0,1,5,6,7] y1f.r5 (.post [6] (.block 0 (.loop y1f.l0)))) (jJ [4] y1f.r9 (.ret))))))⟩
theorem y1f.ok:y1o Tryz.prog Tryz.f93 y1f=true:=by kernel_rfl
theorem y1f.at:Tryz.prog.funcs[y8r]?=some Tryz.f93:=Tryz.func93
def y1h.r0:jI:=[a1w 2 0 0 0 0]
def y1h.r1:jI:=[ab 4 0,ak 5 4,ae 6 0 5,ac 7 1 6,⟨some 8,none,.call y2q [.t 7]⟩,⟨some 9,none,.op (.build [.i .i64 0,.s [],.s [],.i .i64 0,.s [],.sl none 0 0] [(0,1,.t 8)])⟩,a1w 3 0 0 0 0,ai 6 3 9]
def y1h.r2:jI:=[ab 10 0,⟨some 11,none,.call y28 [.t 10]⟩,ae 12 1 3,ai 1 12 11]
def y1h.r3:jI:=[ab 13 0,⟨some 14,none,.call y28 [.t 13]⟩,ae 15 2 3,ai 1 15 14]
def y1h.r4:jI:=[ab 16 0,ak 17 16,ae 18 0 17,ac 19 1 18,⟨some 20,none,.call y2q [.t 19]⟩,ae 21 3 3,ai 1 21 20]
def y1h.r5:jI:=[ab 22 0,⟨some 23,none,.call y28 [.t 22]⟩,ae 24 4 3,ai 1 24 23]
def y1h.r6:jI:=[ab 25 0,ab 26 0,⟨some 27,none,.op (.mkfb y28 [.t 26])⟩,⟨some 28,none,.call y54 [.t 25,.t 27]⟩,ae 29 5 3,ai 1 29 28]
def y1h.r7:jI:=[ax 30 6 3,ai 6 2 30]
def y1h:AFunc:=⟨31,[.cell 2 true 6],jJ [0,2] y1h.r0 (jJ [0,2,3] y1h.r1 (jJ [0,2,3] y1h.r2 (jJ [0,2,3] y1h.r3 (jJ [0,2,3] y1h.r4 (jJ [0,2,3] y1h.r5 (jJ [2,3] y1h.r6 (jJ [2] y1h.r7 (.ret))))))))⟩
theorem y1h.ok:y1o Tryz.prog Tryz.f96 y1h=true:=by kernel_rfl
theorem y1h.at:Tryz.prog.funcs[y71]?=some Tryz.f96:=Tryz.func96
def y1c.r0:jI:=[a1d 4 0 0]
def y1c.r1:jI:=[ab 8 0,ak 9 8,ae 10 0 9,ac 11 1 10,⟨some 12,none,.call y2q [.t 11]⟩,ab 5 12]
def y1c.r2:jI:=[ab 13 5,a18 14 13 6000]
def y1c.r3:jI:=[ab 15 0,ak 16 15,ae 17 0 16,ac 18 1 17,⟨some 19,none,.call y3m [.t 18,.c (.i .i64 4)]⟩]
def y1c.r4:jI:=[a1d 6 0 0]
def y1c.r5:jI:=[af 7 0]
def y1c.r6:jI:=[ab 20 7,ab 21 5,aq 22 20 21,ab 23 22,aj 24 23 0,⟨some 25,(some (23,true)),.call y4a [.t 24]⟩,an 26 23 25]
def y1c.r7:jI:=[ab 29 6,ab 30 1,a1u 31 30,⟨some 32,none,.op (.bfz 1 6 [.i .i64 0,.s [],.s [],.i .i64 0,.s [],.sl none 0 0] [(0,6,.t 31)])⟩,a1k 33 6 88 29 32,ab 6 33]
def y1c.r8:jI:=[ab 27 7,ar 28 27 1,ab 7 28]
def y1c.l0:ACode:=.seq (jJ [0,1,5,6,7,26] y1c.r6 (.post [0,1,5,6,7] (.cond (.t 26) (.skip) (.exit 0)))) (.seq (.post [0,1,5,6,7] (.block 1 (jK [0,1,5,6,7] y1c.r7))) (jK [0,1,5,6,7] y1c.r8))
def y1c.r9:jI:=[ab 34 6,ab 4 34]
def y1c:AFunc:=⟨35,[.t 4],jJ [0,1] y1c.r0 (jJ [0,1,5] y1c.r1 (.seq (jJ [0,1,5,14] y1c.r2 (.post [0,1,5] (.cond (.t 14) (jK [0,1,5] y1c.r3) (.skip)))) (jJ [0,1,5,6] y1c.r4 (.seq (jJ [0,1,5,6,7] y1c.r5 (.post [6] (.block 0 (.loop y1c.l0)))) (jJ [4] y1c.r9 (.ret))))))⟩
theorem y1c.ok:y1o Tryz.prog Tryz.f95 y1c=true:=by kernel_rfl
theorem y1c.at:Tryz.prog.funcs[y8l]?=some Tryz.f95:=Tryz.func95
def y1k.r0:jI:=[a1v 4 0 0 0 0 0 0 0 0 0 0 0 0,af 5 0]
def y1k.r1:jI:=[ab 10 1,⟨some 11,none,.call yae [.t 10]⟩,ab 12 0,⟨some 13,none,.op (.build [.p none,.p none] [(0,1,.t 11),(1,1,.t 12)])⟩,a1g 14 13,ab 6 14]
def y1k.r2:jI:=[ab 15 6,⟨some 16,none,.call y28 [.t 15]⟩,⟨some 17,none,.op (.build [.s [],.sl none 0 0,.sl none 0 0,.sl none 0 0,.sl none 0 0,.sl none 0 0,.sl none 0 0] [(0,1,.t 16)])⟩,a1v 7 0 0 0 0 0 0 0 0 0 0 0 0,ai 7 7 17]
def y1k.r3:jI:=[ab 18 6,ab 19 6,⟨some 20,none,.op (.mkfb y28 [.t 19])⟩,⟨some 21,none,.call y54 [.t 18,.t 20]⟩,ae 22 1 7,ai 1 22 21]
def y1k.r4:jI:=[ab 23 6,ab 24 6,⟨some 25,none,.op (.mkfb y28 [.t 24])⟩,⟨some 26,none,.call y54 [.t 23,.t 25]⟩,ae 27 2 7,ai 1 27 26]
def y1k.r5:jI:=[ab 28 6,ab 29 6,⟨some 30,none,.op (.mkfb y28 [.t 29])⟩,⟨some 31,none,.call y54 [.t 28,.t 30]⟩,ae 32 3 7,ai 1 32 31]
def y1k.r6:jI:=[ab 33 6,ab 34 6,⟨some 35,none,.op (.mkfb y61 [.t 34])⟩,⟨some 36,none,.call y8k [.t 33,.t 35]⟩,ae 37 4 7,ae 38 0 37,ai 1 38 36]
def y1k.r7:jI:=[ab 39 6,ab 40 6,⟨some 41,none,.op (.mkfb y5e [.t 40])⟩,⟨some 42,none,.call y8r [.t 39,.t 41]⟩,ae 43 4 7,ae 44 1 43,ai 1 44 42]
def y1k.r8:jI:=[ab 45 6,ab 46 6,⟨some 47,none,.op (.mkfb y71 [.t 46])⟩,⟨some 48,none,.call y8l [.t 45,.t 47]⟩,ae 49 4 7,ae 50 2 49,ai 1 50 48]
def y1k.r9:jI:=[ab 52 6,ak 53 52,ae 54 0 53,ac 55 1 54,⟨some 56,none,.call y4k [.t 55]⟩,ab 51 56,ah 57 0 51,ah 58 1 51,ab 8 57,ab 9 58]
def y1k.r10:jI:=[ab 59 9,a11 60 59 0]
def y1k.r11:jI:=[a28 61 0 0 0 0 0 0 0 0 0 0 0 0,ab 62 9,ai 7 4 61,ab 5 62]
def y1k.r12:jI:=[ax 63 7 7,ai 7 4 63,af 5 0]
def y1k:AFunc:=⟨64,[.cell 4 true 7,.t 5],jJ [0,1,4] y1k.r0 (jJ [4,6] y1k.r1 (jJ [4,6,7] y1k.r2 (jJ [4,6,7] y1k.r3 (jJ [4,6,7] y1k.r4 (jJ [4,6,7] y1k.r5 (jJ [4,6,7] y1k.r6 (jJ [4,6,7] y1k.r7 (jJ [4,6,7] y1k.r8 (.seq (jJ [4,7,9] y1k.r9 (jJ [4,7,9,60] y1k.r10 (.post [4,7] (.cond (.t 60) (jJ [4,5] y1k.r11 (.ret)) (.skip))))) (jJ [4,5] y1k.r12 (.ret)))))))))))⟩
theorem y1k.ok:y1o Tryz.prog Tryz.f36 y1k=true:=by kernel_rfl
theorem y1k.at:Tryz.prog.funcs[ybj]?=some Tryz.f36:=Tryz.func36
def y42.r0:jI:=[af 2 0]
def y42.r1:jI:=[ab 3 0,⟨some 4,none,.call y69 [.t 3]⟩,ap 5 4,ab 2 5]
def y42:AFunc:=⟨6,[.t 2],jJ [0] y42.r0 (jJ [2] y42.r1 (.ret))⟩
theorem y42.ok:y1o Tryz.prog Tryz.f37 y42=true:=by kernel_rfl
theorem y42.at:Tryz.prog.funcs[ya2]?=some Tryz.f37:=Tryz.func37
def yi.r0:jI:=[a1v 2 0 0 0 0 0 0 0 0 0 0 0 0,af 3 0]
def yi.r1:jI:=[ab 10 0,az 11 10,a18 12 11 200000]
def yi.r2:jI:=[a28 13 0 0 0 0 0 0 0 0 0 0 0 0,ai 7 2 13,af 3 9]
def yi.r3:jI:=[ab 15 0,⟨some 16,none,.call yec [.t 15]⟩,ab 14 16,ah 17 0 14,ah 18 1 14,ab 4 17,ab 5 18]
def yi.r4:jI:=[ab 19 5,a1a 20 19]
def yi.r5:jI:=[a28 21 0 0 0 0 0 0 0 0 0 0 0 0,ai 7 2 21,af 3 14]
def yi.r6:jI:=[ab 23 4,⟨some 24,none,.call yaq [.t 23]⟩,ab 22 24,ah 25 0 22,ah 26 1 22,ah 27 2 22,ab 6 25,ab 7 26,ab 8 27]
def yi.r7:jI:=[ab 28 8,a11 29 28 0]
def yi.r8:jI:=[a28 30 0 0 0 0 0 0 0 0 0 0 0 0,ab 31 8,ai 7 2 30,ab 3 31]
def yi.r9:jI:=[ab 33 6,ab 34 7,⟨some 35,none,.call ybj [.t 33,.t 34]⟩,ab 32 35,ah 36 0 32,ah 37 1 32,a1v 9 0 0 0 0 0 0 0 0 0 0 0 0,ai 7 9 36,ab 8 37]
def yi.r10:jI:=[ab 38 8,ay 39 38 0]
def yi.r11:jI:=[ax 40 7 9,⟨some 41,none,.call y8j [.t 40]⟩,ab 8 41]
def yi.r12:jI:=[ab 42 8,ay 43 42 0,ab 44 43,a1e 45 44 7 9,⟨some 46,(some (44,true)),.call y97 [.t 45]⟩,a38 47 44 46,aj 48 44 6,⟨some 49,(some (44,true)),.call ya2 [.t 48]⟩,⟨some 50,(some (44,true)),.op (.bin .neq (.t 47) (.t 49))⟩,an 51 44 50]
def yi.r13:jI:=[af 8 3]
def yi.r14:jI:=[ab 52 8,a11 53 52 0]
def yi.r15:jI:=[a28 54 0 0 0 0 0 0 0 0 0 0 0 0,ab 55 8,ai 7 2 54,ab 3 55]
def yi.r16:jI:=[ax 56 7 9,ai 7 2 56,af 3 0]
def yi:AFunc:=⟨57,[.cell 2 true 7,.t 3],jJ [0,2] yi.r0 (.seq (jJ [0,2,12] yi.r1 (.post [0,2] (.cond (.t 12) (jJ [2,3] yi.r2 (.ret)) (.skip)))) (jJ [2,4,5] yi.r3 (.seq (jJ [2,4,20] yi.r4 (.post [2,4] (.cond (.t 20) (jJ [2,3] yi.r5 (.ret)) (.skip)))) (jJ [2,6,7,8] yi.r6 (.seq (jJ [2,6,7,8,29] yi.r7 (.post [2,6,7] (.cond (.t 29) (jJ [2,3] yi.r8 (.ret)) (.skip)))) (jJ [2,6,8,9] yi.r9 (.seq (jJ [2,6,8,9,39] yi.r10 (.post [2,6,8,9] (.cond (.t 39) (jK [2,6,8,9] yi.r11) (.skip)))) (.seq (jJ [2,8,9,51] yi.r12 (.post [2,8,9] (.cond (.t 51) (jK [2,8,9] yi.r13) (.skip)))) (.seq (jJ [2,8,9,53] yi.r14 (.post [2,9] (.cond (.t 53) (jJ [2,3] yi.r15 (.ret)) (.skip)))) (jJ [2,3] yi.r16 (.ret)))))))))))⟩
theorem yi.ok:y1o Tryz.prog Tryz.f11 yi=true:=by kernel_rfl
theorem yi.at:Tryz.prog.funcs[y84]?=some Tryz.f11:=Tryz.func11
def y6.r0:jI:=[a13 3 0,am 6]
def y6.r1:jI:=[⟨some 15,none,.call y8w []⟩,a1a 16 15]
def y6.r2:jI:=[am 6]
def y6.r3:jI:=[ax 17 7 3,⟨some 18,none,.call y8x [.t 17]⟩]
def y6.r4:jI:=[a1b 6]
def y6.r5:jI:=[ax 20 7 3,⟨some 21,none,.call y83 [.t 20]⟩,ab 19 21,ah 22 0 19,ah 23 1 19,ab 7 22,ab 8 23]
def y6.r6:jI:=[ab 24 8,a11 25 24 0,ab 26 25,a17 27 26 7,a2b 28 26 27,⟨some 29,(some (26,false)),.op (.bin .eql (.t 28) (.c (.i .i64 0)))⟩,a10 30 26 29]
def y6.r7:jI:=[ab 31 8,a11 32 31 0,ab 6 32]
def y6.r8:jI:=[ab 33 7,⟨some 34,none,.op (.s2w (.t 33))⟩,ab 9 34]
def y6.r9:jI:=[ab 35 2,⟨some 36,none,.op (.bin .rem (.t 35) (.c (.i .u32 16777216)))⟩,ab 2 36]
def y6.r10:jI:=[ab 37 1,a2m 38 37,ab 39 9,ap 40 39,a2a 41 8 40,a2m 42 41,⟨some 43,none,.op (.bin .rem (.t 38) (.t 42))⟩,a2n 44 43,ab 10 44]
def y6.r11:jI:=[am 11]
def y6.r12:jI:=[af 12 0]
def y6.r13:jI:=[ab 45 12,a27 46 45 24,ab 47 46,aj 48 47 10,aj 49 47 12,⟨some 50,(some (47,true)),.op (.bin .add (.t 48) (.t 49))⟩,aj 51 47 9,a38 52 47 51,⟨some 53,(some (47,true)),.op (.bin .mul (.c (.i .i64 8)) (.t 52))⟩,a36 54 47 50 53,an 55 47 54]
def y6.r14:jI:=[ab 58 2,ab 59 12,⟨some 60,none,.op (.bin .shr (.t 58) (.t 59))⟩,⟨some 61,none,.op (.bin .and (.t 60) (.c (.i .u32 1)))⟩,⟨some 62,none,.op (.bin .eql (.t 61) (.c (.i .u32 1)))⟩]
def y6.r15:jI:=[ab 63 9,ab 64 10,ab 65 12,a19 66 64 65,⟨some 67,none,.op (.bin .quo (.t 66) (.c (.i .i64 8)))⟩,ab 68 9,ab 69 10,ab 70 12,a19 71 69 70,⟨some 72,none,.op (.bin .quo (.t 71) (.c (.i .i64 8)))⟩,av 73 1 68 72,ac 74 1 73,ab 75 10,ab 76 12,a19 77 75 76,⟨some 78,none,.op (.bin .rem (.t 77) (.c (.i .i64 8)))⟩,⟨some 79,none,.op (.bin .shr (.c (.i .u8 128)) (.t 78))⟩,⟨some 80,none,.op (.bin .xor (.t 74) (.t 79))⟩,av 81 1 63 67,ai 1 81 80]
def y6.r16:jI:=[a1b 11]
def y6.r17:jI:=[ab 56 12,ar 57 56 1,ab 12 57]
def y6.l0:ACode:=.seq (jJ [2,9,10,11,12,55] y6.r13 (.post [2,9,10,11,12] (.cond (.t 55) (.skip) (.exit 0)))) (.seq (.post [2,9,10,11,12] (.block 1 (jJ [2,9,10,11,12,62] y6.r14 (.post [2,9,10,11,12] (.cond (.t 62) (.seq (.post [2,9,10,12] (.draw [0,0,0,6,14,0,0,0,192,448,992,2016,0,0,12288,28672,61440,131040,262143,524287] y6.r15)) (jK [2,9,10,11,12] y6.r16)) (.skip)))))) (jK [2,9,10,11,12] y6.r17))
def y6.r18:jI:=[ab 83 9,⟨some 84,none,.op (.b2s (.t 83))⟩,⟨some 85,none,.call y84 [.t 84]⟩,ab 82 85,ah 86 0 82,ah 87 1 82,a1v 13 0 0 0 0 0 0 0 0 0 0 0 0,ai 7 13 86,ab 14 87]
def y6.r19:jI:=[ab 88 11,ab 89 88,aj 90 89 14,a1h 91 89 90 14,an 92 89 91,ab 93 92,a17 94 93 11,a1r 95 93 94,a17 96 93 95,aj 97 96 14,a1h 98 96 97 0,a1t 99 93 96 98,a10 100 93 99,ab 6 100]
def y6:AFunc:=⟨101,[.t 6],jJ [1,2,3] y6.r0 (.seq (jJ [1,2,3,16] y6.r1 (.post [1,2,3] (.cond (.t 16) (jJ [6] y6.r2 (.ret)) (.skip)))) (.seq (jJ [1,2,3,18] y6.r3 (.post [1,2,3] (.cond (.t 18) (jJ [6] y6.r4 (.ret)) (.skip)))) (jJ [1,2,7,8] y6.r5 (.seq (jJ [1,2,7,8,30] y6.r6 (.post [1,2,7] (.cond (.t 30) (jJ [6] y6.r7 (.ret)) (.skip)))) (jJ [1,2,9] y6.r8 (jJ [1,2,9] y6.r9 (jJ [2,9,10] y6.r10 (jJ [2,9,10,11] y6.r11 (.seq (jJ [2,9,10,11,12] y6.r12 (.post [9,11] (.block 0 (.loop y6.l0)))) (jJ [11,14] y6.r18 (jJ [6] y6.r19 (.ret))))))))))))⟩
theorem y6.ok:y1o Tryz.prog Tryz.f5 y6=true:=by kernel_rfl
theorem y6.at:Tryz.prog.funcs[y6e]?=some Tryz.f5:=Tryz.func5
end C
end Go.Proofs.YthmkcebbeehbeaaGreatDoor
