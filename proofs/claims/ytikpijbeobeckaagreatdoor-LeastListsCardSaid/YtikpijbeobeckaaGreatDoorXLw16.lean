/- Part 16 of the proof of the laws of the queries: CodeA. -/
import Derived.Test.YtikpijbeobeckaaGreatDoorProg
import Derived.Test.YtikpijbeobeckaaGreatDoorXLw15
set_option linter.unusedSimpArgs false
set_option linter.unusedVariables false
namespace Go.Proofs.YtikpijbeobeckaaGreatDoor
open Am Go.Proofs
set_option maxRecDepth 100000
namespace C
abbrev jI:=List AStep
abbrev jJ (t:List Nat) (r:jI) (c:ACode):ACode:=.seq (.post t (.region r)) c
abbrev jK (t:List Nat) (r:jI):ACode:=.post t (.region r)
@[simp] def ac (x0 x1:Nat):AStep:=⟨some x0,none,.op (.mov (.t x1))⟩
@[simp] def ae (x0 x1 x2:Nat):AStep:=⟨some x0,none,.op (.load false x1 (.t x2))⟩
@[simp] def af (x0 x1 x2:Nat):AStep:=⟨some x0,none,.op (.fadr x1 (.t x2))⟩
@[simp] def ah (x0:Nat) (x1:Int):AStep:=⟨some x0,none,.op (.mov (.c (.i .i64 x1)))⟩
@[simp] def ai (x0 x1 x2:Nat):AStep:=⟨some x0,none,.op (.ext x1 (.t x2))⟩
@[simp] def aj (x0 x1 x2:Nat):AStep:=⟨none,none,.op (.store x0 (.t x1) (.t x2))⟩
@[simp] def ak (x0:Nat):AStep:=⟨some x0,none,.op (.mov (.c (.b false)))⟩
@[simp] def al (x0 x1:Nat):AStep:=⟨some x0,none,.op (.len false (.t x1))⟩
@[simp] def am (x0 x1 x2 x3:Nat):AStep:=⟨some x0,none,.op (.iad x1 (.t x2) (.t x3))⟩
@[simp] def an (x0 x1 x2:Nat):AStep:=⟨some x0,(some (x1,true)),.op (.mov (.t x2))⟩
@[simp] def ap (x0 x1 x2:Nat):AStep:=⟨some x0,none,.op (.load true x1 (.t x2))⟩
@[simp] def aq (x0 x1 x2:Nat):AStep:=⟨some x0,none,.op (.pick (.t x1) (.t x2) (.c (.b false)))⟩
@[simp] def ar (x0 x1 x2:Nat):AStep:=⟨some x0,none,.op (.bin .lss (.t x1) (.t x2))⟩
@[simp] def aw (x0 x1 x2 x3:Nat):AStep:=⟨some x0,(some (x1,true)),.op (.fadr x2 (.t x3))⟩
@[simp] def ax (x0 x1:Nat) (x2:Int):AStep:=⟨some x0,none,.op (.bin .add (.t x1) (.c (.i .i64 x2)))⟩
@[simp] def ay (x0 x1 x2 x3:Nat):AStep:=⟨some x0,(some (x1,true)),.op (.load false x2 (.t x3))⟩
@[simp] def az (x0 x1:Nat):AStep:=⟨some x0,none,.op (.nilc (.t x1))⟩
@[simp] def a10 (x0 x1:Nat) (x2:Int):AStep:=⟨some x0,none,.op (.bin .eql (.t x1) (.c (.i .i64 x2)))⟩
@[simp] def a11 (x0 x1 x2:Nat):AStep:=⟨some x0,none,.op (.pick (.t x1) (.c (.b true)) (.t x2))⟩
@[simp] def a12 (x0 x1 x2:Nat):AStep:=⟨some x0,(some (x1,false)),.op (.mov (.t x2))⟩
@[simp] def a13 (x0 x1 x2 x3:Nat):AStep:=⟨some x0,(some (x1,false)),.op (.fadr x2 (.t x3))⟩
@[simp] def a14 (x0 x1 x2 x3:Nat):AStep:=⟨some x0,(some (x1,false)),.op (.load false x2 (.t x3))⟩
@[simp] def a15 (x0 x1:Nat):AStep:=⟨some x0,none,.op (.boxf (.t x1))⟩
@[simp] def a16 (x0:Nat):AStep:=⟨some x0,none,.op (.mov (.c (.s [])))⟩
@[simp] def a17 (x0 x1 x2:Nat):AStep:=⟨some x0,none,.op (.mov (.c (.sl none x1 x2)))⟩
@[simp] def a18 (x0:Nat):AStep:=⟨some x0,none,.op (.mov (.c (.b true)))⟩
@[simp] def a19 (x0 x1:Nat):AStep:=⟨some x0,none,.op (.un .not (.t x1))⟩
@[simp] def a1a (x0 x1 x2:Nat):AStep:=⟨some x0,none,.op (.bin .add (.t x1) (.t x2))⟩
@[simp] def a1b (x0 x1:Nat) (x2:Int):AStep:=⟨some x0,none,.op (.bin .neq (.t x1) (.c (.i .i64 x2)))⟩
@[simp] def a1c (x0 x1 x2 x3:Nat):AStep:=⟨some x0,(some (x1,true)),.op (.load true x2 (.t x3))⟩
@[simp] def a1d (x0:Nat) (x1 x2 x3 x4:Int):AStep:=⟨some x0,none,.op (.new [.i .i64 x1,.s [],.i .i64 x2,.s [],.i .i64 x3,.i .i64 x4])⟩
@[simp] def a1e (x0 x1:Nat) (x2:Int):AStep:=⟨some x0,none,.op (.bin .gtr (.t x1) (.c (.i .i64 x2)))⟩
@[simp] def a1f (x0 x1 x2:Nat):AStep:=⟨some x0,none,.op (.bin .neq (.t x1) (.t x2))⟩
@[simp] def a1g (x0 x1 x2 x3 x4:Nat):AStep:=⟨some x0,none,.op (.app x1 x2 (.t x3) (.t x4))⟩
@[simp] def a1h (x0 x1:Nat):AStep:=⟨some x0,none,.op (.len true (.t x1))⟩
@[simp] def a1i (x0 x1:Nat):AStep:=⟨some x0,none,.op (.box (.t x1))⟩
@[simp] def a1j (x0 x1:Nat) (x2:Int):AStep:=⟨some x0,none,.op (.bin .geq (.t x1) (.c (.i .i64 x2)))⟩
@[simp] def a1k (x0 x1:Nat) (x2:Int):AStep:=⟨some x0,none,.op (.bin .shr (.t x1) (.c (.i .u64 x2)))⟩
@[simp] def a1l (x0 x1 x2 x3 x4:Nat):AStep:=⟨some x0,(some (x1,true)),.op (.iad x2 (.t x3) (.t x4))⟩
@[simp] def a1m (x0 x1 x2:Nat) (x3:Int):AStep:=⟨some x0,(some (x1,false)),.op (.bin .gtr (.t x2) (.c (.i .i64 x3)))⟩
@[simp] def a1n (x0 x1 x2:Nat) (x3:Int):AStep:=⟨some x0,(some (x1,true)),.op (.bin .leq (.t x2) (.c (.i .i64 x3)))⟩
@[simp] def a1o (x0 x1 x2:Nat) (x3:Int):AStep:=⟨some x0,(some (x1,true)),.op (.bin .eql (.t x2) (.c (.i .i64 x3)))⟩
@[simp] def a1p (x0 x1:Nat):AStep:=⟨some x0,none,.op (.bin .eql (.t x1) (.c (.s [])))⟩
@[simp] def a1q (x0 x1 x2:Nat):AStep:=⟨some x0,(some (x1,true)),.op (.len true (.t x2))⟩
@[simp] def a1r (x0 x1 x2:Nat):AStep:=⟨some x0,(some (x1,false)),.op (.un .not (.t x2))⟩
@[simp] def a1s (x0 x1 x2 x3:Nat):AStep:=⟨some x0,(some (x1,false)),.op (.pick (.t x2) (.t x3) (.c (.b false)))⟩
@[simp] def a1t (x0 x1 x2:Nat):AStep:=⟨some x0,(some (x1,false)),.op (.len false (.t x2))⟩
@[simp] def a1u (x0 x1 x2 x3:Nat):AStep:=⟨some x0,none,.callv (.t x1) [.t x2,.t x3]⟩
@[simp] def a1v (x0 x1:Nat) (x2:Int):AStep:=⟨some x0,none,.op (.bin .lss (.t x1) (.c (.i .i64 x2)))⟩
@[simp] def a1w (x0:Nat) (x1 x2:Int):AStep:=⟨some x0,none,.op (.new [.i .i64 x1,.i .u64 x2])⟩
@[simp] def a1x (x0 x1 x2:Nat) (x3:Int):AStep:=⟨some x0,none,.op (.iad x1 (.t x2) (.c (.i .i64 x3)))⟩
@[simp] def a1y (x0 x1 x2:Nat):AStep:=⟨some x0,none,.callv (.t x1) [.t x2]⟩
@[simp] def a1z (x0 x1 x2 x3 x4:Nat):AStep:=⟨some x0,(some (x1,true)),.callv (.t x2) [.t x3,.t x4]⟩
@[simp] def a23 (x0 x1:Nat) (x2:Int):AStep:=⟨none,none,.op (.store x0 (.t x1) (.c (.i .i64 x2)))⟩
@[simp] def a26 (x0 x1 x2:Nat) (x3:Int):AStep:=⟨some x0,(some (x1,false)),.op (.bin .lss (.t x2) (.c (.i .i64 x3)))⟩
@[simp] def a27 (x0 x1 x2 x3:Nat):AStep:=⟨some x0,(some (x1,true)),.op (.pick (.t x2) (.c (.b true)) (.t x3))⟩
@[simp] def a28 (x0 x1:Nat) (x2:Int):AStep:=⟨some x0,none,.op (.bin .and (.t x1) (.c (.i .u64 x2)))⟩
@[simp] def a29 (x0 x1 x2 x3:Nat):AStep:=⟨some x0,(some (x1,true)),.op (.bin .lss (.t x2) (.t x3))⟩
@[simp] def a2a (x0 x1 x2:Nat):AStep:=⟨some x0,none,.op (.new [.s [],.sl none x1 x2])⟩
@[simp] def a2b (x0 x1 x2:Nat):AStep:=⟨some x0,none,.op (.bin .eql (.t x1) (.t x2))⟩
@[simp] def a2c (x0 x1 x2:Nat) (x3:Int):AStep:=⟨some x0,(some (x1,true)),.op (.bin .geq (.t x2) (.c (.i .i64 x3)))⟩
@[simp] def a2d (x0 x1:Nat) (x2:Int):AStep:=⟨some x0,none,.op (.bin .eql (.t x1) (.c (.i .u8 x2)))⟩
@[simp] def a2e (x0 x1:Nat) (x2:Int):AStep:=⟨some x0,none,.op (.idx (.t x1) (.c (.i .i64 x2)))⟩
@[simp] def a2f (x0 x1 x2:Nat):AStep:=⟨some x0,none,.op (.sls (.t x1) none (some (.t x2)))⟩
@[simp] def a2g (x0 x1:Nat):AStep:=⟨some x0,none,.op (.bin .neq (.t x1) (.c (.s [])))⟩
@[simp] def a2h (x0 x1 x2:Nat) (x3:Int):AStep:=⟨some x0,(some (x1,false)),.op (.bin .neq (.t x2) (.c (.i .i64 x3)))⟩
@[simp] def a2i (x0 x1 x2 x3 x4 x5 x6 x7 x8 x9:Nat):AStep:=⟨some x0,(some (x1,true)),.op (.eqa false [x2,x3,x4,x5,x6,x7] (.t x8) (.t x9))⟩
@[simp] def a2j (x0 x1 x2:Nat) (x3:UInt8):AStep:=⟨some x0,(some (x1,true)),.op (.bin .neq (.t x2) (.c (.s [x3])))⟩
@[simp] def a2k (x0 x1 x2:Nat) (x3:Int):AStep:=⟨some x0,none,.op (.slc x1 (.t x2) (some (.c (.i .i64 x3))) none)⟩
@[simp] def a2l (x0:Nat) (x1 x2:Int) (x3 x4:Nat) (x5:Int) (x6 x7:Nat) (x8 x9 x10:UInt8) (x11 x12:Nat) (x13 x14 x15:UInt8):AStep:=⟨some x0,none,.op (.build [.i .i64 x1,.s [],.s [],.i .i64 x2,.s [],.fs []] [(x3,x4,.c (.i .i64 x5)),(x6,x7,.c (.s [x8,x9,x10])),(x11,x12,.c (.s [x13,x14,x15]))])⟩
@[simp] def a2m (x0 x1 x2:Nat):AStep:=⟨some x0,none,.op (.new [.s [],.s [],.sl none x1 x2])⟩
@[simp] def a2n (x0 x1 x2:Nat) (x3:Int):AStep:=⟨some x0,(some (x1,true)),.op (.bin .sub (.t x2) (.c (.i .i64 x3)))⟩
@[simp] def a2o (x0 x1:Nat) (x2:Int):AStep:=⟨some x0,none,.op (.bin .geq (.t x1) (.c (.i .u8 x2)))⟩
@[simp] def a2p (x0 x1 x2:Nat) (x3:Int):AStep:=⟨some x0,(some (x1,true)),.op (.bin .leq (.t x2) (.c (.i .u8 x3)))⟩
@[simp] def a2q (x0 x1 x2:Nat):AStep:=⟨some x0,none,.op (.idx (.t x1) (.t x2))⟩
@[simp] def a2r (x0 x1 x2:Nat):AStep:=⟨some x0,none,.op (.bin .sub (.t x1) (.t x2))⟩
@[simp] def a2s (x0 x1 x2:Nat):AStep:=⟨some x0,none,.op (.sls (.t x1) (some (.t x2)) none)⟩
@[simp] def a2t (x0 x1 x2 x3:Nat):AStep:=⟨some x0,(some (x1,false)),.op (.load true x2 (.t x3))⟩
@[simp] def a2u (x0 x1 x2 x3:Nat):AStep:=⟨some x0,(some (x1,false)),.op (.bin .neq (.t x2) (.t x3))⟩
@[simp] def a2v (x0 x1 x2:Nat) (x3:Int):AStep:=⟨some x0,(some (x1,false)),.op (.bin .geq (.t x2) (.c (.i .i64 x3)))⟩
@[simp] def a2w (x0:Nat):AStep:=⟨some x0,none,.op (.new [.s [],.s [],.s []])⟩
@[simp] def a2x (x0 x1 x2:Nat):AStep:=⟨none,none,.op (.upm (.t x0) (.t x1) (.t x2))⟩
@[simp] def a2y (x0 x1:Nat):AStep:=⟨some x0,none,.op (.conv .i64 (.t x1))⟩
@[simp] def a2z (x0:Nat) (x1 x2:Int):AStep:=⟨some x0,none,.op (.new [.i .i64 x1,.i .i64 x2])⟩
@[simp] def a30 (x0 x1:Nat):AStep:=⟨some x0,none,.op (.eqk .ptr false (.t x1) (.c (.p none)))⟩
@[simp] def a32 (x0 x1 x2:Nat):AStep:=⟨some x0,(some (x1,false)),.op (.nilc (.t x2))⟩
@[simp] def a33 (x0 x1 x2 x3 x4 x5 x6 x7:Nat):AStep:=⟨some x0,none,.op (.bfz x1 x2 [.s [],.sl none x3 x4] [(x5,x6,.t x7)])⟩
@[simp] def a34 (x0:Nat):AStep:=⟨some x0,none,.op (.mkm)⟩
@[simp] def a35 (x0 x1 x2:Nat):AStep:=⟨some x0,(some (x1,true)),.op (.len false (.t x2))⟩
def y5q:FuncId:=47
def y7v:FuncId:=199
def y5d:FuncId:=240
def ydf:FuncId:=263
def y8v:FuncId:=239
def y63:FuncId:=200
def yay:FuncId:=241
def y64:FuncId:=201
def y9c:FuncId:=148
def y6k:FuncId:=202
def y4l:FuncId:=203
def y5l:FuncId:=149
def y6j:FuncId:=150
def y4d:FuncId:=90
def ya6:FuncId:=151
def y4g:FuncId:=91
def y5w:FuncId:=92
def y3w:FuncId:=152
def y2v:FuncId:=93
def y5p:FuncId:=48
def y5n:FuncId:=153
def y34:FuncId:=94
def y62:FuncId:=49
def y60:FuncId:=50
def y4w:FuncId:=51
def y6i:FuncId:=52
def y5r:FuncId:=53
def y53:FuncId:=95
def y88:FuncId:=96
def y5m:FuncId:=222
def y4q:FuncId:=163
def y7m:FuncId:=108
def y6h:FuncId:=97
def y78:FuncId:=54
def y6l:FuncId:=154
def y5x:FuncId:=99
def y41:FuncId:=100
def y9f:FuncId:=98
def y5b:FuncId:=55
def y89:FuncId:=27
def y3x:FuncId:=101
def y44:FuncId:=250
def y30:FuncId:=249
def y4h:FuncId:=219
def y8t:FuncId:=220
def y4t:FuncId:=157
def y8a:FuncId:=158
def y55:FuncId:=103
def y2w:FuncId:=215
def y4z:FuncId:=216
def y7w:FuncId:=155
def y3k:FuncId:=156
def y8e:FuncId:=102
def y47:FuncId:=56
def y4y:FuncId:=110
def y54:FuncId:=111
def y65:FuncId:=63
def y6m:FuncId:=253
def y8w:FuncId:=221
def yai:FuncId:=159
def y6z:FuncId:=160
def y7x:FuncId:=104
def y3e:FuncId:=57
def y3m:FuncId:=113
def y5t:FuncId:=164
def y6y:FuncId:=114
def y3y:FuncId:=112
def y6n:FuncId:=64
def y4p:FuncId:=161
def y61:FuncId:=105
def y3u:FuncId:=58
def y42:FuncId:=59
def y4x:FuncId:=106
def y3r:FuncId:=60
def y7z:FuncId:=162
def y9d:FuncId:=107
def y5f:FuncId:=61
def y76:FuncId:=109
def y5u:FuncId:=62
def y5e:FuncId:=28
def y5s:FuncId:=65
def y3q:FuncId:=66
def y5g:FuncId:=29
def y8u:FuncId:=9
def y75:FuncId:=18
def y5a:FuncId:=16
def y69:FuncId:=11
def y8b:FuncId:=76
def y3l:FuncId:=75
def y80:FuncId:=39
def y4b:FuncId:=38
def y9s:FuncId:=17
def y6x:FuncId:=12
def y3c:FuncId:=35
def y4a:FuncId:=37
def y8d:FuncId:=36
def y81:FuncId:=14
def y4k:FuncId:=15
def y49:FuncId:=77
def y3i:FuncId:=40
def y9e:FuncId:=19
def y5k:FuncId:=26
def y7f:FuncId:=20
def y8c:FuncId:=21
def y6g:FuncId:=22
def y6v:FuncId:=5
def yp.r0:jI:=[ah 6 0]
def yp.r1:jI:=[ac 10 0,al 11 10,ah 12 0]
def yp.r2:jI:=[ar 13 12 11]
def yp.r3:jI:=[ac 14 12,am 15 3 10 12,ap 16 3 15,a2m 8 0 0,ac 7 14,aj 3 8 16]
def yp.r4:jI:=[ac 17 1,ap 18 3 8,a1y 19 17 18,ac 9 19]
def yp.r5:jI:=[ac 20 9,a1b 21 20 0]
def yp.r6:jI:=[ac 22 9,ac 6 22]
def yp.r7:jI:=[ac 23 7,a1e 24 23 0,ac 25 24,an 26 25 2,an 27 25 0,an 28 25 7,a2n 29 25 28 1,a1l 30 25 3 27 29,a1c 31 25 3 30,a1c 32 25 3 8,a1z 33 25 26 31 32,a2c 34 25 33 0,aq 35 25 34]
def yp.r8:jI:=[ah 6 13]
def yp.r9:jI:=[ax 36 12 1,ac 12 36]
def yp.l0:ACode:=jJ [0,1,2,10,11,12,13] yp.r2 (.seq (.post [0,1,2,10,11,12] (.cond (.t 13) (.skip) (.exit 0))) (.seq (.post [0,1,2,10,11,12] (.block 1 (jJ [0,1,2,7,8,10,11,12] yp.r3 (.seq (jJ [0,1,2,7,8,9,10,11,12] yp.r4 (jJ [0,1,2,7,8,9,10,11,12,21] yp.r5 (.post [0,1,2,7,8,10,11,12] (.cond (.t 21) (jJ [6] yp.r6 (.ret)) (.skip))))) (.seq (.post [0,1,2,10,11,12,35] (.draw [0,1,3,7,7,7,39,119,247,7,1023,2047,4095] yp.r7)) (.post [0,1,2,10,11,12] (.cond (.t 35) (jJ [6] yp.r8 (.ret)) (.skip)))))))) (jK [0,1,2,10,11,12] yp.r9)))
def yp.r10:jI:=[ah 6 0]
def yp:AFunc:=⟨37,[.t 6],jJ [0,1,2] yp.r0 (.seq (jJ [0,1,2,10,11,12] yp.r1 (.post [] (.block 0 (.loop yp.l0)))) (jJ [6] yp.r10 (.ret)))⟩
theorem yp.ok:y23 Tryz.prog Tryz.f47 yp=true:=by kernel_rfl
theorem yp.at:Tryz.prog.funcs[y5q]?=some Tryz.f47:=Tryz.func47
def y1j.r0:jI:=[ah 2 0]
def y1j.r1:jI:=[ah 3 2]
def y1j.r2:jI:=[ac 5 0,a2o 6 5 48,ac 7 6,an 8 7 0,a2p 9 7 8 57,aq 10 7 9,ac 4 10]
def y1j.r3:jI:=[ac 12 0,a2o 13 12 65,ac 14 13,an 15 14 0,a2p 16 14 15 90,aq 17 14 16,ac 11 17]
def y1j.r4:jI:=[ac 18 0,a2o 19 18 97,ac 20 19,an 21 20 0,a2p 22 20 21 122,aq 23 20 22,ac 11 23]
def y1j.r5:jI:=[ac 24 0,a2d 25 24 95,ac 11 25]
def y1j.r6:jI:=[ah 3 1]
def y1j.r7:jI:=[ac 26 3,ac 2 26]
def y1j.r8:jI:=[ah 2 0]
def y1j:AFunc:=⟨27,[.t 2],jJ [0] y1j.r0 (jJ [0,3] y1j.r1 (.seq (.post [] (.block 0 (.seq (.post [3] (.block 2 (.seq (.post [] (.block 1 (.seq (.seq (jJ [0,3,4] y1j.r2 (.post [0,3] (.cond (.t 4) (.exit 1) (.skip)))) (.seq (jJ [0,3,11] y1j.r3 (.post [3,11] (.cond (.t 11) (.skip) (jJ [0,3,11] y1j.r4 (.post [3,11] (.cond (.t 11) (.skip) (jK [3,11] y1j.r5))))))) (.post [] (.cond (.t 11) (.exit 2) (.skip))))) (.exit 0)))) (jK [3] y1j.r6)))) (.seq (jJ [2] y1j.r7 (.ret)) (.exit 0))))) (jJ [2] y1j.r8 (.ret))))⟩
theorem y1j.ok:y23 Tryz.prog Tryz.f240 y1j=true:=by kernel_rfl
theorem y1j.at:Tryz.prog.funcs[y5d]?=some Tryz.f240:=Tryz.func240
def y13.r0:jI:=[ah 2 0,ah 3 0]
def y13.r1:jI:=[ac 7 0,a1p 8 7]
def y13.r2:jI:=[ah 2 0,ah 3 1]
def y13.r3:jI:=[ac 9 0,a1h 10 9,ah 11 0]
def y13.r4:jI:=[ar 12 11 10]
def y13.r5:jI:=[ac 13 11,ac 4 13]
def y13.r6:jI:=[ac 14 0,ac 15 4,a2q 16 14 15,⟨some 17,none,.call y5d [.t 16]⟩,a1b 18 17 1]
def y13.r7:jI:=[ah 2 0,ah 3 3]
def y13.r8:jI:=[ax 19 11 1,ac 11 19]
def y13.l0:ACode:=jJ [0,10,11,12] y13.r4 (.seq (.post [0,10,11] (.cond (.t 12) (.skip) (.exit 0))) (.seq (.post [0,10,11] (.block 1 (jJ [0,4,10,11] y13.r5 (jJ [0,10,11,18] y13.r6 (.post [0,10,11] (.cond (.t 18) (jJ [2,3] y13.r7 (.ret)) (.skip))))))) (jK [0,10,11] y13.r8)))
def y13.r9:jI:=[ac 21 0,a2e 22 21 0,a2d 23 22 48,ac 24 23,an 25 24 0,a1q 26 24 25,⟨some 27,(some (24,true)),.op (.bin .gtr (.t 26) (.c (.i .i64 1)))⟩,aq 28 24 27,ac 20 28]
def y13.r10:jI:=[ah 2 0,ah 3 3]
def y13.r11:jI:=[ac 30 0,a1h 31 30,a1e 32 31 9,ac 29 32]
def y13.r12:jI:=[ah 2 0,ah 3 2]
def y13.r13:jI:=[ac 34 0,⟨some 35,none,.call ydf [.t 34]⟩,ac 33 35,ai 36 0 33,ai 37 1 33,ac 5 36,ac 6 37]
def y13.r14:jI:=[ac 38 6,⟨some 39,none,.op (.eqk .ifn true (.t 38) (.c (.nifc)))⟩,ac 40 39,a12 41 40 5,a1m 42 40 41 268435456,a11 43 40 42]
def y13.r15:jI:=[ah 2 0,ah 3 2]
def y13.r16:jI:=[ac 44 5,ac 2 44,ah 3 0]
def y13:AFunc:=⟨45,[.t 2,.t 3],jJ [0] y13.r0 (.seq (jJ [0,8] y13.r1 (.post [0] (.cond (.t 8) (jJ [2,3] y13.r2 (.ret)) (.skip)))) (.seq (jJ [0,10,11] y13.r3 (.post [0] (.block 0 (.loop y13.l0)))) (.seq (.post [0] (.block 2 (jJ [0,20] y13.r9 (.post [0] (.cond (.t 20) (jJ [2,3] y13.r10 (.ret)) (jJ [0,29] y13.r11 (.post [0] (.cond (.t 29) (jJ [2,3] y13.r12 (.ret)) (.skip))))))))) (jJ [5,6] y13.r13 (.seq (jJ [5,43] y13.r14 (.post [5] (.cond (.t 43) (jJ [2,3] y13.r15 (.ret)) (.skip)))) (jJ [2,3] y13.r16 (.ret)))))))⟩
theorem y13.ok:y23 Tryz.prog Tryz.f239 y13=true:=by kernel_rfl
theorem y13.at:Tryz.prog.funcs[y8v]?=some Tryz.f239:=Tryz.func239
def y2u.r0:jI:=[ah 2 0,ak 3]
def y2u.r1:jI:=[ac 7 0,⟨some 8,none,.call y8v [.t 7]⟩,ac 6 8,ai 9 0 6,ai 10 1 6,ac 4 9,ac 5 10]
def y2u.r2:jI:=[ac 11 4,ac 12 5,a10 13 12 0,ac 2 11,ac 3 13]
def y2u:AFunc:=⟨14,[.t 2,.t 3],jJ [0] y2u.r0 (jJ [4,5] y2u.r1 (jJ [2,3] y2u.r2 (.ret)))⟩
theorem y2u.ok:y23 Tryz.prog Tryz.f200 y2u=true:=by kernel_rfl
theorem y2u.at:Tryz.prog.funcs[y63]?=some Tryz.f200:=Tryz.func200
def y16.r0:jI:=[a16 2,a16 3]
def y16.r1:jI:=[ac 7 0,a1p 8 7]
def y16.r2:jI:=[a16 2,a16 3]
def y16.r3:jI:=[ah 4 1]
def y16.r4:jI:=[ac 9 0,a2e 10 9 0,⟨some 11,none,.call y5d [.t 10]⟩,a1b 12 11 2]
def y16.r5:jI:=[ac 13 0,⟨some 14,none,.call yay [.t 13,.c (.s [48,49,50,51,52,53,54,55,56,57])]⟩,ac 5 14]
def y16.r6:jI:=[ac 15 0,ac 16 0,a1h 17 16,ac 18 5,a1h 19 18,a2r 20 17 19,a2f 21 15 20,ac 22 5,ac 2 21,ac 3 22]
def y16.r7:jI:=[ac 23 0,a1h 24 23,ah 25 0]
def y16.r8:jI:=[ar 26 25 24]
def y16.r9:jI:=[ac 27 25,ac 6 27]
def y16.r10:jI:=[ac 28 0,ac 29 6,a2q 30 28 29,⟨some 31,none,.call y5d [.t 30]⟩,ac 32 4,ar 33 31 32]
def y16.r11:jI:=[ac 34 0,ac 35 6,a2f 36 34 35,ac 37 0,ac 38 6,a2s 39 37 38,ac 2 36,ac 3 39]
def y16.r12:jI:=[ax 40 25 1,ac 25 40]
def y16.l0:ACode:=jJ [0,4,24,25,26] y16.r8 (.seq (.post [0,4,24,25] (.cond (.t 26) (.skip) (.exit 0))) (.seq (.post [0,4,24,25] (.block 1 (jJ [0,4,6,24,25] y16.r9 (jJ [0,4,6,24,25,33] y16.r10 (.post [0,4,24,25] (.cond (.t 33) (.seq (.post [2,3] (.draw [0,0,3,0,0,24,7,127] y16.r11)) (.ret)) (.skip))))))) (jK [0,4,24,25] y16.r12)))
def y16.r13:jI:=[ac 41 0,ac 2 41,a16 3]
def y16:AFunc:=⟨42,[.t 2,.t 3],jJ [0] y16.r0 (.seq (jJ [0,8] y16.r1 (.post [0] (.cond (.t 8) (jJ [2,3] y16.r2 (.ret)) (.skip)))) (jJ [0,4] y16.r3 (.seq (jJ [0,4,12] y16.r4 (.post [0,4] (.cond (.t 12) (jJ [0,5] y16.r5 (jJ [2,3] y16.r6 (.ret))) (.skip)))) (.seq (jJ [0,4,24,25] y16.r7 (.post [0] (.block 0 (.loop y16.l0)))) (jJ [2,3] y16.r13 (.ret))))))⟩
theorem y16.ok:y23 Tryz.prog Tryz.f201 y16=true:=by kernel_rfl
theorem y16.at:Tryz.prog.funcs[y64]?=some Tryz.f201:=Tryz.func201
def yh.r0:jI:=[a1d 2 0 0 0 0,ak 3]
def yh.r1:jI:=[⟨some 9,none,.op (.build [.i .i64 0,.s [],.i .i64 0,.s [],.i .i64 0,.i .i64 0] [(5,1,.c (.i .i64 (-1)))])⟩,a1d 4 0 0 0 0,aj 6 4 9]
def yh.r2:jI:=[a18 5]
def yh.r3:jI:=[ac 10 0,⟨some 11,none,.call y7v [.t 10,.c (.i .u8 43)]⟩,ac 6 11]
def yh.r4:jI:=[ac 12 6,a1j 13 12 0]
def yh.r5:jI:=[ac 15 0,ac 16 6,ax 17 16 1,a2s 18 15 17,⟨some 19,none,.call y63 [.t 18]⟩,ac 14 19,ai 20 0 14,ai 21 1 14,af 22 5 4,aj 1 22 20,ac 5 21]
def yh.r6:jI:=[ac 23 5,a19 24 23]
def yh.r7:jI:=[ap 25 6 4,aj 6 2 25,ak 3]
def yh.r8:jI:=[ac 26 0,ac 27 6,a2f 28 26 27,ac 0 28]
def yh.r9:jI:=[ac 30 0,⟨some 31,none,.call y64 [.t 30]⟩,ac 29 31,ai 32 0 29,ai 33 1 29,ac 7 32,ac 8 33]
def yh.r10:jI:=[ac 34 8,a1p 35 34]
def yh.r11:jI:=[ac 36 7,af 37 0 4,a23 1 37 5,af 38 3 4,aj 1 38 36]
def yh.r12:jI:=[ap 39 6 4,aj 6 2 39,a18 3]
def yh.r13:jI:=[ac 40 7,af 41 1 4,aj 1 41 40]
def yh.r14:jI:=[ac 42 8,a2e 43 42 0,a2d 44 43 126]
def yh.r15:jI:=[ac 46 8,⟨some 47,none,.op (.sls (.t 46) (some (.c (.i .i64 1))) none)⟩,⟨some 48,none,.call y64 [.t 47]⟩,ac 45 48,ai 49 0 45,ai 50 1 45,ac 7 49,ac 8 50]
def yh.r16:jI:=[ac 52 7,⟨some 53,none,.call y63 [.t 52]⟩,ac 51 53,ai 54 0 51,ai 55 1 51,af 56 2 4,aj 1 56 54,ac 5 55]
def yh.r17:jI:=[ac 57 5,a19 58 57,ac 59 58,a12 60 59 8,⟨some 61,(some (59,false)),.op (.bin .eql (.t 60) (.c (.s [])))⟩,a11 62 59 61]
def yh.r18:jI:=[ap 63 6 4,aj 6 2 63,ak 3]
def yh.r19:jI:=[ac 64 8,a2e 65 64 0,⟨some 66,none,.call y7v [.c (.s [32,46,36,64,40,32,37,35]),.t 65]⟩,af 67 0 4,aj 1 67 66]
def yh.r20:jI:=[ac 68 8,⟨some 69,none,.op (.sls (.t 68) (some (.c (.i .i64 1))) none)⟩,ac 8 69]
def yh.r21:jI:=[af 70 0 4,ae 71 1 70]
def yh.r22:jI:=[a10 73 71 1,ac 72 73]
def yh.r23:jI:=[a10 74 71 6,ac 72 74]
def yh.r24:jI:=[ac 75 8,af 76 3 4,aj 1 76 75]
def yh.r25:jI:=[a10 78 71 4,ac 77 78]
def yh.r26:jI:=[ap 79 6 4,ac 80 8,⟨some 81,none,.op (.bin .eql (.t 80) (.c (.s [41])))⟩,aj 6 2 79,ac 3 81]
def yh.r27:jI:=[a10 83 71 2,ac 82 83]
def yh.r28:jI:=[a10 84 71 3,ac 82 84]
def yh.r29:jI:=[a10 85 71 7,ac 82 85]
def yh.r30:jI:=[ac 87 8,⟨some 88,none,.call y63 [.t 87]⟩,ac 86 88,ai 89 0 86,ai 90 1 86,af 91 4 4,aj 1 91 89,ac 5 90]
def yh.r31:jI:=[ak 5]
def yh.r32:jI:=[ap 92 6 4,ac 93 5,aj 6 2 92,ac 3 93]
def yh:AFunc:=⟨94,[.cell 2 true 6,.t 3],jJ [0,2] yh.r0 (jJ [0,2,4] yh.r1 (jJ [0,2,4,5] yh.r2 (.seq (jJ [0,2,4,5,6] yh.r3 (jJ [0,2,4,5,6,13] yh.r4 (.post [0,2,4,5] (.cond (.t 13) (.seq (jJ [0,2,4,5,6] yh.r5 (jJ [0,2,4,5,6,24] yh.r6 (.post [0,2,4,5,6] (.cond (.t 24) (jJ [2,3] yh.r7 (.ret)) (.skip))))) (jK [0,2,4,5] yh.r8)) (.skip))))) (jJ [2,4,5,7,8] yh.r9 (.seq (jJ [2,4,5,7,8,35] yh.r10 (.post [2,4,5,7,8] (.cond (.t 35) (jJ [2,4] yh.r11 (jJ [2,3] yh.r12 (.ret))) (.skip)))) (jJ [2,4,5,8] yh.r13 (.seq (jJ [2,4,5,8,44] yh.r14 (.post [2,4,5,8] (.cond (.t 44) (jJ [2,4,7,8] yh.r15 (jJ [2,4,5,8] yh.r16 (jJ [2,4,5,8,62] yh.r17 (.post [2,4,5,8] (.cond (.t 62) (jJ [2,3] yh.r18 (.ret)) (.skip)))))) (.skip)))) (jJ [2,4,5,8] yh.r19 (.seq (jJ [2,4,5,8] yh.r20 (jJ [2,4,5,8,71] yh.r21 (.post [2,4,5] (.block 0 (.seq (jJ [2,4,5,8,71,72] yh.r22 (.post [2,4,5,8,71,72] (.cond (.t 72) (.skip) (jK [2,4,5,8,71,72] yh.r23)))) (.post [2,4,5] (.cond (.t 72) (jK [2,4,5] yh.r24) (jJ [2,4,8,71,77] yh.r25 (.post [2,4,5] (.cond (.t 77) (jJ [2,3] yh.r26 (.ret)) (.seq (jJ [2,4,8,71,82] yh.r27 (.post [2,4,8,82] (.cond (.t 82) (.skip) (jJ [2,4,8,71,82] yh.r28 (.post [2,4,8,82] (.cond (.t 82) (.skip) (jK [2,4,8,82] yh.r29))))))) (.post [2,4,5] (.cond (.t 82) (jK [2,4,5] yh.r30) (jK [2,4,5] yh.r31)))))))))))))) (jJ [2,3] yh.r32 (.ret)))))))))))⟩
theorem yh.ok:y23 Tryz.prog Tryz.f148 yh=true:=by kernel_rfl
theorem yh.at:Tryz.prog.funcs[y9c]?=some Tryz.f148:=Tryz.func148
def y2h.r0:jI:=[ak 2]
def y2h.r1:jI:=[ac 6 0,⟨some 7,none,.call y64 [.t 6]⟩,ac 5 7,ai 8 0 5,ai 9 1 5,ac 3 8,ac 4 9]
def y2h.r2:jI:=[ac 10 3,a2g 11 10,ac 12 11,an 13 12 4,⟨some 14,(some (12,true)),.op (.bin .eql (.t 13) (.c (.s [])))⟩,aq 15 12 14,ac 16 15,an 17 16 0,a1q 18 16 17,a1n 19 16 18 16,aq 20 16 19,ac 21 20,an 22 21 0,⟨some 23,(some (21,true)),.op (.idx (.t 22) (.c (.i .i64 0)))⟩,⟨some 24,(some (21,true)),.call y5d [.t 23]⟩,a1o 25 21 24 2,aq 26 21 25,ac 2 26]
def y2h:AFunc:=⟨27,[.t 2],jJ [0] y2h.r0 (jJ [0,3,4] y2h.r1 (jJ [2] y2h.r2 (.ret)))⟩
theorem y2h.ok:y23 Tryz.prog Tryz.f202 y2h=true:=by kernel_rfl
theorem y2h.at:Tryz.prog.funcs[y6k]?=some Tryz.f202:=Tryz.func202
def y27.r0:jI:=[a15 1 0,ak 2]
def y27.r1:jI:=[af 3 5 1,ae 4 1 3,a1j 5 4 (-1),ac 6 5,aw 7 6 5 1,ay 8 6 1 7,a1n 9 6 8 268435456,aq 10 6 9,ac 2 10]
def y27:AFunc:=⟨11,[.t 2],jJ [1] y27.r0 (jJ [2] y27.r1 (.ret))⟩
theorem y27.ok:y23 Tryz.prog Tryz.f203 y27=true:=by kernel_rfl
theorem y27.at:Tryz.prog.funcs[y4l]?=some Tryz.f203:=Tryz.func203
def y9.r0:jI:=[a15 1 0,ak 2]
def y9.r1:jI:=[ap 5 6 1,a1d 3 0 0 0 0,aj 6 3 5]
def y9.r2:jI:=[af 6 0 3,a23 1 6 0,af 7 1 3,⟨none,none,.op (.store 1 (.t 7) (.c (.s [])))⟩,af 8 2 3,a23 1 8 0]
def y9.r3:jI:=[af 9 0 1,ae 10 1 9,a1b 11 10 5,ac 12 11,aw 13 12 1 1,ay 14 12 1 13,⟨some 15,(some (12,true)),.call y6k [.t 14]⟩,⟨some 16,(some (12,true)),.op (.un .not (.t 15))⟩,an 17 12 16,a13 18 17 2 1,a14 19 17 1 18,a26 20 17 19 0,a27 21 12 17 20,an 22 12 21,a13 23 22 2 1,a14 24 22 1 23,a1m 25 22 24 268435456,a27 26 12 22 25,aq 27 12 26]
def y9.r4:jI:=[ak 2]
def y9.r5:jI:=[ah 4 0]
def y9.r6:jI:=[af 28 0 1,ae 29 1 28]
def y9.r7:jI:=[a10 31 29 5,ac 30 31]
def y9.r8:jI:=[a10 33 29 6,ac 32 33]
def y9.r9:jI:=[a10 35 29 1,ac 34 35]
def y9.r10:jI:=[a10 37 29 7,ac 36 37]
def y9.r11:jI:=[a10 39 29 4,ac 38 39]
def y9.r12:jI:=[a10 41 29 3,ac 40 41]
def y9.r13:jI:=[a10 43 29 2,ac 42 43]
def y9.r14:jI:=[af 44 1 1,ae 45 1 44,a2g 46 45,ac 47 46,a13 48 47 2 1,a14 49 47 1 48,a2h 50 47 49 0,a11 51 47 50]
def y9.r15:jI:=[ak 2]
def y9.r16:jI:=[af 52 3 1,ae 53 1 52,⟨some 54,none,.call y6k [.t 53]⟩,ac 55 54,a1c 56 55 6 3,aw 57 55 3 1,ay 58 55 1 57,aw 59 55 5 1,ay 60 55 1 59,⟨some 61,(some (55,true)),.op (.build [.i .i64 0,.s [],.i .i64 0,.s [],.i .i64 0,.i .i64 0] [(3,1,.t 58),(5,1,.t 60)])⟩,a2i 62 55 0 1 0 1 0 0 56 61,aq 63 55 62,ac 64 63,a1c 65 64 6 1,⟨some 66,(some (64,true)),.call y4l [.t 65]⟩,aq 67 64 66,ac 2 67]
def y9.r17:jI:=[af 68 3 1,ae 69 1 68,⟨some 70,none,.call y6k [.t 69]⟩,ac 71 70,a1c 72 71 6 3,aw 73 71 3 1,ay 74 71 1 73,⟨some 75,(some (71,true)),.op (.build [.i .i64 0,.s [],.i .i64 0,.s [],.i .i64 0,.i .i64 0] [(3,1,.t 74),(5,1,.c (.i .i64 (-1)))])⟩,a2i 76 71 0 1 0 1 0 0 72 75,aq 77 71 76,ac 2 77]
def y9.r18:jI:=[af 78 4 1,ae 79 1 78,a1j 80 79 1,ac 81 80,aw 82 81 4 1,ay 83 81 1 82,a1n 84 81 83 268435456,aq 85 81 84,ac 86 85,a1c 87 86 6 3,aw 88 86 4 1,ay 89 86 1 88,aw 90 86 5 1,ay 91 86 1 90,⟨some 92,(some (86,true)),.op (.build [.i .i64 0,.s [],.i .i64 0,.s [],.i .i64 0,.i .i64 0] [(4,1,.t 89),(5,1,.t 91)])⟩,a2i 93 86 0 1 0 1 0 0 87 92,aq 94 86 93,ac 95 94,a1c 96 95 6 1,⟨some 97,(some (95,true)),.call y4l [.t 96]⟩,aq 98 95 97,ac 2 98]
def y9.r19:jI:=[ap 99 6 3,⟨some 100,none,.op (.build [.i .i64 0,.s [],.i .i64 0,.s [],.i .i64 0,.i .i64 0] [(5,1,.c (.i .i64 (-1)))])⟩,⟨some 101,none,.op (.eqa false [0,1,0,1,0,0] (.t 99) (.t 100))⟩,ac 2 101]
def y9.r20:jI:=[ah 4 1]
def y9.r21:jI:=[af 102 4 1,ae 103 1 102,ac 104 4,⟨some 105,none,.op (.bin .geq (.t 103) (.t 104))⟩,ac 106 105,aw 107 106 4 1,ay 108 106 1 107,a1n 109 106 108 268435456,aq 110 106 109,ac 111 110,a1c 112 111 6 3,aw 113 111 4 1,ay 114 111 1 113,⟨some 115,(some (111,true)),.op (.build [.i .i64 0,.s [],.i .i64 0,.s [],.i .i64 0,.i .i64 0] [(4,1,.t 114),(5,1,.c (.i .i64 (-1)))])⟩,a2i 116 111 0 1 0 1 0 0 112 115,aq 117 111 116,ac 2 117]
def y9.r22:jI:=[ak 2]
def y9:AFunc:=⟨118,[.t 2],jJ [1] y9.r0 (jJ [1,3] y9.r1 (jJ [1,3] y9.r2 (.seq (jJ [1,3,27] y9.r3 (.post [1,3] (.cond (.t 27) (jJ [2] y9.r4 (.ret)) (.skip)))) (jJ [1,3,4] y9.r5 (.seq (jJ [1,3,4,29] y9.r6 (.post [] (.block 0 (.seq (.post [1,3,4] (.block 7 (.seq (.post [1,3] (.block 6 (.seq (.post [3] (.block 5 (.seq (.post [1,3] (.block 4 (.seq (.post [1,3] (.block 3 (.seq (.post [1,3] (.block 2 (.seq (.post [1,3] (.block 1 (.seq (.seq (jJ [1,3,4,29,30] y9.r7 (.post [1,3,4,29] (.cond (.t 30) (.exit 1) (.skip)))) (.seq (jJ [1,3,4,29,32] y9.r8 (.post [1,3,4,29] (.cond (.t 32) (.exit 2) (.skip)))) (.seq (jJ [1,3,4,29,34] y9.r9 (.post [1,3,4,29] (.cond (.t 34) (.exit 3) (.skip)))) (.seq (jJ [1,3,4,29,36] y9.r10 (.post [1,3,4,29] (.cond (.t 36) (.exit 4) (.skip)))) (.seq (jJ [1,3,4,29,38] y9.r11 (.post [1,3,4,29] (.cond (.t 38) (.exit 5) (.skip)))) (.seq (jJ [1,3,4,29,40] y9.r12 (.post [1,3,4,29] (.cond (.t 40) (.exit 6) (.skip)))) (jJ [1,3,4,42] y9.r13 (.post [] (.cond (.t 42) (.exit 7) (.skip)))))))))) (.exit 0)))) (jJ [1,3,51] y9.r14 (.post [1,3] (.cond (.t 51) (jJ [2] y9.r15 (.ret)) (.skip))))))) (.seq (jJ [2] y9.r16 (.ret)) (.exit 0))))) (.seq (jJ [2] y9.r17 (.ret)) (.exit 0))))) (.seq (jJ [2] y9.r18 (.ret)) (.exit 0))))) (.seq (jJ [2] y9.r19 (.ret)) (.exit 0))))) (jK [1,3,4] y9.r20)))) (.seq (jJ [2] y9.r21 (.ret)) (.exit 0)))))) (jJ [2] y9.r22 (.ret)))))))⟩
theorem y9.ok:y23 Tryz.prog Tryz.f149 y9=true:=by kernel_rfl
theorem y9.at:Tryz.prog.funcs[y5l]?=some Tryz.f149:=Tryz.func149
def y2e.r0:jI:=[a1d 2 0 0 0 0,ah 3 0]
def y2e.r1:jI:=[ac 7 0,⟨some 8,none,.call y9c [.t 7]⟩,ac 6 8,ai 9 0 6,ai 10 1 6,a1d 4 0 0 0 0,aj 6 4 9,ac 5 10]
def y2e.r2:jI:=[ac 11 5,a19 12 11,ac 13 12,a2t 14 13 6 4,⟨some 15,(some (13,false)),.call y5l [.t 14]⟩,a1r 16 13 15,a11 17 13 16,ac 18 17,a2t 19 18 6 4,⟨some 20,(some (18,false)),.call y6j [.t 19]⟩,a12 21 18 0,a2u 22 18 20 21,a11 23 18 22]
def y2e.r3:jI:=[⟨some 24,none,.op (.build [.i .i64 0,.s [],.i .i64 0,.s [],.i .i64 0,.i .i64 0] [])⟩,aj 6 2 24,ah 3 11]
def y2e.r4:jI:=[ap 25 6 4,aj 6 2 25,ah 3 0]
def y2e:AFunc:=⟨26,[.cell 2 true 6,.t 3],jJ [0,2] y2e.r0 (jJ [0,2,4,5] y2e.r1 (.seq (jJ [2,4,23] y2e.r2 (.post [2,4] (.cond (.t 23) (jJ [2,3] y2e.r3 (.ret)) (.skip)))) (jJ [2,3] y2e.r4 (.ret))))⟩
theorem y2e.ok:y23 Tryz.prog Tryz.f90 y2e=true:=by kernel_rfl
theorem y2e.at:Tryz.prog.funcs[y4d]?=some Tryz.f90:=Tryz.func90
def y2f.r0:jI:=[ak 4]
def y2f.r1:jI:=[ac 5 0,⟨some 6,none,.call ya6 [.t 5,.c (.s [105,112])]⟩,a1p 7 6,ac 8 7,an 9 8 0,a1q 10 8 9,an 11 8 1,⟨some 12,(some (8,true)),.op (.bin .leq (.t 10) (.t 11))⟩,aq 13 8 12,ac 4 13]
def y2f:AFunc:=⟨14,[.t 4],jJ [0,1] y2f.r0 (jJ [4] y2f.r1 (.ret))⟩
theorem y2f.ok:y23 Tryz.prog Tryz.f91 y2f=true:=by kernel_rfl
theorem y2f.at:Tryz.prog.funcs[y4g]?=some Tryz.f91:=Tryz.func91
def y2o.r0:jI:=[ak 2]
def y2o.r1:jI:=[ac 3 0,a2g 4 3,ac 5 4,an 6 5 0,a1q 7 5 6,a1n 8 5 7 60,aq 9 5 8,ac 2 9]
def y2o:AFunc:=⟨10,[.t 2],jJ [0] y2o.r0 (jJ [2] y2o.r1 (.ret))⟩
theorem y2o.ok:y23 Tryz.prog Tryz.f92 y2o=true:=by kernel_rfl
theorem y2o.at:Tryz.prog.funcs[y5w]?=some Tryz.f92:=Tryz.func92
def yk.r0:jI:=[a15 3 1,ah 4 0]
def yk.r1:jI:=[ac 6 0,al 7 6,ah 8 0]
def yk.r2:jI:=[ar 9 8 7]
def yk.r3:jI:=[ac 10 8,ac 5 10]
def yk.r4:jI:=[ap 11 2 3,ac 12 0,ac 13 5,am 14 2 12 13,ap 15 2 14,⟨some 16,none,.op (.eqa false [0,1] (.t 11) (.t 15))⟩]
def yk.r5:jI:=[ac 17 5,ac 4 17]
def yk.r6:jI:=[ax 18 8 1,ac 8 18]
def yk.l0:ACode:=jJ [0,3,7,8,9] yk.r2 (.seq (.post [0,3,7,8] (.cond (.t 9) (.skip) (.exit 0))) (.seq (.post [0,3,7,8] (.block 1 (jJ [0,3,5,7,8] yk.r3 (.seq (.post [0,3,5,7,8,16] (.draw [0,0,0,6,14,31] yk.r4)) (.post [0,3,7,8] (.cond (.t 16) (jJ [4] yk.r5 (.ret)) (.skip))))))) (jK [0,3,7,8] yk.r6)))
def yk.r7:jI:=[ah 4 (-1)]
def yk:AFunc:=⟨19,[.t 4],jJ [0,3] yk.r0 (.seq (jJ [0,3,7,8] yk.r1 (.post [] (.block 0 (.loop yk.l0)))) (jJ [4] yk.r7 (.ret)))⟩
theorem yk.ok:y23 Tryz.prog Tryz.f152 yk=true:=by kernel_rfl
theorem yk.at:Tryz.prog.funcs[y3w]?=some Tryz.f152:=Tryz.func152
def y1i.r0:jI:=[a15 3 1,ak 4]
def y1i.r1:jI:=[ac 5 0,ap 6 2 3,⟨some 7,none,.call y3w [.t 5,.t 6]⟩,a1j 8 7 0,ac 4 8]
def y1i:AFunc:=⟨9,[.t 4],jJ [0,3] y1i.r0 (jJ [4] y1i.r1 (.ret))⟩
theorem y1i.ok:y23 Tryz.prog Tryz.f93 y1i=true:=by kernel_rfl
theorem y1i.at:Tryz.prog.funcs[y2v]?=some Tryz.f93:=Tryz.func93
def yx.r0:jI:=[a15 1 0,ah 2 0]
def yx.r1:jI:=[af 9 0 1,ae 10 1 9,⟨some 11,none,.call y4d [.t 10]⟩,ac 8 11,ai 12 0 8,ai 13 1 8,a1d 3 0 0 0 0,aj 6 3 12,ac 4 13]
def yx.r2:jI:=[ac 15 4,a1b 16 15 0,ac 17 16,a13 18 17 0 3,a14 19 17 1 18,a26 20 17 19 5,a11 21 17 20,ac 22 21,a13 23 22 5 3,a14 24 22 1 23,a2v 25 22 24 0,a11 26 22 25,ac 14 26]
def yx.r3:jI:=[ah 2 11]
def yx.r4:jI:=[af 28 1 1,ae 29 1 28,a1p 30 29,ac 31 30,a13 32 31 1 1,a14 33 31 1 32,⟨some 34,(some (31,false)),.call y4g [.t 33,.c (.i .i64 64)]⟩,a1r 35 31 34,a11 36 31 35,ac 27 36]
def yx.r5:jI:=[ah 2 5]
def yx.r6:jI:=[ah 5 0]
def yx.r7:jI:=[af 37 2 1,ae 38 1 37,al 39 38,ah 40 0]
def yx.r8:jI:=[ar 41 40 39]
def yx.r9:jI:=[ac 42 40,am 43 2 38 40,ap 44 2 43,⟨some 7,none,.op (.new [.i .i64 0,.s []])⟩,ac 6 42,aj 2 7 44]
def yx.r10:jI:=[af 45 0 7,ae 46 1 45,ac 47 5,ar 48 46 47,ac 49 48,a13 50 49 0 7,a14 51 49 1 50,a13 52 49 1 1,a14 53 49 1 52,⟨some 54,(some (49,false)),.op (.len true (.t 53))⟩,⟨some 55,(some (49,false)),.op (.bin .geq (.t 51) (.t 54))⟩,a11 56 49 55,ac 57 56,a13 58 57 1 7,a14 59 57 1 58,⟨some 60,(some (57,false)),.call y5w [.t 59]⟩,a1r 61 57 60,a11 62 57 61,ac 63 62,a13 64 63 2 1,a14 65 63 1 64,a12 66 63 6,⟨some 67,(some (63,false)),.op (.slc 2 (.t 65) none (some (.t 66)))⟩,a2t 68 63 2 7,⟨some 69,(some (63,false)),.call y2v [.t 67,.t 68]⟩,a11 70 63 69]
def yx.r11:jI:=[ah 2 3]
def yx.r12:jI:=[af 71 0 7,ae 72 1 71,ac 5 72]
def yx.r13:jI:=[ax 73 40 1,ac 40 73]
def yx.l0:ACode:=jJ [1,5,38,39,40,41] yx.r8 (.seq (.post [1,5,38,39,40] (.cond (.t 41) (.skip) (.exit 1))) (.seq (.post [1,5,38,39,40] (.block 2 (jJ [1,5,6,7,38,39,40] yx.r9 (.seq (.seq (.post [1,7,38,39,40,70] (.draw [0,1,0,7,15,31,63,31,159,415,1023,2047,4095,8191,16383,32767,65535,131071,262143,524287,1048575,524287,4194303,524287,16777215,33554431] yx.r10)) (.post [1,7,38,39,40] (.cond (.t 70) (jJ [2] yx.r11 (.ret)) (.skip)))) (jK [1,5,38,39,40] yx.r12))))) (jK [1,5,38,39,40] yx.r13)))
def yx.r14:jI:=[ah 2 0]
def yx:AFunc:=⟨74,[.t 2],jJ [1] yx.r0 (jJ [1,3,4] yx.r1 (.seq (.post [1] (.block 0 (jJ [1,14] yx.r2 (.post [1] (.cond (.t 14) (jJ [2] yx.r3 (.ret)) (jJ [1,27] yx.r4 (.post [1] (.cond (.t 27) (jJ [2] yx.r5 (.ret)) (.skip))))))))) (jJ [1,5] yx.r6 (.seq (jJ [1,5,38,39,40] yx.r7 (.post [] (.block 1 (.loop yx.l0)))) (jJ [2] yx.r14 (.ret))))))⟩
theorem yx.ok:y23 Tryz.prog Tryz.f48 yx=true:=by kernel_rfl
theorem yx.at:Tryz.prog.funcs[y5p]?=some Tryz.f48:=Tryz.func48
def y2q.r0:jI:=[ak 2]
def y2q.r1:jI:=[ac 3 0,ac 4 0,a1f 5 3 4,ac 2 5]
def y2q:AFunc:=⟨6,[.t 2],jJ [0] y2q.r0 (jJ [2] y2q.r1 (.ret))⟩
theorem y2q.ok:y23 Tryz.prog Tryz.f153 y2q=true:=by kernel_rfl
theorem y2q.at:Tryz.prog.funcs[y5n]?=some Tryz.f153:=Tryz.func153
def yu.r0:jI:=[ah 4 0]
def yu.r1:jI:=[ac 7 0,⟨some 8,none,.call y5n [.t 7]⟩,ac 5 8]
def yu.r2:jI:=[ac 9 1,⟨some 10,none,.call y5n [.t 9]⟩,ac 6 10]
def yu.r3:jI:=[ac 11 5]
def yu.r4:jI:=[ac 12 6]
def yu.r5:jI:=[ah 4 0]
def yu.r6:jI:=[ah 4 (-1)]
def yu.r7:jI:=[ac 13 6]
def yu.r8:jI:=[ah 4 1]
def yu.r9:jI:=[ac 14 0,ac 15 1,ar 16 14 15]
def yu.r10:jI:=[ah 4 (-1)]
def yu.r11:jI:=[ac 17 0,ac 18 1,⟨some 19,none,.op (.bin .gtr (.t 17) (.t 18))⟩]
def yu.r12:jI:=[ah 4 1]
def yu.r13:jI:=[ah 4 0]
def yu:AFunc:=⟨20,[.t 4],jJ [0,1] yu.r0 (jJ [0,1,5] yu.r1 (jJ [0,1,5,6] yu.r2 (.seq (jJ [0,1,6,11] yu.r3 (.post [0,1,6] (.cond (.t 11) (.seq (jJ [12] yu.r4 (.post [] (.cond (.t 12) (jJ [4] yu.r5 (.ret)) (.skip)))) (jJ [4] yu.r6 (.ret))) (.skip)))) (.seq (jJ [0,1,13] yu.r7 (.post [0,1] (.cond (.t 13) (jJ [4] yu.r8 (.ret)) (.skip)))) (.seq (jJ [0,1,16] yu.r9 (.post [0,1] (.cond (.t 16) (jJ [4] yu.r10 (.ret)) (.skip)))) (.seq (jJ [19] yu.r11 (.post [] (.cond (.t 19) (jJ [4] yu.r12 (.ret)) (.skip)))) (jJ [4] yu.r13 (.ret))))))))⟩
theorem yu.ok:y23 Tryz.prog Tryz.f94 yu=true:=by kernel_rfl
theorem yu.at:Tryz.prog.funcs[y34]?=some Tryz.f94:=Tryz.func94
def y3a.r0:jI:=[a15 2 0,a15 3 1,ah 4 0]
def y3a.r1:jI:=[af 5 0 2,ae 6 1 5,af 7 0 3,ae 8 1 7,⟨some 9,none,.call y34 [.t 6,.t 8]⟩,ac 4 9]
def y3a:AFunc:=⟨10,[.t 4],jJ [2,3] y3a.r0 (jJ [4] y3a.r1 (.ret))⟩
theorem y3a.ok:y23 Tryz.prog Tryz.f49 y3a=true:=by kernel_rfl
theorem y3a.at:Tryz.prog.funcs[y62]?=some Tryz.f49:=Tryz.func49
def yw.r0:jI:=[ah 6 0]
def yw.r1:jI:=[ac 10 0,al 11 10,ah 12 0]
def yw.r2:jI:=[ar 13 12 11]
def yw.r3:jI:=[ac 14 12,am 15 3 10 12,ap 16 3 15,a2w 8,ac 7 14,aj 3 8 16]
def yw.r4:jI:=[ac 17 1,ap 18 3 8,a1y 19 17 18,ac 9 19]
def yw.r5:jI:=[ac 20 9,a1b 21 20 0]
def yw.r6:jI:=[ac 22 9,ac 6 22]
def yw.r7:jI:=[ac 23 7,a1e 24 23 0,ac 25 24,an 26 25 2,an 27 25 0,an 28 25 7,a2n 29 25 28 1,a1l 30 25 3 27 29,a1c 31 25 3 30,a1c 32 25 3 8,a1z 33 25 26 31 32,a2c 34 25 33 0,aq 35 25 34]
def yw.r8:jI:=[ah 6 13]
def yw.r9:jI:=[ax 36 12 1,ac 12 36]
def yw.l0:ACode:=jJ [0,1,2,10,11,12,13] yw.r2 (.seq (.post [0,1,2,10,11,12] (.cond (.t 13) (.skip) (.exit 0))) (.seq (.post [0,1,2,10,11,12] (.block 1 (jJ [0,1,2,7,8,10,11,12] yw.r3 (.seq (jJ [0,1,2,7,8,9,10,11,12] yw.r4 (jJ [0,1,2,7,8,9,10,11,12,21] yw.r5 (.post [0,1,2,7,8,10,11,12] (.cond (.t 21) (jJ [6] yw.r6 (.ret)) (.skip))))) (.seq (.post [0,1,2,10,11,12,35] (.draw [0,1,3,7,7,7,39,119,247,7,1023,2047,4095] yw.r7)) (.post [0,1,2,10,11,12] (.cond (.t 35) (jJ [6] yw.r8 (.ret)) (.skip)))))))) (jK [0,1,2,10,11,12] yw.r9)))
def yw.r10:jI:=[ah 6 0]
def yw:AFunc:=⟨37,[.t 6],jJ [0,1,2] yw.r0 (.seq (jJ [0,1,2,10,11,12] yw.r1 (.post [] (.block 0 (.loop yw.l0)))) (jJ [6] yw.r10 (.ret)))⟩
theorem yw.ok:y23 Tryz.prog Tryz.f50 yw=true:=by kernel_rfl
theorem yw.at:Tryz.prog.funcs[y60]?=some Tryz.f50:=Tryz.func50
def y1a.r0:jI:=[a15 1 0,ah 2 0]
def y1a.r1:jI:=[af 6 0 1,ae 7 1 6,⟨some 8,none,.call y4d [.t 7]⟩,ac 5 8,ai 9 0 5,ai 10 1 5,a1d 3 0 0 0 0,aj 6 3 9,ac 4 10]
def y1a.r2:jI:=[ac 12 4,a1b 13 12 0,ac 14 13,a13 15 14 0 3,a14 16 14 1 15,a2h 17 14 16 4,a11 18 14 17,ac 11 18]
def y1a.r3:jI:=[ah 2 11]
def y1a.r4:jI:=[af 20 1 1,ae 21 1 20,⟨some 22,none,.call y4g [.t 21,.c (.i .i64 6)]⟩,a19 23 22,ac 24 23,a13 25 24 2 1,a14 26 24 1 25,⟨some 27,(some (24,false)),.op (.bin .neq (.t 26) (.c (.s [105])))⟩,a12 28 24 27,aw 29 28 2 1,ay 30 28 1 29,a2j 31 28 30 112,a1s 32 24 28 31,a12 33 24 32,aw 34 33 2 1,ay 35 33 1 34,a2j 36 33 35 118,a1s 37 24 33 36,a11 38 24 37,ac 19 38]
def y1a.r5:jI:=[ah 2 5]
def y1a.r6:jI:=[ah 2 0]
def y1a:AFunc:=⟨39,[.t 2],jJ [1] y1a.r0 (jJ [1,3,4] y1a.r1 (.seq (.post [] (.block 0 (jJ [1,11] y1a.r2 (.post [] (.cond (.t 11) (jJ [2] y1a.r3 (.ret)) (jJ [19] y1a.r4 (.post [] (.cond (.t 19) (jJ [2] y1a.r5 (.ret)) (.skip))))))))) (jJ [2] y1a.r6 (.ret))))⟩
theorem y1a.ok:y23 Tryz.prog Tryz.f51 y1a=true:=by kernel_rfl
theorem y1a.at:Tryz.prog.funcs[y4w]?=some Tryz.f51:=Tryz.func51
def y3f.r0:jI:=[a15 2 0,a15 3 1,ah 4 0]
def y3f.r1:jI:=[af 5 0 2,ae 6 1 5,af 7 0 3,ae 8 1 7,⟨some 9,none,.call y34 [.t 6,.t 8]⟩,ac 4 9]
def y3f:AFunc:=⟨10,[.t 4],jJ [2,3] y3f.r0 (jJ [4] y3f.r1 (.ret))⟩
theorem y3f.ok:y23 Tryz.prog Tryz.f52 y3f=true:=by kernel_rfl
theorem y3f.at:Tryz.prog.funcs[y6i]?=some Tryz.f52:=Tryz.func52
def yq.r0:jI:=[ah 6 0]
def yq.r1:jI:=[ac 10 0,al 11 10,ah 12 0]
def yq.r2:jI:=[ar 13 12 11]
def yq.r3:jI:=[ac 14 12,am 15 6 10 12,ap 16 6 15,⟨some 8,none,.op (.new [.i .i64 0,.s [],.s [],.i .i64 0,.s [],.sl none 0 0])⟩,ac 7 14,aj 6 8 16]
def yq.r4:jI:=[ac 17 1,ap 18 6 8,a1y 19 17 18,ac 9 19]
def yq.r5:jI:=[ac 20 9,a1b 21 20 0]
def yq.r6:jI:=[ac 22 9,ac 6 22]
def yq.r7:jI:=[ac 23 7,a1e 24 23 0,ac 25 24,an 26 25 2,an 27 25 0,an 28 25 7,a2n 29 25 28 1,a1l 30 25 6 27 29,a1c 31 25 6 30,a1c 32 25 6 8,a1z 33 25 26 31 32,a2c 34 25 33 0,aq 35 25 34]
def yq.r8:jI:=[ah 6 13]
def yq.r9:jI:=[ax 36 12 1,ac 12 36]
def yq.l0:ACode:=jJ [0,1,2,10,11,12,13] yq.r2 (.seq (.post [0,1,2,10,11,12] (.cond (.t 13) (.skip) (.exit 0))) (.seq (.post [0,1,2,10,11,12] (.block 1 (jJ [0,1,2,7,8,10,11,12] yq.r3 (.seq (jJ [0,1,2,7,8,9,10,11,12] yq.r4 (jJ [0,1,2,7,8,9,10,11,12,21] yq.r5 (.post [0,1,2,7,8,10,11,12] (.cond (.t 21) (jJ [6] yq.r6 (.ret)) (.skip))))) (.seq (.post [0,1,2,10,11,12,35] (.draw [0,1,3,7,7,7,39,119,247,7,1023,2047,4095] yq.r7)) (.post [0,1,2,10,11,12] (.cond (.t 35) (jJ [6] yq.r8 (.ret)) (.skip)))))))) (jK [0,1,2,10,11,12] yq.r9)))
def yq.r10:jI:=[ah 6 0]
def yq:AFunc:=⟨37,[.t 6],jJ [0,1,2] yq.r0 (.seq (jJ [0,1,2,10,11,12] yq.r1 (.post [] (.block 0 (.loop yq.l0)))) (jJ [6] yq.r10 (.ret)))⟩
theorem yq.ok:y23 Tryz.prog Tryz.f53 yq=true:=by kernel_rfl
theorem yq.at:Tryz.prog.funcs[y5r]?=some Tryz.f53:=Tryz.func53
def y2r.r0:jI:=[ak 2]
def y2r.r1:jI:=[ac 6 0,⟨some 7,none,.call y4d [.t 6]⟩,ac 5 7,ai 8 0 5,ai 9 1 5,a1d 3 0 0 0 0,aj 6 3 8,ac 4 9]
def y2r.r2:jI:=[ac 10 4,a10 11 10 0,ac 12 11,aw 13 12 0 3,ay 14 12 1 13,a1n 15 12 14 3,an 16 12 15,a13 17 16 5 3,a14 18 16 1 17,a2v 19 16 18 0,a27 20 12 16 19,aq 21 12 20,ac 2 21]
def y2r:AFunc:=⟨22,[.t 2],jJ [0] y2r.r0 (jJ [3,4] y2r.r1 (jJ [2] y2r.r2 (.ret)))⟩
theorem y2r.ok:y23 Tryz.prog Tryz.f95 y2r=true:=by kernel_rfl
theorem y2r.at:Tryz.prog.funcs[y53]?=some Tryz.f95:=Tryz.func95
def y2i.r0:jI:=[ak 2]
def y2i.r1:jI:=[ac 6 0,⟨some 7,none,.call y4d [.t 6]⟩,ac 5 7,ai 8 0 5,ai 9 1 5,a1d 3 0 0 0 0,aj 6 3 8,ac 4 9]
def y2i.r2:jI:=[ac 10 4,a10 11 10 0,ac 12 11,aw 13 12 0 3,ay 14 12 1 13,a1o 15 12 14 4,an 16 12 15,a13 17 16 5 3,a14 18 16 1 17,a2v 19 16 18 0,a27 20 12 16 19,aq 21 12 20,ac 2 21]
def y2i:AFunc:=⟨22,[.t 2],jJ [0] y2i.r0 (jJ [3,4] y2i.r1 (jJ [2] y2i.r2 (.ret)))⟩
theorem y2i.ok:y23 Tryz.prog Tryz.f96 y2i=true:=by kernel_rfl
theorem y2i.at:Tryz.prog.funcs[y88]?=some Tryz.f96:=Tryz.func96
def y17.r0:jI:=[a16 4,a16 5,ak 6]
def y17.r1:jI:=[ac 8 0,ac 9 1,⟨some 10,none,.call y5m [.t 8,.t 9]⟩,ac 7 10]
def y17.r2:jI:=[ac 11 7,a1j 12 11 0]
def y17.r3:jI:=[ac 13 0,ac 14 7,a2f 15 13 14,ac 16 0,ac 17 7,ac 18 1,a1h 19 18,a1a 20 17 19,a2s 21 16 20,ac 4 15,ac 5 21,a18 6]
def y17.r4:jI:=[ac 22 0,ac 4 22,a16 5,ak 6]
def y17:AFunc:=⟨23,[.t 4,.t 5,.t 6],jJ [0,1] y17.r0 (.seq (jJ [0,1,7] y17.r1 (jJ [0,1,7,12] y17.r2 (.post [0] (.cond (.t 12) (.seq (.post [4,5,6] (.draw [0,0,3,0,0,0,32,112,248,7,1023,2047] y17.r3)) (.ret)) (.skip))))) (jJ [4,5,6] y17.r4 (.ret)))⟩
theorem y17.ok:y23 Tryz.prog Tryz.f163 y17=true:=by kernel_rfl
theorem y17.at:Tryz.prog.funcs[y4q]?=some Tryz.f163:=Tryz.func163
def y3g.r0:jI:=[a16 4,a16 5,ak 6]
def y3g.r1:jI:=[ac 7 0,ac 8 1,⟨some 9,none,.call y4q [.t 7,.t 8]⟩,ai 10 0 9,ai 11 1 9,ai 12 2 9,ac 4 10,ac 5 11,ac 6 12]
def y3g:AFunc:=⟨13,[.t 4,.t 5,.t 6],jJ [0,1] y3g.r0 (jJ [4,5,6] y3g.r1 (.ret))⟩
theorem y3g.ok:y23 Tryz.prog Tryz.f108 y3g=true:=by kernel_rfl
theorem y3g.at:Tryz.prog.funcs[y7m]?=some Tryz.f108:=Tryz.func108
def yy.r0:jI:=[a15 1 0,ak 2]
def yy.r1:jI:=[af 10 4 1,ae 11 1 10,⟨some 12,none,.call y7m [.t 11,.c (.s [62])]⟩,ac 9 12,ai 13 0 9,ai 14 1 9,ai 15 2 9,ac 3 13,ac 4 14,ac 5 15]
def yy.r2:jI:=[ac 16 5,a19 17 16,ac 18 17,a13 19 18 3 1,a14 20 18 1 19,a2h 21 18 20 0,a11 22 18 21,ac 23 22,a12 24 23 3,⟨some 25,(some (23,false)),.call y4g [.t 24,.c (.i .i64 6)]⟩,a1r 26 23 25,a11 27 23 26,ac 28 27,a12 29 28 4,⟨some 30,(some (28,false)),.op (.bin .neq (.t 29) (.c (.s [])))⟩,a12 31 28 30,an 32 31 4,a2j 33 31 32 105,a1s 34 28 31 33,a12 35 28 34,an 36 35 4,a2j 37 35 36 112,a1s 38 28 35 37,a11 39 28 38,ac 40 39,a13 41 40 5 1,a14 42 40 1 41,a1t 43 40 42,a12 44 40 3,⟨some 45,(some (40,false)),.op (.len true (.t 44))⟩,⟨some 46,(some (40,false)),.op (.bin .add (.t 45) (.c (.i .i64 1)))⟩,a2u 47 40 43 46,a11 48 40 47]
def yy.r3:jI:=[ak 2]
def yy.r4:jI:=[af 49 5 1,ae 50 1 49,al 51 50,ah 52 0]
def yy.r5:jI:=[ar 53 52 51]
def yy.r6:jI:=[ac 54 52,am 55 1 50 52,ae 56 1 55,ac 6 54,ac 7 56]
def yy.r7:jI:=[ac 57 4,⟨some 58,none,.op (.bin .eql (.t 57) (.c (.s [112])))⟩,ac 8 58]
def yy.r8:jI:=[ac 59 6,a1e 60 59 0]
def yy.r9:jI:=[ac 61 3,ac 62 6,⟨some 63,none,.op (.bin .sub (.t 62) (.c (.i .i64 1)))⟩,a2q 64 61 63,a2d 65 64 112,ac 8 65]
def yy.r10:jI:=[ac 66 7,a2g 67 66,ac 68 67,an 69 68 8,⟨some 70,(some (68,true)),.op (.un .not (.t 69))⟩,an 71 68 70,a12 72 71 7,⟨some 73,(some (71,false)),.call y53 [.t 72]⟩,a1r 74 71 73,a27 75 68 71 74,aq 76 68 75]
def yy.r11:jI:=[ak 2]
def yy.r12:jI:=[ax 77 52 1,ac 52 77]
def yy.l0:ACode:=jJ [3,4,50,51,52,53] yy.r5 (.seq (.post [3,4,50,51,52] (.cond (.t 53) (.skip) (.exit 0))) (.seq (.post [3,4,50,51,52] (.block 1 (jJ [3,4,6,7,50,51,52] yy.r6 (jJ [3,4,6,7,8,50,51,52] yy.r7 (.seq (jJ [3,4,6,7,8,50,51,52,60] yy.r8 (.post [3,4,7,8,50,51,52] (.cond (.t 60) (jK [3,4,7,8,50,51,52] yy.r9) (.skip)))) (jJ [3,4,50,51,52,76] yy.r10 (.post [3,4,50,51,52] (.cond (.t 76) (jJ [2] yy.r11 (.ret)) (.skip))))))))) (jK [3,4,50,51,52] yy.r12)))
def yy.r13:jI:=[a18 2]
def yy:AFunc:=⟨78,[.t 2],jJ [1] yy.r0 (jJ [1,3,4,5] yy.r1 (.seq (jJ [1,3,4,48] yy.r2 (.post [1,3,4] (.cond (.t 48) (jJ [2] yy.r3 (.ret)) (.skip)))) (.seq (jJ [3,4,50,51,52] yy.r4 (.post [] (.block 0 (.loop yy.l0)))) (jJ [2] yy.r13 (.ret)))))⟩
theorem yy.ok:y23 Tryz.prog Tryz.f97 yy=true:=by kernel_rfl
theorem yy.at:Tryz.prog.funcs[y6h]?=some Tryz.f97:=Tryz.func97
def yi.r0:jI:=[a15 1 0,ah 2 0]
def yi.r1:jI:=[ak 3]
def yi.r2:jI:=[af 6 0 1,ae 7 1 6]
def yi.r3:jI:=[a10 9 7 1,ac 8 9]
def yi.r4:jI:=[af 10 1 1,ae 11 1 10,⟨some 12,none,.call y53 [.t 11]⟩,ac 13 12,aw 14 13 2 1,ay 15 13 1 14,⟨some 16,(some (13,true)),.call y88 [.t 15]⟩,aq 17 13 16,ac 3 17]
def yi.r5:jI:=[a10 19 7 2,ac 18 19]
def yi.r6:jI:=[a10 20 7 3,ac 18 20]
def yi.r7:jI:=[a10 21 7 4,ac 18 21]
def yi.r8:jI:=[a10 22 7 5,ac 18 22]
def yi.r9:jI:=[af 23 1 1,ae 24 1 23,⟨some 25,none,.call y53 [.t 24]⟩,ac 26 25,aw 27 26 2 1,ay 28 26 1 27,⟨some 29,(some (26,true)),.call y53 [.t 28]⟩,aq 30 26 29,ac 3 30]
def yi.r10:jI:=[a10 32 7 6,ac 31 32]
def yi.r11:jI:=[af 34 1 1,ae 35 1 34,⟨some 36,none,.call y4d [.t 35]⟩,ac 33 36,ai 37 0 33,ai 38 1 33,a1d 4 0 0 0 0,aj 6 4 37,ac 5 38]
def yi.r12:jI:=[ac 39 5,a10 40 39 0,ac 41 40,aw 42 41 0 4,ay 43 41 1 42,a1o 44 41 43 3,aq 45 41 44,ac 46 45,aw 47 46 2 1,ay 48 46 1 47,⟨some 49,(some (46,true)),.call y53 [.t 48]⟩,aq 50 46 49,ac 3 50]
def yi.r13:jI:=[ah 2 5]
def yi.r14:jI:=[ac 51 3,a19 52 51]
def yi.r15:jI:=[ah 2 11]
def yi.r16:jI:=[af 53 0 1,ae 54 1 53]
def yi.r17:jI:=[a10 70 54 6,ac 69 70]
def yi.r18:jI:=[ap 71 6 1,⟨some 72,none,.call y6h [.t 71]⟩,ac 3 72]
def yi.r19:jI:=[a10 74 54 5,ac 73 74]
def yi.r20:jI:=[af 75 5 1,ae 76 1 75,al 77 76,a10 78 77 0,ac 79 78,aw 80 79 3 1,ay 81 79 1 80,a2c 82 79 81 0,aq 83 79 82,ac 84 83,aw 85 84 3 1,ay 86 84 1 85,a1n 87 84 86 64,aq 88 84 87,ac 89 88,aw 90 89 4 1,ay 91 89 1 90,⟨some 92,(some (89,true)),.call y5w [.t 91]⟩,aq 93 89 92,ac 3 93]
def yi.r21:jI:=[af 55 5 1,ae 56 1 55,al 57 56,a10 58 57 0,ac 59 58,aw 60 59 3 1,ay 61 59 1 60,a1o 62 59 61 0,aq 63 59 62,ac 64 63,aw 65 64 4 1,ay 66 64 1 65,⟨some 67,(some (64,true)),.op (.bin .eql (.t 66) (.c (.s [])))⟩,aq 68 64 67,ac 3 68]
def yi.r22:jI:=[ac 94 3,a19 95 94]
def yi.r23:jI:=[ah 2 3]
def yi.r24:jI:=[ah 2 0]
def yi:AFunc:=⟨96,[.t 2],jJ [1] yi.r0 (jJ [1] yi.r1 (.seq (jJ [1,7] yi.r2 (.post [1,3] (.block 0 (jJ [1,7,8] yi.r3 (.post [1,3] (.cond (.t 8) (jK [1,3] yi.r4) (.seq (jJ [1,7,18] yi.r5 (.post [1,7,18] (.cond (.t 18) (.skip) (jJ [1,7,18] yi.r6 (.post [1,7,18] (.cond (.t 18) (.skip) (jJ [1,7,18] yi.r7 (.post [1,7,18] (.cond (.t 18) (.skip) (jK [1,7,18] yi.r8)))))))))) (.post [1,3] (.cond (.t 18) (jK [1,3] yi.r9) (jJ [1,31] yi.r10 (.post [1,3] (.cond (.t 31) (jJ [1,4,5] yi.r11 (jK [1,3] yi.r12)) (jJ [2] yi.r13 (.ret)))))))))))))) (.seq (jJ [1,52] yi.r14 (.post [1] (.cond (.t 52) (jJ [2] yi.r15 (.ret)) (.skip)))) (.seq (jJ [1,54] yi.r16 (.post [3] (.block 1 (jJ [1,54,69] yi.r17 (.post [3] (.cond (.t 69) (jK [3] yi.r18) (jJ [1,73] yi.r19 (.post [3] (.cond (.t 73) (jK [3] yi.r20) (jK [3] yi.r21)))))))))) (.seq (jJ [95] yi.r22 (.post [] (.cond (.t 95) (jJ [2] yi.r23 (.ret)) (.skip)))) (jJ [2] yi.r24 (.ret)))))))⟩
theorem yi.ok:y23 Tryz.prog Tryz.f54 yi=true:=by kernel_rfl
theorem yi.at:Tryz.prog.funcs[y78]?=some Tryz.f54:=Tryz.func54
def y35.r0:jI:=[ak 2]
def y35.r1:jI:=[ac 3 0,ac 4 0,a1f 5 3 4,ac 2 5]
def y35:AFunc:=⟨6,[.t 2],jJ [0] y35.r0 (jJ [2] y35.r1 (.ret))⟩
theorem y35.ok:y23 Tryz.prog Tryz.f154 y35=true:=by kernel_rfl
theorem y35.at:Tryz.prog.funcs[y6l]?=some Tryz.f154:=Tryz.func154
def y11.r0:jI:=[ah 4 0]
def y11.r1:jI:=[ac 7 0,⟨some 8,none,.call y6l [.t 7]⟩,ac 5 8]
def y11.r2:jI:=[ac 9 1,⟨some 10,none,.call y6l [.t 9]⟩,ac 6 10]
def y11.r3:jI:=[ac 11 5]
def y11.r4:jI:=[ac 12 6]
def y11.r5:jI:=[ah 4 0]
def y11.r6:jI:=[ah 4 (-1)]
def y11.r7:jI:=[ac 13 6]
def y11.r8:jI:=[ah 4 1]
def y11.r9:jI:=[ac 14 0,ac 15 1,ar 16 14 15]
def y11.r10:jI:=[ah 4 (-1)]
def y11.r11:jI:=[ac 17 0,ac 18 1,⟨some 19,none,.op (.bin .gtr (.t 17) (.t 18))⟩]
def y11.r12:jI:=[ah 4 1]
def y11.r13:jI:=[ah 4 0]
def y11:AFunc:=⟨20,[.t 4],jJ [0,1] y11.r0 (jJ [0,1,5] y11.r1 (jJ [0,1,5,6] y11.r2 (.seq (jJ [0,1,6,11] y11.r3 (.post [0,1,6] (.cond (.t 11) (.seq (jJ [12] y11.r4 (.post [] (.cond (.t 12) (jJ [4] y11.r5 (.ret)) (.skip)))) (jJ [4] y11.r6 (.ret))) (.skip)))) (.seq (jJ [0,1,13] y11.r7 (.post [0,1] (.cond (.t 13) (jJ [4] y11.r8 (.ret)) (.skip)))) (.seq (jJ [0,1,16] y11.r9 (.post [0,1] (.cond (.t 16) (jJ [4] y11.r10 (.ret)) (.skip)))) (.seq (jJ [19] y11.r11 (.post [] (.cond (.t 19) (jJ [4] y11.r12 (.ret)) (.skip)))) (jJ [4] y11.r13 (.ret))))))))⟩
theorem y11.ok:y23 Tryz.prog Tryz.f99 y11=true:=by kernel_rfl
theorem y11.at:Tryz.prog.funcs[y5x]?=some Tryz.f99:=Tryz.func99
def yb.r0:jI:=[ah 4 0]
def yb.r1:jI:=[ac 9 0,al 10 9,ah 11 0]
def yb.r2:jI:=[ar 12 11 10]
def yb.r3:jI:=[ac 13 11,am 14 1 9 11,ae 15 1 14,ac 5 13,ac 6 15]
def yb.r4:jI:=[ac 16 5,ac 17 1,al 18 17,⟨some 19,none,.op (.bin .geq (.t 16) (.t 18))⟩]
def yb.r5:jI:=[ah 4 1]
def yb.r6:jI:=[ac 20 1,ac 21 5,am 22 1 20 21,ae 23 1 22,ac 7 23]
def yb.r7:jI:=[ac 24 6,ac 25 7,⟨some 26,none,.call y34 [.t 24,.t 25]⟩,ac 8 26]
def yb.r8:jI:=[ac 27 8,a1b 28 27 0]
def yb.r9:jI:=[ac 29 8,ac 4 29]
def yb.r10:jI:=[ax 30 11 1,ac 11 30]
def yb.l0:ACode:=jJ [0,1,9,10,11,12] yb.r2 (.seq (.post [0,1,9,10,11] (.cond (.t 12) (.skip) (.exit 0))) (.seq (.post [0,1,9,10,11] (.block 1 (jJ [0,1,5,6,9,10,11] yb.r3 (.seq (jJ [0,1,5,6,9,10,11,19] yb.r4 (.post [0,1,5,6,9,10,11] (.cond (.t 19) (jJ [4] yb.r5 (.ret)) (.skip)))) (jJ [0,1,6,7,9,10,11] yb.r6 (jJ [0,1,8,9,10,11] yb.r7 (jJ [0,1,8,9,10,11,28] yb.r8 (.post [0,1,9,10,11] (.cond (.t 28) (jJ [4] yb.r9 (.ret)) (.skip)))))))))) (jK [0,1,9,10,11] yb.r10)))
def yb.r11:jI:=[ac 31 0,al 32 31,ac 33 1,al 34 33,ar 35 32 34]
def yb.r12:jI:=[ah 4 (-1)]
def yb.r13:jI:=[ah 4 0]
def yb:AFunc:=⟨36,[.t 4],jJ [0,1] yb.r0 (.seq (jJ [0,1,9,10,11] yb.r1 (.post [0,1] (.block 0 (.loop yb.l0)))) (.seq (jJ [35] yb.r11 (.post [] (.cond (.t 35) (jJ [4] yb.r12 (.ret)) (.skip)))) (jJ [4] yb.r13 (.ret))))⟩
theorem yb.ok:y23 Tryz.prog Tryz.f100 yb=true:=by kernel_rfl
theorem yb.at:Tryz.prog.funcs[y41]?=some Tryz.f100:=Tryz.func100
def y1w.r0:jI:=[ah 2 0]
def y1w.r1:jI:=[ah 3 0]
def y1w.r2:jI:=[ac 6 0,al 7 6,ah 8 0]
def y1w.r3:jI:=[ar 9 8 7]
def y1w.r4:jI:=[am 10 1 6 8,ae 11 1 10,ac 5 11]
def y1w.r5:jI:=[ac 12 5,ac 13 3,a1f 14 12 13]
def y1w.r6:jI:=[ac 15 5,ac 2 15]
def y1w.r7:jI:=[ax 16 8 1,ac 8 16]
def y1w.l0:ACode:=jJ [3,6,7,8,9] y1w.r3 (.seq (.post [3,6,7,8] (.cond (.t 9) (.skip) (.exit 0))) (.seq (.post [3,6,7,8] (.block 1 (jJ [3,5,6,7,8] y1w.r4 (jJ [3,5,6,7,8,14] y1w.r5 (.post [3,6,7,8] (.cond (.t 14) (jJ [2] y1w.r6 (.ret)) (.skip))))))) (jK [3,6,7,8] y1w.r7)))
def y1w.r8:jI:=[ac 17 3,ac 2 17]
def y1w:AFunc:=⟨18,[.t 2],jJ [0] y1w.r0 (jJ [0,3] y1w.r1 (.seq (jJ [3,6,7,8] y1w.r2 (.post [3] (.block 0 (.loop y1w.l0)))) (jJ [2] y1w.r8 (.ret))))⟩
theorem y1w.ok:y23 Tryz.prog Tryz.f98 y1w=true:=by kernel_rfl
theorem y1w.at:Tryz.prog.funcs[y9f]?=some Tryz.f98:=Tryz.func98
def y31.r0:jI:=[a15 2 0,a15 3 1,ah 4 0]
def y31.r1:jI:=[af 5 0 2,ae 6 1 5,af 7 0 3,ae 8 1 7,⟨some 9,none,.call y5x [.t 6,.t 8]⟩,af 10 1 2,ae 11 1 10,af 12 1 3,ae 13 1 12,⟨some 14,none,.call y34 [.t 11,.t 13]⟩,af 15 2 2,ae 16 1 15,af 17 2 3,ae 18 1 17,⟨some 19,none,.call y34 [.t 16,.t 18]⟩,af 20 3 2,ae 21 1 20,af 22 3 3,ae 23 1 22,⟨some 24,none,.call y5x [.t 21,.t 23]⟩,af 25 4 2,ae 26 1 25,af 27 4 3,ae 28 1 27,⟨some 29,none,.call y34 [.t 26,.t 28]⟩,af 30 5 2,ae 31 1 30,af 32 5 3,ae 33 1 32,⟨some 34,none,.call y41 [.t 31,.t 33]⟩,⟨some 35,none,.op (.bfz 6 1 [.i .i64 0] [(0,1,.t 9),(1,1,.t 14),(2,1,.t 19),(3,1,.t 24),(4,1,.t 29),(5,1,.t 34)])⟩,⟨some 36,none,.call y9f [.t 35]⟩,ac 4 36]
def y31:AFunc:=⟨37,[.t 4],jJ [2,3] y31.r0 (.seq (.post [4] (.draw [0,1,0,4,15,0,32,0,128,511,0,1024,0,4096,16383,0,32768,0,131072,524287,0,1048576,0,4194304,16777215,0,33554432,0,134217728,536870911,1073741823,2147483647,4294967295] y31.r1)) (.ret))⟩
theorem y31.ok:y23 Tryz.prog Tryz.f55 y31=true:=by kernel_rfl
theorem y31.at:Tryz.prog.funcs[y5b]?=some Tryz.f55:=Tryz.func55
def y1f.r0:jI:=[a15 1 0,ah 2 0]
def y1f.r1:jI:=[af 5 0 1,ae 6 1 5,al 7 6,a1e 8 7 600,ac 9 8,a13 10 9 1 1,a14 11 9 1 10,a1t 12 9 11,a1m 13 9 12 600,a11 14 9 13,ac 15 14,a13 16 15 2 1,a14 17 15 1 16,a1t 18 15 17,a1m 19 15 18 6000,a11 20 15 19]
def y1f.r2:jI:=[ah 2 4]
def y1f.r3:jI:=[af 21 0 1,ae 22 1 21,⟨some 23,none,.call y5q [.t 22,.c (.fn 48 []),.c (.fn 49 [])]⟩,ac 3 23]
def y1f.r4:jI:=[ac 24 3,a1b 25 24 0]
def y1f.r5:jI:=[ac 26 3,ac 2 26]
def y1f.r6:jI:=[af 27 1 1,ae 28 1 27,⟨some 29,none,.call y60 [.t 28,.c (.fn 51 []),.c (.fn 52 [])]⟩,ac 4 29]
def y1f.r7:jI:=[ac 30 4,a1b 31 30 0]
def y1f.r8:jI:=[ac 32 4,ac 2 32]
def y1f.r9:jI:=[af 33 2 1,ae 34 1 33,⟨some 35,none,.call y5r [.t 34,.c (.fn 54 []),.c (.fn 55 [])]⟩,ac 2 35]
def y1f:AFunc:=⟨36,[.t 2],jJ [1] y1f.r0 (.seq (jJ [1,20] y1f.r1 (.post [1] (.cond (.t 20) (jJ [2] y1f.r2 (.ret)) (.skip)))) (.seq (jJ [1,3] y1f.r3 (jJ [1,3,25] y1f.r4 (.post [1] (.cond (.t 25) (jJ [2] y1f.r5 (.ret)) (.skip))))) (.seq (jJ [1,4] y1f.r6 (jJ [1,4,31] y1f.r7 (.post [1] (.cond (.t 31) (jJ [2] y1f.r8 (.ret)) (.skip))))) (jJ [2] y1f.r9 (.ret)))))⟩
theorem y1f.ok:y23 Tryz.prog Tryz.f27 y1f=true:=by kernel_rfl
theorem y1f.at:Tryz.prog.funcs[y89]?=some Tryz.f27:=Tryz.func27
def y1e.r0:jI:=[⟨some 4,none,.op (.mov (.c (.p none)))⟩]
def y1e.r1:jI:=[ac 8 0,az 9 8,af 10 8 9,ae 11 1 10,ac 12 1,⟨some 13,none,.op (.lkm true (.p none) (.t 11) (.t 12))⟩,ac 7 13,ai 14 0 7,ai 15 1 7,ac 5 14,ac 6 15]
def y1e.r2:jI:=[ac 16 6,a19 17 16]
def y1e.r3:jI:=[⟨some 18,none,.op (.build [.sl none 0 0] [])⟩,a1i 19 18,ac 5 19]
def y1e.r4:jI:=[ac 20 0,az 21 20,af 22 8 21,ae 23 1 22,ac 24 1,ac 25 5,a2x 23 24 25]
def y1e.r5:jI:=[ac 26 5,ac 4 26]
def y1e:AFunc:=⟨27,[.t 4],jJ [0,1] y1e.r0 (jJ [0,1,5,6] y1e.r1 (.seq (jJ [0,1,5,17] y1e.r2 (.post [5] (.cond (.t 17) (jJ [0,1,5] y1e.r3 (jK [5] y1e.r4)) (.skip)))) (jJ [4] y1e.r5 (.ret))))⟩
theorem y1e.ok:y23 Tryz.prog Tryz.f101 y1e=true:=by kernel_rfl
theorem y1e.at:Tryz.prog.funcs[y3x]?=some Tryz.f101:=Tryz.func101
def y1y.r0:jI:=[ah 5 0]
def y1y.r1:jI:=[ae 6 1 2,az 7 6,af 8 0 7,ae 9 1 8,ac 10 0,am 11 1 9 10,ae 12 1 11,ac 13 1,⟨some 14,none,.call y34 [.t 12,.t 13]⟩,ac 5 14]
def y1y:AFunc:=⟨15,[.t 5],jJ [0,1,2] y1y.r0 (jJ [5] y1y.r1 (.ret))⟩
theorem y1y.ok:y23 Tryz.prog Tryz.f250 y1y=true:=by kernel_rfl
theorem y1y.at:Tryz.prog.funcs[y44]?=some Tryz.f250:=Tryz.func250
def ya.r0:jI:=[ah 6 0,ak 7]
def ya.r1:jI:=[ac 12 0,al 13 12,ac 8 13]
def ya.r2:jI:=[ac 14 8,ah 9 0,ac 10 14]
def ya.r3:jI:=[ac 15 9,ac 16 10,ar 17 15 16]
def ya.r4:jI:=[ac 18 9,ac 19 10,a1a 20 18 19,⟨some 21,none,.op (.conv .u64 (.t 20))⟩,a1k 22 21 1,a2y 23 22,ac 11 23]
def ya.r5:jI:=[ac 24 2,ac 25 0,ac 26 11,am 27 1 25 26,ae 28 1 27,ac 29 1,a1u 30 24 28 29,a1v 31 30 0]
def ya.r6:jI:=[ac 32 11,ax 33 32 1,ac 9 33]
def ya.r7:jI:=[ac 34 11,ac 10 34]
def ya.l0:ACode:=.seq (jJ [0,1,2,8,9,10,17] ya.r3 (.post [0,1,2,8,9,10] (.cond (.t 17) (.skip) (.exit 0)))) (.post [0,1,2,8,9,10] (.block 1 (jJ [0,1,2,8,9,10,11] ya.r4 (jJ [0,1,2,8,9,10,11,31] ya.r5 (.post [0,1,2,8,9,10] (.cond (.t 31) (jK [0,1,2,8,9,10] ya.r6) (jK [0,1,2,8,9,10] ya.r7)))))))
def ya.r8:jI:=[ac 35 9,ac 36 9,ac 37 8,ar 38 36 37,ac 39 38,an 40 39 2,an 41 39 0,an 42 39 9,a1l 43 39 1 41 42,ay 44 39 1 43,an 45 39 1,a1z 46 39 40 44 45,a1o 47 39 46 0,aq 48 39 47,ac 6 35,ac 7 48]
def ya:AFunc:=⟨49,[.t 6,.t 7],jJ [0,1,2] ya.r0 (jJ [0,1,2,8] ya.r1 (jJ [0,1,2,8,9,10] ya.r2 (.seq (.post [0,1,2,8,9] (.block 0 (.loop ya.l0))) (jJ [6,7] ya.r8 (.ret)))))⟩
theorem ya.ok:y23 Tryz.prog Tryz.f249 ya=true:=by kernel_rfl
theorem ya.at:Tryz.prog.funcs[y30]?=some Tryz.f249:=Tryz.func249
def y20.r0:jI:=[a1i 2 0,ah 4 0,ak 5]
def y20.r1:jI:=[ae 6 1 2,az 7 6,af 8 1 7,ae 9 1 8,ac 10 1,⟨some 11,none,.op (.mkfn y44 [.t 2])⟩,⟨some 12,none,.call y30 [.t 9,.t 10,.t 11]⟩,ai 13 0 12,ai 14 1 12,ac 4 13,ac 5 14]
def y20:AFunc:=⟨15,[.t 4,.t 5],jJ [1,2] y20.r0 (jJ [4,5] y20.r1 (.ret))⟩
theorem y20.ok:y23 Tryz.prog Tryz.f219 y20=true:=by kernel_rfl
theorem y20.at:Tryz.prog.funcs[y4h]?=some Tryz.f219:=Tryz.func219
def yv.r0:jI:=[ah 4 0,ak 5]
def yv.r1:jI:=[ac 10 0,ac 11 1,⟨some 12,none,.call y4h [.t 10,.t 11]⟩,ac 9 12,ai 13 0 9,ai 14 1 9,ac 6 13,ac 7 14]
def yv.r2:jI:=[ac 15 7]
def yv.r3:jI:=[ac 16 0,az 17 16,af 18 1 17,ae 19 1 18,ac 20 6,am 21 1 19 20,ae 22 1 21,ac 4 22,ak 5]
def yv.r4:jI:=[ac 23 0,az 24 23,af 25 0 24,ae 26 1 25,al 27 26,ac 8 27]
def yv.r5:jI:=[ac 28 0,ac 29 0,az 30 29,af 31 0 30,ae 32 1 31,ac 33 1,⟨some 34,none,.op (.bfz 1 1 [.s []] [(0,1,.t 33)])⟩,a1g 35 1 16 32 34,az 36 28,af 37 0 36,aj 1 37 35]
def yv.r6:jI:=[ac 38 0,ac 39 0,az 40 39,af 41 1 40,ae 42 1 41,ac 43 6,ac 44 8,⟨some 45,none,.op (.bslT 3 1 [.i .i64 0] [(0,1,.t 44)])⟩,⟨some 46,none,.call y8t [.t 42,.t 43,.t 45]⟩,az 47 38,af 48 1 47,aj 1 48 46]
def yv.r7:jI:=[ac 49 8,ac 4 49,a18 5]
def yv:AFunc:=⟨50,[.t 4,.t 5],jJ [0,1] yv.r0 (jJ [0,1,6,7] yv.r1 (.seq (jJ [0,1,6,15] yv.r2 (.post [0,1,6] (.cond (.t 15) (jJ [4,5] yv.r3 (.ret)) (.skip)))) (jJ [0,1,6,8] yv.r4 (jJ [0,6,8] yv.r5 (jJ [8] yv.r6 (jJ [4,5] yv.r7 (.ret)))))))⟩
theorem yv.ok:y23 Tryz.prog Tryz.f157 yv=true:=by kernel_rfl
theorem yv.at:Tryz.prog.funcs[y4t]?=some Tryz.f157:=Tryz.func157
def y1v.r0:jI:=[a16 2,ah 3 0,ak 4]
def y1v.r1:jI:=[ac 9 0,⟨some 10,none,.call y4d [.t 9]⟩,ac 8 10,ai 11 0 8,ai 12 1 8,a1d 5 0 0 0 0,aj 6 5 11,ac 6 12]
def y1v.r2:jI:=[ac 13 6,a1b 14 13 0,ac 15 14,a13 16 15 5 5,a14 17 15 1 16,⟨some 18,(some (15,false)),.op (.bin .eql (.t 17) (.c (.i .i64 (-1))))⟩,a11 19 15 18]
def y1v.r3:jI:=[a16 2,ah 3 0,ak 4]
def y1v.r4:jI:=[af 20 5 5,ae 21 1 20,ac 7 21]
def y1v.r5:jI:=[af 22 5 5,a23 1 22 (-1)]
def y1v.r6:jI:=[ap 23 6 5,⟨some 24,none,.call y6j [.t 23]⟩,ac 25 7,ac 2 24,ac 3 25,a18 4]
def y1v:AFunc:=⟨26,[.t 2,.t 3,.t 4],jJ [0] y1v.r0 (jJ [5,6] y1v.r1 (.seq (jJ [5,19] y1v.r2 (.post [5] (.cond (.t 19) (jJ [2,3,4] y1v.r3 (.ret)) (.skip)))) (jJ [5,7] y1v.r4 (jJ [5,7] y1v.r5 (jJ [2,3,4] y1v.r6 (.ret))))))⟩
theorem y1v.ok:y23 Tryz.prog Tryz.f158 y1v=true:=by kernel_rfl
theorem y1v.at:Tryz.prog.funcs[y8a]?=some Tryz.f158:=Tryz.func158
def ym.r0:jI:=[ah 4 0]
def ym.r1:jI:=[ac 14 0,az 15 14,af 16 3 15,ac 17 1,⟨some 18,none,.call y4t [.t 16,.t 17]⟩,ac 13 18,ai 19 0 13,ai 20 1 13,ac 5 19,ac 6 20]
def ym.r2:jI:=[ac 21 6,a19 22 21]
def ym.r3:jI:=[ac 23 5,ac 4 23]
def ym.r4:jI:=[⟨some 24,none,.op (.build [.i .i64 0,.i .i64 0] [(0,1,.c (.i .i64 (-1)))])⟩,a2z 7 0 0,aj 2 7 24]
def ym.r5:jI:=[ac 26 1,⟨some 27,none,.call y8a [.t 26]⟩,ac 25 27,ai 28 0 25,ai 29 1 25,ai 30 2 25,ac 8 28,ac 9 29,ac 10 30]
def ym.r6:jI:=[ac 31 10]
def ym.r7:jI:=[ac 33 0,az 34 33,af 35 7 34,ae 36 1 35,ac 37 8,⟨some 38,none,.op (.lkm true (.i .i64 0) (.t 36) (.t 37))⟩,ac 32 38,ai 39 0 32,ai 40 1 32,ac 11 39,ac 12 40]
def ym.r8:jI:=[ac 41 12]
def ym.r9:jI:=[ac 42 11,ac 43 9,⟨some 44,none,.op (.build [.i .i64 0,.i .i64 0] [(0,1,.t 42),(1,1,.t 43)])⟩,aj 2 7 44]
def ym.r10:jI:=[ac 45 0,ac 46 0,az 47 46,af 48 5 47,ae 49 1 48,ap 50 2 7,⟨some 51,none,.op (.bfz 1 2 [.i .i64 0,.i .i64 0] [(0,2,.t 50)])⟩,a1g 52 2 16 49 51,az 53 45,af 54 5 53,aj 1 54 52]
def ym.r11:jI:=[ac 55 5,ac 4 55]
def ym:AFunc:=⟨56,[.t 4],jJ [0,1] ym.r0 (jJ [0,1,5,6] ym.r1 (.seq (jJ [0,1,5,22] ym.r2 (.post [0,1,5] (.cond (.t 22) (jJ [4] ym.r3 (.ret)) (.skip)))) (jJ [0,1,5,7] ym.r4 (.seq (jJ [0,5,7,8,9,10] ym.r5 (jJ [0,5,7,8,9,31] ym.r6 (.post [0,5,7] (.cond (.t 31) (jJ [0,5,7,9,11,12] ym.r7 (jJ [0,5,7,9,11,41] ym.r8 (.post [0,5,7] (.cond (.t 41) (jK [0,5,7] ym.r9) (.skip))))) (.skip))))) (.seq (.post [5] (.draw [0,0,2,6,14,0,32,126,255,511,1023] ym.r10)) (jJ [4] ym.r11 (.ret)))))))⟩
theorem ym.ok:y23 Tryz.prog Tryz.f103 ym=true:=by kernel_rfl
theorem ym.at:Tryz.prog.funcs[y55]?=some Tryz.f103:=Tryz.func103
def y8.r0:jI:=[ah 6 0,ak 7]
def y8.r1:jI:=[ac 12 0,al 13 12,ac 8 13]
def y8.r2:jI:=[ac 14 8,ah 9 0,ac 10 14]
def y8.r3:jI:=[ac 15 9,ac 16 10,ar 17 15 16]
def y8.r4:jI:=[ac 18 9,ac 19 10,a1a 20 18 19,⟨some 21,none,.op (.conv .u64 (.t 20))⟩,a1k 22 21 1,a2y 23 22,ac 11 23]
def y8.r5:jI:=[ac 24 2,ac 25 0,ac 26 11,am 27 2 25 26,ap 28 2 27,ac 29 1,a1u 30 24 28 29,a1v 31 30 0]
def y8.r6:jI:=[ac 32 11,ax 33 32 1,ac 9 33]
def y8.r7:jI:=[ac 34 11,ac 10 34]
def y8.l0:ACode:=.seq (jJ [0,1,2,8,9,10,17] y8.r3 (.post [0,1,2,8,9,10] (.cond (.t 17) (.skip) (.exit 0)))) (.post [0,1,2,8,9,10] (.block 1 (jJ [0,1,2,8,9,10,11] y8.r4 (jJ [0,1,2,8,9,10,11,31] y8.r5 (.post [0,1,2,8,9,10] (.cond (.t 31) (jK [0,1,2,8,9,10] y8.r6) (jK [0,1,2,8,9,10] y8.r7)))))))
def y8.r8:jI:=[ac 35 9,ac 36 9,ac 37 8,ar 38 36 37,ac 39 38,an 40 39 2,an 41 39 0,an 42 39 9,a1l 43 39 2 41 42,a1c 44 39 2 43,an 45 39 1,a1z 46 39 40 44 45,a1o 47 39 46 0,aq 48 39 47,ac 6 35,ac 7 48]
def y8:AFunc:=⟨49,[.t 6,.t 7],jJ [0,1,2] y8.r0 (jJ [0,1,2,8] y8.r1 (jJ [0,1,2,8,9,10] y8.r2 (.seq (.post [0,1,2,8,9] (.block 0 (.loop y8.l0))) (jJ [6,7] y8.r8 (.ret)))))⟩
theorem y8.ok:y23 Tryz.prog Tryz.f215 y8=true:=by kernel_rfl
theorem y8.at:Tryz.prog.funcs[y2w]?=some Tryz.f215:=Tryz.func215
def y2s.r0:jI:=[a15 2 0,ah 4 0]
def y2s.r1:jI:=[af 5 0 2,ae 6 1 5,ac 7 1,a2r 8 6 7,ac 4 8]
def y2s:AFunc:=⟨9,[.t 4],jJ [1,2] y2s.r0 (jJ [4] y2s.r1 (.ret))⟩
theorem y2s.ok:y23 Tryz.prog Tryz.f216 y2s=true:=by kernel_rfl
theorem y2s.at:Tryz.prog.funcs[y4z]?=some Tryz.f216:=Tryz.func216
def y36.r0:jI:=[ah 4 0,ak 5]
def y36.r1:jI:=[ac 6 0,az 7 6,af 8 0 7,ae 9 1 8,ac 10 1,⟨some 11,none,.call y2w [.t 9,.t 10,.c (.fn 216 [])]⟩,ai 12 0 11,ai 13 1 11,ac 4 12,ac 5 13]
def y36:AFunc:=⟨14,[.t 4,.t 5],jJ [0,1] y36.r0 (jJ [4,5] y36.r1 (.ret))⟩
theorem y36.ok:y23 Tryz.prog Tryz.f155 y36=true:=by kernel_rfl
theorem y36.at:Tryz.prog.funcs[y7w]?=some Tryz.f155:=Tryz.func155
def y1b.r0:jI:=[ak 4]
def y1b.r1:jI:=[ac 9 0,a30 10 9,ac 11 10,a12 12 11 1,a26 13 11 12 0,a11 14 11 13,ac 15 14,a12 16 15 1,a1m 17 15 16 268435456,a11 18 15 17]
def y1b.r2:jI:=[ak 4]
def y1b.r3:jI:=[ac 19 1,⟨some 20,none,.op (.bin .rem (.t 19) (.c (.i .i64 64)))⟩,⟨some 21,none,.op (.bin .shl (.c (.i .u64 1)) (.t 20))⟩,ac 5 21]
def y1b.r4:jI:=[ac 23 0,ac 24 1,⟨some 25,none,.op (.bin .quo (.t 24) (.c (.i .i64 64)))⟩,⟨some 26,none,.call y7w [.t 23,.t 25]⟩,ac 22 26,ai 27 0 22,ai 28 1 22,ac 6 27,ac 7 28]
def y1b.r5:jI:=[ac 29 7,a19 30 29]
def y1b.r6:jI:=[ac 31 0,ac 32 0,az 33 32,af 34 0 33,ae 35 1 34,ac 36 6,ac 37 1,⟨some 38,none,.op (.bin .quo (.t 37) (.c (.i .i64 64)))⟩,ac 39 5,⟨some 40,none,.op (.build [.i .i64 0,.i .u64 0] [(0,1,.t 38),(1,1,.t 39)])⟩,⟨some 41,none,.op (.bslT 149 1 [.i .i64 0,.i .u64 0] [(0,2,.t 40)])⟩,⟨some 42,none,.call y3k [.t 35,.t 36,.t 41]⟩,az 43 31,af 44 0 43,aj 1 44 42]
def y1b.r7:jI:=[a18 4]
def y1b.r8:jI:=[ac 45 0,az 46 45,af 47 0 46,ae 48 1 47,ac 49 6,am 50 2 48 49,af 51 1 50,ae 52 1 51,ac 8 52]
def y1b.r9:jI:=[ac 53 0,az 54 53,af 55 0 54,ae 56 1 55,ac 57 6,am 58 2 56 57,af 59 1 58,ae 60 1 59,ac 61 5,⟨some 62,none,.op (.bin .or (.t 60) (.t 61))⟩,am 63 2 56 57,af 64 1 63,aj 1 64 62]
def y1b.r10:jI:=[ac 65 8,ac 66 5,⟨some 67,none,.op (.bin .and (.t 65) (.t 66))⟩,⟨some 68,none,.op (.bin .eql (.t 67) (.c (.i .u64 0)))⟩,ac 4 68]
def y1b:AFunc:=⟨69,[.t 4],jJ [0,1] y1b.r0 (.seq (jJ [0,1,18] y1b.r1 (.post [0,1] (.cond (.t 18) (jJ [4] y1b.r2 (.ret)) (.skip)))) (jJ [0,1,5] y1b.r3 (jJ [0,1,5,6,7] y1b.r4 (.seq (jJ [0,1,5,6,30] y1b.r5 (.post [0,5,6] (.cond (.t 30) (jJ [] y1b.r6 (jJ [4] y1b.r7 (.ret))) (.skip)))) (jJ [0,5,6,8] y1b.r8 (jJ [5,8] y1b.r9 (jJ [4] y1b.r10 (.ret))))))))⟩
theorem y1b.ok:y23 Tryz.prog Tryz.f102 y1b=true:=by kernel_rfl
theorem y1b.at:Tryz.prog.funcs[y8e]?=some Tryz.f102:=Tryz.func102
def y32.r0:jI:=[ac 6 0,ac 7 0,ac 8 1,⟨some 9,none,.call y3x [.t 7,.t 8]⟩,ac 10 0,ac 11 2,⟨some 12,none,.call y55 [.t 10,.t 11]⟩,⟨some 13,none,.call y8e [.t 9,.t 12]⟩,ac 14 13,a12 15 14 0,a32 16 14 15,a13 17 14 9 16,a14 18 14 1 17,a11 19 14 18,az 20 6,af 21 9 20,aj 1 21 19]
def y32:AFunc:=⟨22,[],jK [] y32.r0⟩
theorem y32.ok:y23 Tryz.prog Tryz.f56 y32=true:=by kernel_rfl
theorem y32.at:Tryz.prog.funcs[y47]?=some Tryz.f56:=Tryz.func56
def y2d.r0:jI:=[a17 2 0 0]
def y2d.r1:jI:=[ac 3 0,a30 4 3]
def y2d.r2:jI:=[a17 2 0 0]
def y2d.r3:jI:=[ac 5 0,az 6 5,af 7 0 6,ae 8 1 7,ac 2 8]
def y2d:AFunc:=⟨9,[.t 2],jJ [0] y2d.r0 (.seq (jJ [0,4] y2d.r1 (.post [0] (.cond (.t 4) (jJ [2] y2d.r2 (.ret)) (.skip)))) (jJ [2] y2d.r3 (.ret)))⟩
theorem y2d.ok:y23 Tryz.prog Tryz.f110 y2d=true:=by kernel_rfl
theorem y2d.at:Tryz.prog.funcs[y4y]?=some Tryz.f110:=Tryz.func110
def y14.r0:jI:=[ah 2 0]
def y14.r1:jI:=[ac 3 0,a1k 4 3 1,a28 5 4 6148914691236517205,ac 6 0,a28 7 6 6148914691236517205,a1a 8 5 7,ac 0 8]
def y14.r2:jI:=[ac 9 0,a1k 10 9 2,a28 11 10 3689348814741910323,ac 12 0,a28 13 12 3689348814741910323,a1a 14 11 13,ac 0 14]
def y14.r3:jI:=[ac 15 0,a1k 16 15 4,ac 17 0,a1a 18 16 17,a28 19 18 1085102592571150095,ac 0 19]
def y14.r4:jI:=[ac 20 0,ac 21 0,a1k 22 21 8,a1a 23 20 22,ac 0 23]
def y14.r5:jI:=[ac 24 0,ac 25 0,a1k 26 25 16,a1a 27 24 26,ac 0 27]
def y14.r6:jI:=[ac 28 0,ac 29 0,a1k 30 29 32,a1a 31 28 30,ac 0 31]
def y14.r7:jI:=[ac 32 0,a2y 33 32,⟨some 34,none,.op (.bin .and (.t 33) (.c (.i .i64 127)))⟩,ac 2 34]
def y14:AFunc:=⟨35,[.t 2],jJ [0] y14.r0 (jJ [0] y14.r1 (jJ [0] y14.r2 (jJ [0] y14.r3 (jJ [0] y14.r4 (jJ [0] y14.r5 (jJ [0] y14.r6 (jJ [2] y14.r7 (.ret))))))))⟩
theorem y14.ok:y23 Tryz.prog Tryz.f111 y14=true:=by kernel_rfl
theorem y14.at:Tryz.prog.funcs[y54]?=some Tryz.f111:=Tryz.func111
def y1o.r0:jI:=[ah 2 0]
def y1o.r1:jI:=[ah 3 0]
def y1o.r2:jI:=[ac 6 0,⟨some 7,none,.call y4y [.t 6]⟩,al 8 7,ah 9 0]
def y1o.r3:jI:=[ar 10 9 8]
def y1o.r4:jI:=[am 11 2 7 9,ap 12 2 11,a1w 5 0 0,aj 2 5 12]
def y1o.r5:jI:=[ac 13 3,af 14 1 5,ae 15 1 14,⟨some 16,none,.call y54 [.t 15]⟩,a1a 17 13 16,ac 3 17]
def y1o.r6:jI:=[ax 18 9 1,ac 9 18]
def y1o.l0:ACode:=jJ [3,7,8,9,10] y1o.r3 (.seq (.post [3,7,8,9] (.cond (.t 10) (.skip) (.exit 0))) (.seq (.post [3,7,8,9] (.block 1 (jJ [3,5,7,8,9] y1o.r4 (jK [3,7,8,9] y1o.r5)))) (jK [3,7,8,9] y1o.r6)))
def y1o.r7:jI:=[ac 19 3,ac 2 19]
def y1o:AFunc:=⟨20,[.t 2],jJ [0] y1o.r0 (jJ [0,3] y1o.r1 (.seq (jJ [3,7,8,9] y1o.r2 (.post [3] (.block 0 (.loop y1o.l0)))) (jJ [2] y1o.r7 (.ret))))⟩
theorem y1o.ok:y23 Tryz.prog Tryz.f63 y1o=true:=by kernel_rfl
theorem y1o.at:Tryz.prog.funcs[y65]?=some Tryz.f63:=Tryz.func63
def y10.r0:jI:=[ae 8 1 1,ae 9 1 2,ac 4 8,ac 5 9]
def y10.r1:jI:=[ac 10 4,al 11 10,ac 12 5,al 13 12,a1a 14 11 13,a1e 15 14 0]
def y10.r2:jI:=[a1w 6 0 0,a1w 7 0 0]
def y10.r3:jI:=[ac 27 5,al 28 27,a10 29 28 0,ac 30 29,a12 31 30 4,a1t 32 30 31,a1m 33 30 32 0,a12 34 30 33,an 35 34 4,⟨some 36,(some (34,true)),.op (.iad 2 (.t 35) (.c (.i .i64 0)))⟩,aw 37 34 0 36,ay 38 34 1 37,an 39 34 5,⟨some 40,(some (34,true)),.op (.iad 2 (.t 39) (.c (.i .i64 0)))⟩,aw 41 34 0 40,ay 42 34 1 41,a29 43 34 38 42,a1s 44 30 34 43,a11 45 30 44,ac 26 45]
def y10.r4:jI:=[ac 46 4,a1x 47 2 46 0,ap 48 2 47,ac 49 4,a1x 50 2 49 0,af 51 0 50,ae 52 1 51,⟨some 53,none,.op (.build [.i .i64 0,.i .u64 0] [(0,1,.t 52)])⟩,aj 2 6 48,aj 2 7 53]
def y10.r5:jI:=[ac 54 4,a2k 55 2 54 1,ac 4 55]
def y10.r6:jI:=[ac 57 4,al 58 57,a10 59 58 0,ac 60 59,a12 61 60 5,⟨some 62,(some (60,false)),.op (.iad 2 (.t 61) (.c (.i .i64 0)))⟩,a13 63 60 0 62,a14 64 60 1 63,a12 65 60 4,⟨some 66,(some (60,false)),.op (.iad 2 (.t 65) (.c (.i .i64 0)))⟩,a13 67 60 0 66,a14 68 60 1 67,⟨some 69,(some (60,false)),.op (.bin .lss (.t 64) (.t 68))⟩,a11 70 60 69,ac 56 70]
def y10.r7:jI:=[ac 71 5,a1x 72 2 71 0,af 73 0 72,ae 74 1 73,⟨some 75,none,.op (.build [.i .i64 0,.i .u64 0] [(0,1,.t 74)])⟩,ac 76 5,a1x 77 2 76 0,ap 78 2 77,aj 2 6 75,aj 2 7 78]
def y10.r8:jI:=[ac 79 5,a2k 80 2 79 1,ac 5 80]
def y10.r9:jI:=[ac 16 4,a1x 17 2 16 0,ap 18 2 17,ac 19 5,a1x 20 2 19 0,ap 21 2 20,aj 2 6 18,aj 2 7 21]
def y10.r10:jI:=[ac 22 4,a2k 23 2 22 1,ac 24 5,a2k 25 2 24 1,ac 4 23,ac 5 25]
def y10.r11:jI:=[ac 81 0,ap 82 2 6,ap 83 2 7,a1u 84 81 82 83,a19 85 84]
def y10.l0:ACode:=.seq (jJ [0,4,5,15] y10.r1 (.post [0,4,5] (.cond (.t 15) (.skip) (.exit 0)))) (.post [0,4,5] (.block 1 (jJ [0,4,5,6,7] y10.r2 (.seq (.post [0,4,5,6,7] (.block 2 (.seq (.post [0,4,5,6,7,26] (.draw [0,1,3,7,15,31,63,127,255,511,1023,2047,255,4351,12543,28927,65535,131071,262143,524287] y10.r3)) (.post [0,4,5,6,7] (.cond (.t 26) (.seq (.post [0,4,5,6,7] (.draw [0,1,3,0,8,24,56,120,7,511] y10.r4)) (jK [0,4,5,6,7] y10.r5)) (.seq (.post [0,4,5,6,7,56] (.draw [0,1,3,7,15,31,63,127,15,271,783,1807,4095,8191,16383] y10.r6)) (.post [0,4,5,6,7] (.cond (.t 56) (.seq (.post [0,4,5,6,7] (.draw [0,1,3,7,15,0,32,96,31,511] y10.r7)) (jK [0,4,5,6,7] y10.r8)) (.seq (.post [0,4,5,6,7] (.draw [0,1,3,0,8,24,7,127] y10.r9)) (.post [0,4,5,6,7] (.draw [0,1,0,4,3,31] y10.r10))))))))))) (jJ [0,4,5,85] y10.r11 (.post [0,4,5] (.cond (.t 85) (.ret) (.skip))))))))
def y10:AFunc:=⟨86,[],.seq (.post [0,4,5] (.draw [0,0,1,7] y10.r0)) (.post [] (.block 0 (.loop y10.l0)))⟩
theorem y10.ok:y23 Tryz.prog Tryz.f253 y10=true:=by kernel_rfl
theorem y10.at:Tryz.prog.funcs[y6m]?=some Tryz.f253:=Tryz.func253
def y3h.r0:jI:=[a1i 2 0,a1i 3 1,⟨some 4,none,.op (.mov (.c (.nf)))⟩]
def y3h.r1:jI:=[⟨some 5,none,.op (.mkfn y6m [.t 2,.t 3])⟩,ac 4 5]
def y3h:AFunc:=⟨6,[.t 4],jJ [2,3] y3h.r0 (jJ [4] y3h.r1 (.ret))⟩
theorem y3h.ok:y23 Tryz.prog Tryz.f221 y3h=true:=by kernel_rfl
theorem y3h.at:Tryz.prog.funcs[y8w]?=some Tryz.f221:=Tryz.func221
def y1x.r0:jI:=[a15 5 2,⟨some 6,none,.op (.mov (.c (.p none)))⟩]
def y1x.r1:jI:=[⟨some 11,none,.op (.build [.sl none 0 0] [])⟩,a1i 12 11,⟨some 7,none,.op (.new [.p none])⟩,aj 1 7 12]
def y1x.r2:jI:=[ac 13 0,⟨some 14,none,.call y4y [.t 13]⟩,ac 15 1,⟨some 16,none,.call y4y [.t 15]⟩,⟨some 17,none,.call y8w [.t 14,.t 16]⟩]
def y1x.r3:jI:=[a1w 8 0 0,aj 2 8 18]
def y1x.r4:jI:=[a1w 9 0 0,aj 2 9 19]
def y1x.r5:jI:=[ae 20 1 5,af 21 1 8,ae 22 1 21,af 23 1 9,ae 24 1 23,a1u 25 20 22 24,ac 10 25]
def y1x.r6:jI:=[ac 26 10,⟨some 27,none,.op (.bin .neq (.t 26) (.c (.i .u64 0)))⟩]
def y1x.r7:jI:=[ae 28 1 7,ae 29 1 7,az 30 29,af 31 0 30,ae 32 1 31,af 33 0 8,ae 34 1 33,ac 35 10,⟨some 36,none,.op (.build [.i .i64 0,.i .u64 0] [(0,1,.t 34),(1,1,.t 35)])⟩,⟨some 37,none,.op (.bfz 1 2 [.i .i64 0,.i .u64 0] [(0,2,.t 36)])⟩,a1g 38 2 16 32 37,az 39 28,af 40 0 39,aj 1 40 38]
def y1x.a0:ACode:=jJ [5,7,8,19] y1x.r3 (jK [5,7,8,9] y1x.r4)
def y1x.b0:ACode:=.post [] (.block 1 (jJ [7,8,10] y1x.r5 (jJ [7,8,10,27] y1x.r6 (.post [] (.cond (.t 27) (.post [] (.draw [0,0,2,6,14,0,32,0,224,480,1022,2047,4095,8191] y1x.r7)) (.skip))))))
def y1x.r8:jI:=[ae 41 1 7,ac 6 41]
def y1x:AFunc:=⟨42,[.t 6],jJ [0,1,5,6] y1x.r0 (jJ [0,1,5,6,7] y1x.r1 (.seq (jJ [5,6,7,17] y1x.r2 (.post [7] (.block 0 (.post [7] (.rangeFunc (.t 17) [18,19] y1x.a0 y1x.b0))))) (jJ [6] y1x.r8 (.ret))))⟩
theorem y1x.ok:y23 Tryz.prog Tryz.f159 y1x=true:=by kernel_rfl
theorem y1x.at:Tryz.prog.funcs[yai]?=some Tryz.f159:=Tryz.func159
def y2t.r0:jI:=[⟨some 4,none,.op (.mov (.c (.i .u64 0)))⟩]
def y2t.r1:jI:=[ac 5 0,ac 6 1,⟨some 7,none,.op (.bin .or (.t 5) (.t 6))⟩,ac 4 7]
def y2t:AFunc:=⟨8,[.t 4],jJ [0,1] y2t.r0 (jJ [4] y2t.r1 (.ret))⟩
theorem y2t.ok:y23 Tryz.prog Tryz.f160 y2t=true:=by kernel_rfl
theorem y2t.at:Tryz.prog.funcs[y6z]?=some Tryz.f160:=Tryz.func160
def y22.r0:jI:=[ah 4 0]
def y22.r1:jI:=[ac 6 0,a30 7 6]
def y22.r2:jI:=[ah 4 0]
def y22.r3:jI:=[ac 8 0,⟨some 9,none,.call y65 [.t 8]⟩,ac 5 9]
def y22.r4:jI:=[ac 10 0,ac 11 0,ac 12 1,⟨some 13,none,.call yai [.t 11,.t 12,.c (.fn 160 [])]⟩,az 14 13,af 15 0 14,ae 16 1 15,az 17 10,af 18 0 17,aj 1 18 16]
def y22.r5:jI:=[ac 19 0,⟨some 20,none,.call y65 [.t 19]⟩,ac 21 5,a2r 22 20 21,ac 4 22]
def y22:AFunc:=⟨23,[.t 4],jJ [0,1] y22.r0 (.seq (jJ [0,1,7] y22.r1 (.post [0,1] (.cond (.t 7) (jJ [4] y22.r2 (.ret)) (.skip)))) (jJ [0,1,5] y22.r3 (jJ [0,5] y22.r4 (jJ [4] y22.r5 (.ret)))))⟩
theorem y22.ok:y23 Tryz.prog Tryz.f104 y22=true:=by kernel_rfl
theorem y22.at:Tryz.prog.funcs[y7x]?=some Tryz.f104:=Tryz.func104
def y2y.r0:jI:=[ac 6 0,ac 7 0,ac 8 1,⟨some 9,none,.call y3x [.t 7,.t 8]⟩,ac 10 0,ac 11 2,⟨some 12,none,.call y3x [.t 10,.t 11]⟩,⟨some 13,none,.call y7x [.t 9,.t 12]⟩,a1e 14 13 0,ac 15 14,a12 16 15 0,a32 17 15 16,a13 18 15 9 17,a14 19 15 1 18,a11 20 15 19,az 21 6,af 22 9 21,aj 1 22 20]
def y2y:AFunc:=⟨23,[],jK [] y2y.r0⟩
theorem y2y.ok:y23 Tryz.prog Tryz.f57 y2y=true:=by kernel_rfl
theorem y2y.at:Tryz.prog.funcs[y3e]?=some Tryz.f57:=Tryz.func57
def y1t.r0:jI:=[a17 2 0 0]
def y1t.r1:jI:=[ac 3 0,⟨some 4,none,.op (.nilq (.t 3))⟩]
def y1t.r2:jI:=[a17 2 0 0]
def y1t.r3:jI:=[⟨some 5,none,.op (.bz 2)⟩,ac 6 0,a1g 7 2 16 5 6,ac 2 7]
def y1t:AFunc:=⟨8,[.t 2],jJ [0] y1t.r0 (.seq (jJ [0,4] y1t.r1 (.post [0] (.cond (.t 4) (jJ [2] y1t.r2 (.ret)) (.skip)))) (jJ [2] y1t.r3 (.ret)))⟩
theorem y1t.at:Tryz.prog.funcs[y3m]?=some Tryz.f113:=Tryz.func113
def y1g.r0:jI:=[a15 2 0,ak 4]
def y1g.r1:jI:=[af 6 1 2,ae 7 1 6,ac 5 7]
def y1g.r2:jI:=[ac 8 5,⟨some 9,none,.op (.bin .neq (.t 8) (.c (.i .u64 0)))⟩]
def y1g.r3:jI:=[ac 14 1,af 15 0 2,ae 16 1 15,⟨some 17,none,.op (.bin .mul (.t 16) (.c (.i .i64 64)))⟩,ac 18 5,⟨some 19,none,.call y5t [.t 18]⟩,a1a 20 17 19,a1y 21 14 20,a19 22 21]
def y1g.r4:jI:=[ak 4]
def y1g.r5:jI:=[ac 10 5,ac 11 5,⟨some 12,none,.op (.bin .sub (.t 11) (.c (.i .u64 1)))⟩,⟨some 13,none,.op (.bin .and (.t 10) (.t 12))⟩,ac 5 13]
def y1g.l0:ACode:=.seq (jJ [1,2,5,9] y1g.r2 (.post [1,2,5] (.cond (.t 9) (.skip) (.exit 0)))) (.seq (.post [1,2,5] (.block 1 (.seq (.post [1,2,5,22] (.draw [0,0,2,6,0,16,62,127,255] y1g.r3)) (.post [1,2,5] (.cond (.t 22) (jJ [4] y1g.r4 (.ret)) (.skip)))))) (jK [1,2,5] y1g.r5))
def y1g.r6:jI:=[a18 4]
def y1g:AFunc:=⟨23,[.t 4],jJ [1,2] y1g.r0 (.seq (jJ [1,2,5] y1g.r1 (.post [] (.block 0 (.loop y1g.l0)))) (jJ [4] y1g.r6 (.ret)))⟩
theorem y1g.ok:y23 Tryz.prog Tryz.f114 y1g=true:=by kernel_rfl
theorem y1g.at:Tryz.prog.funcs[y6y]?=some Tryz.f114:=Tryz.func114
def y1s.r0:jI:=[ae 5 1 1,⟨some 6,none,.call y4y [.t 5]⟩,⟨some 7,none,.call y3m [.t 6]⟩,al 8 7,ah 9 0]
def y1s.r1:jI:=[ar 10 9 8]
def y1s.r2:jI:=[am 11 2 7 9,ap 12 2 11,a1w 4 0 0,aj 2 4 12]
def y1s.r3:jI:=[ap 13 2 4,ac 14 0,⟨some 15,none,.call y6y [.t 13,.t 14]⟩,a19 16 15]
def y1s.r4:jI:=[ax 17 9 1,ac 9 17]
def y1s.l0:ACode:=jJ [0,7,8,9,10] y1s.r1 (.seq (.post [0,7,8,9] (.cond (.t 10) (.skip) (.exit 0))) (.seq (.post [0,7,8,9] (.block 1 (jJ [0,4,7,8,9] y1s.r2 (jJ [0,7,8,9,16] y1s.r3 (.post [0,7,8,9] (.cond (.t 16) (.ret) (.skip))))))) (jK [0,7,8,9] y1s.r4)))
def y1s:AFunc:=⟨18,[],jJ [0,7,8,9] y1s.r0 (.post [] (.block 0 (.loop y1s.l0)))⟩
theorem y1s.ok:y23 Tryz.prog Tryz.f112 y1s=true:=by kernel_rfl
theorem y1s.at:Tryz.prog.funcs[y3y]?=some Tryz.f112:=Tryz.func112
def y37.r0:jI:=[a1i 1 0,⟨some 2,none,.op (.mov (.c (.nf)))⟩]
def y37.r1:jI:=[⟨some 3,none,.op (.mkfn y3y [.t 1])⟩,ac 2 3]
def y37:AFunc:=⟨4,[.t 2],jJ [1] y37.r0 (jJ [2] y37.r1 (.ret))⟩
theorem y37.ok:y23 Tryz.prog Tryz.f64 y37=true:=by kernel_rfl
theorem y37.at:Tryz.prog.funcs[y6n]?=some Tryz.f64:=Tryz.func64
def y12.r0:jI:=[a1i 2 0,a17 4 0 0]
def y12.r1:jI:=[ac 6 1]
def y12.r2:jI:=[ac 5 7]
def y12.r3:jI:=[ae 8 1 2,ac 9 5,⟨some 10,none,.op (.bfz 1 1 [.i .i64 0] [(0,1,.t 9)])⟩,a1g 11 1 8 8 10,aj 1 2 11]
def y12.a0:ACode:=jK [2,5] y12.r2
def y12.b0:ACode:=.post [] (.block 1 (jK [] y12.r3))
def y12.r4:jI:=[ae 12 1 2,ac 4 12]
def y12:AFunc:=⟨13,[.t 4],jJ [1,2,4] y12.r0 (.seq (jJ [2,4,6] y12.r1 (.post [2] (.block 0 (.post [2] (.rangeFunc (.t 6) [7] y12.a0 y12.b0))))) (jJ [4] y12.r4 (.ret)))⟩
theorem y12.ok:y23 Tryz.prog Tryz.f161 y12=true:=by kernel_rfl
theorem y12.at:Tryz.prog.funcs[y4p]?=some Tryz.f161:=Tryz.func161
def y2b.r0:jI:=[a17 2 0 0]
def y2b.r1:jI:=[ac 3 0,⟨some 4,none,.call y4p [.c (.sl none 0 0),.t 3]⟩,ac 2 4]
def y2b:AFunc:=⟨5,[.t 2],jJ [0] y2b.r0 (jJ [2] y2b.r1 (.ret))⟩
theorem y2b.ok:y23 Tryz.prog Tryz.f105 y2b=true:=by kernel_rfl
theorem y2b.at:Tryz.prog.funcs[y61]?=some Tryz.f105:=Tryz.func105
def y2c.r0:jI:=[a17 4 0 0]
def y2c.r1:jI:=[ac 5 0,ac 6 1,⟨some 7,none,.call y3x [.t 5,.t 6]⟩,⟨some 8,none,.call y6n [.t 7]⟩,⟨some 9,none,.call y61 [.t 8]⟩,ac 4 9]
def y2c:AFunc:=⟨10,[.t 4],jJ [0,1] y2c.r0 (jJ [4] y2c.r1 (.ret))⟩
theorem y2c.ok:y23 Tryz.prog Tryz.f58 y2c=true:=by kernel_rfl
theorem y2c.at:Tryz.prog.funcs[y3u]?=some Tryz.f58:=Tryz.func58
def y1p.r0:jI:=[ak 4]
def y1p.r1:jI:=[ac 6 0,az 7 6,af 8 5 7,ae 9 1 8,ac 10 1,am 11 2 9 10,ap 12 2 11,a2z 5 0 0,aj 2 5 12]
def y1p.r2:jI:=[af 13 0 5,ae 14 1 13,a1j 15 14 0,ac 16 15,aw 17 16 1 5,ay 18 16 1 17,an 19 16 0,⟨some 20,(some (16,true)),.op (.nilc (.t 19))⟩,aw 21 16 0 20,aw 22 16 0 21,ay 23 16 1 22,aw 24 16 0 5,ay 25 16 1 24,a1l 26 16 3 23 25,aw 27 16 1 26,ay 28 16 1 27,a1q 29 16 28,a29 30 16 18 29,aq 31 16 30,ac 32 31,an 33 32 0,⟨some 34,(some (32,true)),.op (.nilc (.t 33))⟩,aw 35 32 0 34,aw 36 32 0 35,ay 37 32 1 36,aw 38 32 0 5,ay 39 32 1 38,a1l 40 32 3 37 39,aw 41 32 1 40,ay 42 32 1 41,aw 43 32 1 5,ay 44 32 1 43,⟨some 45,(some (32,true)),.op (.idx (.t 42) (.t 44))⟩,⟨some 46,(some (32,true)),.op (.bin .eql (.t 45) (.c (.i .u8 112)))⟩,aq 47 32 46,ac 4 47]
def y1p:AFunc:=⟨48,[.t 4],jJ [0,1] y1p.r0 (jJ [0,5] y1p.r1 (.seq (.post [4] (.draw [0,1,3,7,15,31,15,79,207,463,975,15,2063,8143,16335,32719,65487,131071,262143,524287,1048575,2097151,4194303,8388607,16777215,1048575,34603007,134217727,268435455,536870911,1048575,1074790399,4294967295,8589934591,17179869183,34359738367] y1p.r2)) (.ret)))⟩
theorem y1p.ok:y23 Tryz.prog Tryz.f59 y1p=true:=by kernel_rfl
theorem y1p.at:Tryz.prog.funcs[y42]?=some Tryz.f59:=Tryz.func59
def y1h.r0:jI:=[a16 4,ak 5]
def y1h.r1:jI:=[ac 7 1,a1v 8 7 0,ac 9 8,a12 10 9 1,a12 11 9 0,a32 12 9 11,a13 13 9 0 12,a14 14 9 1 13,a1t 15 9 14,⟨some 16,(some (9,false)),.op (.bin .geq (.t 10) (.t 15))⟩,a11 17 9 16]
def y1h.r2:jI:=[a16 6]
def y1h.r3:jI:=[ac 18 6,ac 4 18,ak 5]
def y1h.r4:jI:=[ac 19 0,az 20 19,af 21 0 20,ae 22 1 21,ac 23 1,am 24 1 22 23,ae 25 1 24,ac 4 25,a18 5]
def y1h:AFunc:=⟨26,[.t 4,.t 5],jJ [0,1] y1h.r0 (.seq (jJ [0,1,17] y1h.r1 (.post [0,1] (.cond (.t 17) (jJ [6] y1h.r2 (jJ [4,5] y1h.r3 (.ret))) (.skip)))) (jJ [4,5] y1h.r4 (.ret)))⟩
theorem y1h.ok:y23 Tryz.prog Tryz.f106 y1h=true:=by kernel_rfl
theorem y1h.at:Tryz.prog.funcs[y4x]?=some Tryz.f106:=Tryz.func106
def y25.r0:jI:=[a16 4]
def y25.r1:jI:=[ac 8 0,az 9 8,af 10 3 9,ac 11 1,⟨some 12,none,.call y4x [.t 10,.t 11]⟩,ac 7 12,ai 13 0 7,ai 14 1 7,ac 5 13,ac 6 14]
def y25.r2:jI:=[ac 15 5,ac 4 15]
def y25:AFunc:=⟨16,[.t 4],jJ [0,1] y25.r0 (jJ [5] y25.r1 (jJ [4] y25.r2 (.ret)))⟩
theorem y25.ok:y23 Tryz.prog Tryz.f60 y25=true:=by kernel_rfl
theorem y25.at:Tryz.prog.funcs[y3r]?=some Tryz.f60:=Tryz.func60
def y2x.r0:jI:=[a15 1 0,a16 2,ah 3 0]
def y2x.r1:jI:=[ap 4 6 1,⟨some 5,none,.call y5l [.t 4]⟩,a19 6 5]
def y2x.r2:jI:=[a16 2,ah 3 11]
def y2x.r3:jI:=[ap 7 6 1,⟨some 8,none,.call y6j [.t 7]⟩,ac 2 8,ah 3 0]
def y2x:AFunc:=⟨9,[.t 2,.t 3],jJ [1] y2x.r0 (.seq (jJ [1,6] y2x.r1 (.post [1] (.cond (.t 6) (jJ [2,3] y2x.r2 (.ret)) (.skip)))) (jJ [2,3] y2x.r3 (.ret)))⟩
theorem y2x.ok:y23 Tryz.prog Tryz.f162 y2x=true:=by kernel_rfl
theorem y2x.at:Tryz.prog.funcs[y7z]?=some Tryz.f162:=Tryz.func162
def y1z.r0:jI:=[a16 4]
def y1z.r1:jI:=[ac 10 0,⟨some 11,none,.call y4d [.t 10]⟩,ac 9 11,ai 12 0 9,ai 13 1 9,a1d 5 0 0 0 0,aj 6 5 12,ac 6 13]
def y1z.r2:jI:=[ac 14 6,a1b 15 14 0,ac 16 15,a13 17 16 0 5,a14 18 16 1 17,a26 19 16 18 5,a11 20 16 19,ac 21 20,a13 22 21 5 5,a14 23 21 1 22,a2h 24 21 23 (-1),a11 25 21 24,ac 26 25,a12 27 26 1,a26 28 26 27 0,a11 29 26 28]
def y1z.r3:jI:=[a16 4]
def y1z.r4:jI:=[ac 30 1,af 31 5 5,aj 1 31 30]
def y1z.r5:jI:=[ap 33 6 5,⟨some 34,none,.call y7z [.t 33]⟩,ac 32 34,ai 35 0 32,ai 36 1 32,ac 7 35,ac 8 36]
def y1z.r6:jI:=[ac 37 7,ac 4 37]
def y1z:AFunc:=⟨38,[.t 4],jJ [0,1] y1z.r0 (jJ [1,5,6] y1z.r1 (.seq (jJ [1,5,29] y1z.r2 (.post [1,5] (.cond (.t 29) (jJ [4] y1z.r3 (.ret)) (.skip)))) (jJ [5] y1z.r4 (jJ [7] y1z.r5 (jJ [4] y1z.r6 (.ret))))))⟩
theorem y1z.ok:y23 Tryz.prog Tryz.f107 y1z=true:=by kernel_rfl
theorem y1z.at:Tryz.prog.funcs[y9d]?=some Tryz.f107:=Tryz.func107
def yt.r0:jI:=[a15 3 1]
def yt.r1:jI:=[ac 8 0,af 9 2 3,ae 10 1 9,⟨some 11,none,.call y3u [.t 8,.t 10]⟩,al 12 11,ah 13 0]
def yt.r2:jI:=[ar 14 13 12]
def yt.r3:jI:=[am 15 1 11 13,ae 16 1 15,ac 5 16]
def yt.r4:jI:=[ac 17 0,az 18 17,af 19 5 18,ae 20 1 19,ac 21 5,am 22 2 20 21,ap 23 2 22,a2z 6 0 0,aj 2 6 23]
def yt.r5:jI:=[af 24 0 6,ae 25 1 24,a1v 26 25 0]
def yt.r6:jI:=[ac 27 0,az 28 27,af 29 0 28,af 30 0 29,ae 31 1 30,af 32 0 6,ae 33 1 32,am 34 3 31 33,ap 35 3 34,a2m 7 0 0,aj 3 7 35]
def yt.r7:jI:=[af 36 2 7,ae 37 1 36,af 38 1 6,ae 39 1 38,af 40 4 3,ae 41 1 40,⟨some 42,none,.op (.build [.i .i64 0,.s []] [(0,1,.t 39),(1,1,.t 41)])⟩,⟨some 43,none,.call y2v [.t 37,.t 42]⟩,ac 44 43,aw 45 44 1 6,ay 46 44 1 45,aw 47 44 3 3,ay 48 44 1 47,⟨some 49,(some (44,true)),.op (.bin .add (.t 46) (.t 48))⟩,aw 50 44 1 7,ay 51 44 1 50,a1q 52 44 51,a29 53 44 49 52,aq 54 44 53]
def yt.r8:jI:=[ac 55 0,af 56 1 3,ae 57 1 56,af 58 0 7,ae 59 1 58,af 60 1 6,ae 61 1 60,af 62 3 3,ae 63 1 62,a1a 64 61 63,⟨some 65,none,.call y9d [.t 59,.t 64]⟩,⟨some 66,none,.call y47 [.t 55,.t 57,.t 65]⟩]
def yt.r9:jI:=[ax 67 13 1,ac 13 67]
def yt.l0:ACode:=jJ [0,3,11,12,13,14] yt.r2 (.seq (.post [0,3,11,12,13] (.cond (.t 14) (.skip) (.exit 0))) (.seq (.post [0,3,11,12,13] (.block 1 (jJ [0,3,5,11,12,13] yt.r3 (jJ [0,3,6,11,12,13] yt.r4 (.seq (jJ [0,3,6,11,12,13,26] yt.r5 (.post [0,3,6,11,12,13] (.cond (.t 26) (.exit 1) (.skip)))) (.seq (.post [0,3,6,7,11,12,13] (.draw [0,1,3,7,15,0,32,127,255,0,1023] yt.r6)) (jJ [0,3,6,7,11,12,13,54] yt.r7 (.post [0,3,11,12,13] (.cond (.t 54) (.post [0,3,11,12,13] (.draw [0,0,2,0,8,0,32,0,128,480,1016,2047] yt.r8)) (.skip)))))))))) (jK [0,3,11,12,13] yt.r9)))
def yt:AFunc:=⟨68,[],jJ [0,3] yt.r0 (jJ [0,3,11,12,13] yt.r1 (.post [] (.block 0 (.loop yt.l0))))⟩
theorem yt.ok:y23 Tryz.prog Tryz.f61 yt=true:=by kernel_rfl
theorem yt.at:Tryz.prog.funcs[y5f]?=some Tryz.f61:=Tryz.func61
def y26.r0:jI:=[a16 4]
def y26.r1:jI:=[ac 10 0,⟨some 11,none,.call y4d [.t 10]⟩,ac 9 11,ai 12 0 9,ai 13 1 9,a1d 5 0 0 0 0,aj 6 5 12,ac 6 13]
def y26.r2:jI:=[ac 14 1,af 15 0 5,a23 1 15 2,af 16 4 5,aj 1 16 14]
def y26.r3:jI:=[ap 18 6 5,⟨some 19,none,.call y7z [.t 18]⟩,ac 17 19,ai 20 0 17,ai 21 1 17,ac 7 20,ac 8 21]
def y26.r4:jI:=[ac 22 7,ac 4 22]
def y26:AFunc:=⟨23,[.t 4],jJ [0,1] y26.r0 (jJ [1,5] y26.r1 (jJ [5] y26.r2 (jJ [7] y26.r3 (jJ [4] y26.r4 (.ret)))))⟩
theorem y26.ok:y23 Tryz.prog Tryz.f109 y26=true:=by kernel_rfl
theorem y26.at:Tryz.prog.funcs[y76]?=some Tryz.f109:=Tryz.func109
def yc.r0:jI:=[a15 3 1]
def yc.r1:jI:=[af 15 4 3,ae 16 1 15,⟨some 17,none,.call y7m [.t 16,.c (.s [62])]⟩,ac 14 17,ai 18 0 14,ai 19 1 14,ai 20 2 14,ac 4 18,ac 5 19,ac 6 20]
def yc.r2:jI:=[ac 21 0,af 22 2 3,ae 23 1 22,⟨some 24,none,.call y3u [.t 21,.t 23]⟩,al 25 24,ah 26 0]
def yc.r3:jI:=[ar 27 26 25]
def yc.r4:jI:=[am 28 1 24 26,ae 29 1 28,ac 8 29]
def yc.r5:jI:=[ac 30 0,ac 31 8,⟨some 32,none,.call y3r [.t 30,.t 31]⟩,ac 9 32]
def yc.r6:jI:=[ac 34 0,az 35 34,af 36 6 35,ae 37 1 36,ac 38 9,⟨some 39,none,.op (.lkm true (.agg [.s [],.s [],.s []]) (.t 37) (.t 38))⟩,ac 33 39,ai 40 0 33,ai 41 1 33,a2w 10,aj 3 10 40,ac 11 41]
def yc.r7:jI:=[ac 42 11,a19 43 42,ac 44 43,a13 45 44 1 10,a14 46 44 1 45,a12 47 44 4,a2u 48 44 46 47,a11 49 44 48,ac 50 49,a12 51 50 5,⟨some 52,(some (50,false)),.op (.bin .neq (.t 51) (.c (.s [])))⟩,a12 53 50 52,aw 54 53 2 10,ay 55 53 1 54,an 56 53 5,⟨some 57,(some (53,true)),.op (.bin .neq (.t 55) (.t 56))⟩,a1s 58 50 53 57,a11 59 50 58]
def yc.r8:jI:=[ac 60 0,af 61 1 3,ae 62 1 61,ac 63 9,⟨some 64,none,.call y47 [.t 60,.t 62,.t 63]⟩]
def yc.r9:jI:=[af 65 5 3,ae 66 1 65,al 67 66,ah 68 0]
def yc.r10:jI:=[ar 69 68 67]
def yc.r11:jI:=[ac 70 68,am 71 1 66 68,ae 72 1 71,ac 12 70,ac 13 72]
def yc.r12:jI:=[ac 80 13,a1p 81 80,ac 79 81]
def yc.r13:jI:=[ac 83 12,a10 84 83 0,ac 82 84]
def yc.r14:jI:=[ac 85 0,ac 86 13,ac 87 9,⟨some 88,none,.call y76 [.t 87,.c (.i .i64 0)]⟩,⟨some 89,none,.call y3e [.t 85,.t 86,.t 88]⟩]
def yc.r15:jI:=[ac 73 0,ac 74 9,ac 75 12,⟨some 76,none,.call y76 [.t 74,.t 75]⟩,ac 77 13,⟨some 78,none,.call y3e [.t 73,.t 76,.t 77]⟩]
def yc.r16:jI:=[ax 90 68 1,ac 68 90]
def yc.l1:ACode:=jJ [0,3,4,5,9,24,25,26,66,67,68,69] yc.r10 (.seq (.post [0,3,4,5,9,24,25,26,66,67,68] (.cond (.t 69) (.skip) (.exit 2))) (.seq (.post [0,3,4,5,9,24,25,26,66,67,68] (.block 3 (jJ [0,3,4,5,9,12,13,24,25,26,66,67,68] yc.r11 (.post [0,3,4,5,9,24,25,26,66,67,68] (.block 4 (jJ [0,3,4,5,9,12,13,24,25,26,66,67,68,79] yc.r12 (.post [0,3,4,5,9,24,25,26,66,67,68] (.cond (.t 79) (.skip) (jJ [0,3,4,5,9,12,13,24,25,26,66,67,68,82] yc.r13 (.post [0,3,4,5,9,24,25,26,66,67,68] (.cond (.t 82) (jK [0,3,4,5,9,24,25,26,66,67,68] yc.r14) (jK [0,3,4,5,9,24,25,26,66,67,68] yc.r15)))))))))))) (jK [0,3,4,5,9,24,25,26,66,67,68] yc.r16)))
def yc.r17:jI:=[ax 91 26 1,ac 26 91]
def yc.l0:ACode:=jJ [0,3,4,5,24,25,26,27] yc.r3 (.seq (.post [0,3,4,5,24,25,26] (.cond (.t 27) (.skip) (.exit 0))) (.seq (.post [0,3,4,5,24,25,26] (.block 1 (jJ [0,3,4,5,8,24,25,26] yc.r4 (jJ [0,3,4,5,9,24,25,26] yc.r5 (jJ [0,3,4,5,9,10,11,24,25,26] yc.r6 (.seq (jJ [0,3,4,5,9,24,25,26,59] yc.r7 (.post [0,3,4,5,9,24,25,26] (.cond (.t 59) (.exit 1) (.skip)))) (jJ [0,3,4,5,9,24,25,26] yc.r8 (jJ [0,3,4,5,9,24,25,26,66,67,68] yc.r9 (.post [0,3,4,5,24,25,26] (.block 2 (.loop yc.l1))))))))))) (jK [0,3,4,5,24,25,26] yc.r17)))
def yc:AFunc:=⟨92,[],jJ [0,3] yc.r0 (jJ [0,3,4,5] yc.r1 (jJ [0,3,4,5,24,25,26] yc.r2 (.post [] (.block 0 (.loop yc.l0)))))⟩
theorem yc.ok:y23 Tryz.prog Tryz.f62 yc=true:=by kernel_rfl
theorem yc.at:Tryz.prog.funcs[y5u]?=some Tryz.f62:=Tryz.func62
def y0.r0:jI:=[ac 8 0,az 9 8,af 10 0 9,af 11 2 10,ae 12 1 11,al 13 12,ah 14 0]
def y0.r1:jI:=[ar 15 14 13]
def y0.r2:jI:=[am 16 6 12 14,ap 17 6 16,⟨some 3,none,.op (.new [.i .i64 0,.s [],.s [],.i .i64 0,.s [],.sl none 0 0])⟩,aj 6 3 17]
def y0.r3:jI:=[af 18 0 3,ae 19 1 18]
def y0.r4:jI:=[a10 21 19 1,ac 20 21]
def y0.r5:jI:=[ac 22 0,af 23 1 3,ae 24 1 23,af 25 2 3,ae 26 1 25,⟨some 27,none,.call y47 [.t 22,.t 24,.t 26]⟩]
def y0.r6:jI:=[a10 29 19 2,ac 28 29]
def y0.r7:jI:=[ac 30 0,af 31 1 3,ae 32 1 31,af 33 2 3,ae 34 1 33,⟨some 35,none,.call y3e [.t 30,.t 32,.t 34]⟩]
def y0.r8:jI:=[a10 37 19 3,ac 36 37]
def y0.r9:jI:=[ac 38 0,af 39 2 3,ae 40 1 39,⟨some 41,none,.call y3u [.t 38,.t 40]⟩,al 42 41,ah 43 0]
def y0.r10:jI:=[ar 44 43 42]
def y0.r11:jI:=[am 45 1 41 43,ae 46 1 45,ac 5 46]
def y0.r12:jI:=[ac 47 0,ac 48 5,⟨some 49,none,.call y42 [.t 47,.t 48]⟩]
def y0.r13:jI:=[ac 50 0,af 51 1 3,ae 52 1 51,ac 53 0,ac 54 5,⟨some 55,none,.call y3r [.t 53,.t 54]⟩,⟨some 56,none,.call y3e [.t 50,.t 52,.t 55]⟩]
def y0.r14:jI:=[ax 57 43 1,ac 43 57]
def y0.l1:ACode:=jJ [0,3,12,13,14,41,42,43,44] y0.r10 (.seq (.post [0,3,12,13,14,41,42,43] (.cond (.t 44) (.skip) (.exit 3))) (.seq (.post [0,3,12,13,14,41,42,43] (.block 4 (jJ [0,3,5,12,13,14,41,42,43] y0.r11 (jJ [0,3,5,12,13,14,41,42,43,49] y0.r12 (.post [0,3,12,13,14,41,42,43] (.cond (.t 49) (.post [0,3,12,13,14,41,42,43] (.draw [0,0,2,0,0,24,63] y0.r13)) (.skip))))))) (jK [0,3,12,13,14,41,42,43] y0.r14)))
def y0.r15:jI:=[a10 59 19 4,ac 58 59]
def y0.r16:jI:=[ac 60 0,af 61 1 3,ae 62 1 61,⟨some 63,none,.call y3u [.t 60,.t 62]⟩,al 64 63,ah 65 0]
def y0.r17:jI:=[ar 66 65 64]
def y0.r18:jI:=[am 67 1 63 65,ae 68 1 67,ac 7 68]
def y0.r19:jI:=[ac 69 0,ac 70 7,⟨some 71,none,.call y42 [.t 69,.t 70]⟩]
def y0.r20:jI:=[ac 72 0,ac 73 0,ac 74 7,⟨some 75,none,.call y3r [.t 73,.t 74]⟩,af 76 2 3,ae 77 1 76,⟨some 78,none,.call y3e [.t 72,.t 75,.t 77]⟩]
def y0.r21:jI:=[ax 79 65 1,ac 65 79]
def y0.l2:ACode:=jJ [0,3,12,13,14,63,64,65,66] y0.r17 (.seq (.post [0,3,12,13,14,63,64,65] (.cond (.t 66) (.skip) (.exit 5))) (.seq (.post [0,3,12,13,14,63,64,65] (.block 6 (jJ [0,3,7,12,13,14,63,64,65] y0.r18 (jJ [0,3,7,12,13,14,63,64,65,71] y0.r19 (.post [0,3,12,13,14,63,64,65] (.cond (.t 71) (.post [0,3,12,13,14,63,64,65] (.draw [0,0,0,6,0,16,63] y0.r20)) (.skip))))))) (jK [0,3,12,13,14,63,64,65] y0.r21)))
def y0.r22:jI:=[a10 81 19 5,ac 80 81]
def y0.r23:jI:=[ac 82 0,ap 83 6 3,⟨some 84,none,.call y5f [.t 82,.t 83]⟩]
def y0.r24:jI:=[a10 86 19 6,ac 85 86]
def y0.r25:jI:=[ac 87 0,ap 88 6 3,⟨some 89,none,.call y5u [.t 87,.t 88]⟩]
def y0.r26:jI:=[ax 90 14 1,ac 14 90]
def y0.l0:ACode:=jJ [0,12,13,14,15] y0.r1 (.seq (.post [0,12,13,14] (.cond (.t 15) (.skip) (.exit 0))) (.seq (.post [0,12,13,14] (.block 1 (jJ [0,3,12,13,14] y0.r2 (jJ [0,3,12,13,14,19] y0.r3 (.post [0,12,13,14] (.block 2 (jJ [0,3,12,13,14,19,20] y0.r4 (.post [0,12,13,14] (.cond (.t 20) (jK [0,12,13,14] y0.r5) (jJ [0,3,12,13,14,19,28] y0.r6 (.post [0,12,13,14] (.cond (.t 28) (jK [0,12,13,14] y0.r7) (jJ [0,3,12,13,14,19,36] y0.r8 (.post [0,12,13,14] (.cond (.t 36) (jJ [0,3,12,13,14,41,42,43] y0.r9 (.post [0,12,13,14] (.block 3 (.loop y0.l1)))) (jJ [0,3,12,13,14,19,58] y0.r15 (.post [0,12,13,14] (.cond (.t 58) (jJ [0,3,12,13,14,63,64,65] y0.r16 (.post [0,12,13,14] (.block 5 (.loop y0.l2)))) (jJ [0,3,12,13,14,19,80] y0.r22 (.post [0,12,13,14] (.cond (.t 80) (jK [0,12,13,14] y0.r23) (jJ [0,3,12,13,14,85] y0.r24 (.post [0,12,13,14] (.cond (.t 85) (jK [0,12,13,14] y0.r25) (.skip))))))))))))))))))))))))) (jK [0,12,13,14] y0.r26)))
def y0:AFunc:=⟨91,[],jJ [0,12,13,14] y0.r0 (.post [] (.block 0 (.loop y0.l0)))⟩
theorem y0.ok:y23 Tryz.prog Tryz.f28 y0=true:=by kernel_rfl
theorem y0.at:Tryz.prog.funcs[y5e]?=some Tryz.f28:=Tryz.func28
def ye.r0:jI:=[a15 1 0,a17 2 0 0]
def ye.r1:jI:=[a17 3 0 0]
def ye.r2:jI:=[ae 8 1 1,az 9 8,af 10 8 9,ae 11 1 10,⟨some 12,none,.op (.rgm (.t 11))⟩]
def ye.r3:jI:=[⟨some 13,none,.nxt (.t 12)⟩,ai 14 0 13]
def ye.r4:jI:=[⟨some 15,none,.op (.enm (.t 12))⟩,ai 16 0 15,ai 17 1 15,ac 4 16,ac 5 17]
def ye.r5:jI:=[ac 18 5,⟨some 19,none,.call y65 [.t 18]⟩,a10 20 19 0]
def ye.r6:jI:=[ac 21 4,⟨some 22,none,.op (.build [.s [],.sl none 0 0] [(0,1,.t 21)])⟩,a2a 6 0 0,aj 2 6 22]
def ye.r7:jI:=[ac 23 5,⟨some 24,none,.call y6n [.t 23]⟩]
def ye.r8:jI:=[ac 7 25]
def ye.r9:jI:=[af 26 1 6,ae 27 1 26,ae 28 1 1,ac 29 7,⟨some 30,none,.call y3r [.t 28,.t 29]⟩,⟨some 31,none,.op (.bfz 1 1 [.s []] [(0,1,.t 30)])⟩,a1g 32 1 16 27 31,af 33 1 6,aj 1 33 32]
def ye.a1:ACode:=jK [1,6,7] ye.r8
def ye.b1:ACode:=.post [] (.block 3 (.post [] (.draw [0,1,0,0,12,28,63,127,255] ye.r9)))
def ye.r10:jI:=[af 34 1 6,ae 35 1 34,⟨some 36,none,.call y5s [.t 35]⟩]
def ye.r11:jI:=[ac 37 3,ap 38 2 6,a33 39 1 2 0 0 0 2 38,a1g 40 2 40 37 39,ac 3 40]
def ye.l0:ACode:=jJ [1,2,3,12,14] ye.r3 (.seq (.post [1,2,3,12] (.cond (.t 14) (.skip) (.exit 0))) (.post [1,2,3,12] (.block 1 (jJ [1,2,3,4,5,12] ye.r4 (.seq (jJ [1,2,3,4,5,12,20] ye.r5 (.post [1,2,3,4,5,12] (.cond (.t 20) (.exit 1) (.skip)))) (jJ [1,2,3,5,6,12] ye.r6 (.seq (jJ [1,2,3,6,12,24] ye.r7 (.post [1,2,3,6,12] (.block 2 (.post [1,2,3,6,12] (.rangeFunc (.t 24) [25] ye.a1 ye.b1))))) (jJ [1,2,3,6,12] ye.r10 (jK [1,2,3,12] ye.r11)))))))))
def ye.r12:jI:=[ac 41 3,⟨some 42,none,.call y3q [.t 41,.c (.fn 67 [])]⟩]
def ye.r13:jI:=[ac 43 3,ac 2 43]
def ye:AFunc:=⟨44,[.t 2],jJ [1,2] ye.r0 (jJ [1,2,3] ye.r1 (.seq (jJ [1,2,3,12] ye.r2 (.post [3] (.block 0 (.loop ye.l0)))) (jJ [3] ye.r12 (jJ [2] ye.r13 (.ret)))))⟩
theorem ye.ok:y23 Tryz.prog Tryz.f29 ye=true:=by kernel_rfl
theorem ye.at:Tryz.prog.funcs[y5g]?=some Tryz.f29:=Tryz.func29
def yr.r0:jI:=[a15 1 0,a17 2 0 0,ah 3 0]
def yr.r1:jI:=[ap 10 3 1,⟨some 11,none,.call y89 [.t 10]⟩,ac 4 11]
def yr.r2:jI:=[ac 12 4,a1b 13 12 0]
def yr.r3:jI:=[ac 14 4,a17 2 0 0,ac 3 14]
def yr.r4:jI:=[ap 15 3 1,a34 16,a34 17,a34 18,⟨some 19,none,.op (.build [.sl none 0 0,.sl none 0 0,.sl none 0 0,.sl none 0 0,.sl none 0 0,.sl none 0 0,.mp none,.mp none,.mp none,.b false] [(0,3,.t 15),(6,1,.t 16),(7,1,.t 17),(8,1,.t 18)])⟩,a1i 20 19,ac 5 20]
def yr.r5:jI:=[af 21 1 1,ae 22 1 21,al 23 22,ah 24 0]
def yr.r6:jI:=[ar 25 24 23]
def yr.r7:jI:=[am 26 3 22 24,ap 27 3 26,a2w 7,aj 3 7 27]
def yr.r8:jI:=[ac 28 5,az 29 28,af 30 6 29,ae 31 1 30,af 32 0 7,ae 33 1 32,ap 34 3 7,a2x 31 33 34]
def yr.r9:jI:=[ax 35 24 1,ac 24 35]
def yr.l0:ACode:=jJ [1,5,22,23,24,25] yr.r6 (.seq (.post [1,5,22,23,24] (.cond (.t 25) (.skip) (.exit 0))) (.seq (.post [1,5,22,23,24] (.block 1 (jJ [1,5,7,22,23,24] yr.r7 (.post [1,5,22,23,24] (.draw [0,1,3,7,0,16,0,127] yr.r8))))) (jK [1,5,22,23,24] yr.r9)))
def yr.r10:jI:=[af 36 0 1,ae 37 1 36,al 38 37,ah 39 0]
def yr.r11:jI:=[ar 40 39 38]
def yr.r12:jI:=[ac 41 39,am 42 3 37 39,ap 43 3 42,a2m 9 0 0,ac 8 41,aj 3 9 43]
def yr.r13:jI:=[ac 44 5,az 45 44,af 46 7 45,ae 47 1 46,af 48 0 9,ae 49 1 48,ac 50 8,a2x 47 49 50]
def yr.r14:jI:=[ax 51 39 1,ac 39 51]
def yr.l1:ACode:=jJ [5,37,38,39,40] yr.r11 (.seq (.post [5,37,38,39] (.cond (.t 40) (.skip) (.exit 2))) (.seq (.post [5,37,38,39] (.block 3 (jJ [5,8,9,37,38,39] yr.r12 (.post [5,37,38,39] (.draw [0,1,3,7,0,16,0,127] yr.r13))))) (jK [5,37,38,39] yr.r14)))
def yr.r15:jI:=[ac 52 5,az 53 52,af 54 9 53,⟨none,none,.op (.store 1 (.t 54) (.c (.b true)))⟩]
def yr.r16:jI:=[ac 55 5,az 56 55,af 57 9 56,ae 58 1 57]
def yr.r17:jI:=[ac 59 5,az 60 59,af 61 9 60,⟨none,none,.op (.store 1 (.t 61) (.c (.b false)))⟩]
def yr.r18:jI:=[ac 62 5,⟨some 63,none,.call y5e [.t 62]⟩]
def yr.l2:ACode:=.seq (jJ [5,58] yr.r16 (.post [5] (.cond (.t 58) (.skip) (.exit 4)))) (.post [5] (.block 5 (jJ [5] yr.r17 (jK [5] yr.r18))))
def yr.r19:jI:=[ac 64 5,⟨some 65,none,.call y5g [.t 64]⟩,ac 2 65,ah 3 0]
def yr:AFunc:=⟨66,[.t 2,.t 3],jJ [1] yr.r0 (.seq (jJ [1,4] yr.r1 (jJ [1,4,13] yr.r2 (.post [1] (.cond (.t 13) (jJ [2,3] yr.r3 (.ret)) (.skip))))) (jJ [1,5] yr.r4 (.seq (jJ [1,5,22,23,24] yr.r5 (.post [1,5] (.block 0 (.loop yr.l0)))) (.seq (jJ [5,37,38,39] yr.r10 (.post [5] (.block 2 (.loop yr.l1)))) (.seq (jJ [5] yr.r15 (.post [5] (.block 4 (.loop yr.l2)))) (jJ [2,3] yr.r19 (.ret)))))))⟩
theorem yr.ok:y23 Tryz.prog Tryz.f9 yr=true:=by kernel_rfl
theorem yr.at:Tryz.prog.funcs[y8u]?=some Tryz.f9:=Tryz.func9
def y1u.r0:jI:=[a17 4 0 0]
def y1u.r1:jI:=[ah 5 0]
def y1u.r2:jI:=[ac 6 5,ac 7 0,al 8 7,ar 9 6 8]
def y1u.r3:jI:=[ac 12 0,ac 13 5,am 14 2 12 13,af 15 0 14,ae 16 1 15,ac 17 1,a2b 18 16 17]
def y1u.r4:jI:=[⟨some 19,none,.op (.bz 1)⟩,ac 20 0,ac 21 5,am 22 2 20 21,af 23 1 22,ae 24 1 23,a1g 25 1 16 19 24,ac 4 25]
def y1u.r5:jI:=[ac 10 5,ax 11 10 1,ac 5 11]
def y1u.l0:ACode:=.seq (jJ [0,1,5,9] y1u.r2 (.post [0,1,5] (.cond (.t 9) (.skip) (.exit 0)))) (.seq (.post [0,1,5] (.block 1 (jJ [0,1,5,18] y1u.r3 (.post [0,1,5] (.cond (.t 18) (jJ [4] y1u.r4 (.ret)) (.skip)))))) (jK [0,1,5] y1u.r5))
def y1u.r6:jI:=[a17 4 0 0]
def y1u:AFunc:=⟨26,[.t 4],jJ [0,1] y1u.r0 (.seq (jJ [0,1,5] y1u.r1 (.post [] (.block 0 (.loop y1u.l0)))) (jJ [4] y1u.r6 (.ret)))⟩
theorem y1u.ok:y23 Tryz.prog Tryz.f18 y1u=true:=by kernel_rfl
theorem y1u.at:Tryz.prog.funcs[y75]?=some Tryz.f18:=Tryz.func18
end C
end Go.Proofs.YtikpijbeobeckaaGreatDoor
