/- Part 16 of the proof of the laws of the queries: CodeA. -/
import Derived.Test.YthmkcebbeehbeaaGreatDoorProg
import Derived.Test.YthmkcebbeehbeaaGreatDoorXTw15
set_option linter.unusedSimpArgs false
set_option linter.unusedVariables false
namespace Go.Proofs.YthmkcebbeehbeaaGreatDoor
open Am Go.Proofs
set_option maxRecDepth 100000
namespace C
abbrev jI:=List AStep
abbrev jJ (t:List Nat) (r:jI) (c:ACode):ACode:=.seq (.post t (.region r)) c
abbrev jK (t:List Nat) (r:jI):ACode:=.post t (.region r)
@[simp] def ab (x0 x1:Nat):AStep:=⟨some x0,none,.op (.mov (.t x1))⟩
@[simp] def ac (x0 x1 x2:Nat):AStep:=⟨some x0,none,.op (.load false x1 (.t x2))⟩
@[simp] def ae (x0 x1 x2:Nat):AStep:=⟨some x0,none,.op (.fadr x1 (.t x2))⟩
@[simp] def af (x0:Nat) (x1:Int):AStep:=⟨some x0,none,.op (.mov (.c (.i .i64 x1)))⟩
@[simp] def ah (x0 x1 x2:Nat):AStep:=⟨some x0,none,.op (.ext x1 (.t x2))⟩
@[simp] def ai (x0 x1 x2:Nat):AStep:=⟨none,none,.op (.store x0 (.t x1) (.t x2))⟩
@[simp] def aj (x0 x1 x2:Nat):AStep:=⟨some x0,(some (x1,true)),.op (.mov (.t x2))⟩
@[simp] def ak (x0 x1:Nat):AStep:=⟨some x0,none,.op (.nilc (.t x1))⟩
@[simp] def am (x0:Nat):AStep:=⟨some x0,none,.op (.mov (.c (.b false)))⟩
@[simp] def an (x0 x1 x2:Nat):AStep:=⟨some x0,none,.op (.pick (.t x1) (.t x2) (.c (.b false)))⟩
@[simp] def ap (x0 x1:Nat):AStep:=⟨some x0,none,.op (.len false (.t x1))⟩
@[simp] def aq (x0 x1 x2:Nat):AStep:=⟨some x0,none,.op (.bin .lss (.t x1) (.t x2))⟩
@[simp] def ar (x0 x1:Nat) (x2:Int):AStep:=⟨some x0,none,.op (.bin .add (.t x1) (.c (.i .i64 x2)))⟩
@[simp] def av (x0 x1 x2 x3:Nat):AStep:=⟨some x0,none,.op (.iad x1 (.t x2) (.t x3))⟩
@[simp] def aw (x0:Nat):AStep:=⟨some x0,none,.op (.mov (.c (.s [])))⟩
@[simp] def ax (x0 x1 x2:Nat):AStep:=⟨some x0,none,.op (.load true x1 (.t x2))⟩
@[simp] def ay (x0 x1:Nat) (x2:Int):AStep:=⟨some x0,none,.op (.bin .eql (.t x1) (.c (.i .i64 x2)))⟩
@[simp] def az (x0 x1:Nat):AStep:=⟨some x0,none,.op (.len true (.t x1))⟩
@[simp] def a10 (x0 x1 x2:Nat):AStep:=⟨some x0,none,.op (.pick (.t x1) (.c (.b true)) (.t x2))⟩
@[simp] def a11 (x0 x1:Nat) (x2:Int):AStep:=⟨some x0,none,.op (.bin .neq (.t x1) (.c (.i .i64 x2)))⟩
@[simp] def a12 (x0 x1 x2 x3:Nat):AStep:=⟨some x0,(some (x1,true)),.op (.load false x2 (.t x3))⟩
@[simp] def a13 (x0 x1:Nat):AStep:=⟨some x0,none,.op (.boxf (.t x1))⟩
@[simp] def a14 (x0 x1 x2 x3:Nat):AStep:=⟨some x0,(some (x1,true)),.op (.fadr x2 (.t x3))⟩
@[simp] def a15 (x0 x1 x2 x3:Nat):AStep:=⟨some x0,(some (x1,false)),.op (.fadr x2 (.t x3))⟩
@[simp] def a16 (x0 x1 x2 x3:Nat):AStep:=⟨some x0,(some (x1,false)),.op (.load false x2 (.t x3))⟩
@[simp] def a17 (x0 x1 x2:Nat):AStep:=⟨some x0,(some (x1,false)),.op (.mov (.t x2))⟩
@[simp] def a18 (x0 x1:Nat) (x2:Int):AStep:=⟨some x0,none,.op (.bin .gtr (.t x1) (.c (.i .i64 x2)))⟩
@[simp] def a19 (x0 x1 x2:Nat):AStep:=⟨some x0,none,.op (.bin .add (.t x1) (.t x2))⟩
@[simp] def a1a (x0 x1:Nat):AStep:=⟨some x0,none,.op (.un .not (.t x1))⟩
@[simp] def a1b (x0:Nat):AStep:=⟨some x0,none,.op (.mov (.c (.b true)))⟩
@[simp] def a1c (x0 x1 x2:Nat):AStep:=⟨some x0,none,.callv (.t x1) [.t x2]⟩
@[simp] def a1d (x0 x1 x2:Nat):AStep:=⟨some x0,none,.op (.mov (.c (.sl none x1 x2)))⟩
@[simp] def a1e (x0 x1 x2 x3:Nat):AStep:=⟨some x0,(some (x1,true)),.op (.load true x2 (.t x3))⟩
@[simp] def a1f (x0 x1:Nat) (x2:Int):AStep:=⟨some x0,none,.op (.bin .geq (.t x1) (.c (.i .i64 x2)))⟩
@[simp] def a1g (x0 x1:Nat):AStep:=⟨some x0,none,.op (.box (.t x1))⟩
@[simp] def a1h (x0 x1 x2:Nat) (x3:Int):AStep:=⟨some x0,(some (x1,true)),.op (.bin .eql (.t x2) (.c (.i .i64 x3)))⟩
@[simp] def a1i (x0:Nat) (x1 x2 x3 x4:Int):AStep:=⟨some x0,none,.op (.new [.i .i64 x1,.s [],.i .i64 x2,.s [],.i .i64 x3,.i .i64 x4])⟩
@[simp] def a1j (x0 x1 x2:Nat):AStep:=⟨some x0,(some (x1,true)),.op (.len true (.t x2))⟩
@[simp] def a1k (x0 x1 x2 x3 x4:Nat):AStep:=⟨some x0,none,.op (.app x1 x2 (.t x3) (.t x4))⟩
@[simp] def a1l (x0:Nat):AStep:=⟨some x0,none,.op (.mov (.c (.p none)))⟩
@[simp] def a1m (x0 x1 x2:Nat) (x3:Int):AStep:=⟨some x0,(some (x1,false)),.op (.bin .gtr (.t x2) (.c (.i .i64 x3)))⟩
@[simp] def a1n (x0 x1 x2:Nat) (x3:Int):AStep:=⟨some x0,(some (x1,true)),.op (.bin .leq (.t x2) (.c (.i .i64 x3)))⟩
@[simp] def a1o (x0 x1 x2 x3:Nat):AStep:=⟨some x0,(some (x1,true)),.op (.pick (.t x2) (.c (.b true)) (.t x3))⟩
@[simp] def a1p (x0 x1 x2:Nat):AStep:=⟨some x0,(some (x1,false)),.op (.len false (.t x2))⟩
@[simp] def a1q (x0 x1 x2:Nat):AStep:=⟨some x0,none,.op (.sls (.t x1) none (some (.t x2)))⟩
@[simp] def a1r (x0 x1 x2:Nat):AStep:=⟨some x0,(some (x1,false)),.op (.un .not (.t x2))⟩
@[simp] def a1s (x0 x1 x2:Nat):AStep:=⟨some x0,none,.op (.bin .neq (.t x1) (.t x2))⟩
@[simp] def a1t (x0 x1 x2 x3:Nat):AStep:=⟨some x0,(some (x1,false)),.op (.pick (.t x2) (.t x3) (.c (.b false)))⟩
@[simp] def a1u (x0 x1:Nat):AStep:=⟨some x0,none,.callv (.t x1) []⟩
@[simp] def a1v (x0 x1 x2 x3 x4 x5 x6 x7 x8 x9 x10 x11 x12:Nat):AStep:=⟨some x0,none,.op (.new [.s [],.sl none x1 x2,.sl none x3 x4,.sl none x5 x6,.sl none x7 x8,.sl none x9 x10,.sl none x11 x12])⟩
@[simp] def a1w (x0:Nat) (x1 x2:Int) (x3 x4:Nat):AStep:=⟨some x0,none,.op (.new [.i .i64 x1,.s [],.s [],.i .i64 x2,.s [],.sl none x3 x4])⟩
@[simp] def a1x (x0 x1:Nat) (x2:Int):AStep:=⟨some x0,none,.op (.bin .eql (.t x1) (.c (.i .u8 x2)))⟩
@[simp] def a1y (x0 x1:Nat):AStep:=⟨some x0,none,.op (.bin .eql (.t x1) (.c (.s [])))⟩
@[simp] def a1z (x0 x1 x2:Nat):AStep:=⟨some x0,none,.op (.sls (.t x1) (some (.t x2)) none)⟩
@[simp] def a23 (x0 x1 x2 x3 x4:Nat):AStep:=⟨some x0,(some (x1,true)),.op (.iad x2 (.t x3) (.t x4))⟩
@[simp] def a24 (x0 x1:Nat) (x2:Int):AStep:=⟨none,none,.op (.store x0 (.t x1) (.c (.i .i64 x2)))⟩
@[simp] def a25 (x0 x1 x2 x3 x4 x5:Nat):AStep:=⟨some x0,none,.op (.bfz x1 x2 [.s []] [(x3,x4,.t x5)])⟩
@[simp] def a26 (x0 x1:Nat) (x2:Int):AStep:=⟨some x0,none,.op (.bin .shr (.t x1) (.c (.i .u64 x2)))⟩
@[simp] def a27 (x0 x1:Nat) (x2:Int):AStep:=⟨some x0,none,.op (.bin .lss (.t x1) (.c (.i .i64 x2)))⟩
@[simp] def a28 (x0 x1 x2 x3 x4 x5 x6 x7 x8 x9 x10 x11 x12:Nat):AStep:=⟨some x0,none,.op (.build [.s [],.sl none x1 x2,.sl none x3 x4,.sl none x5 x6,.sl none x7 x8,.sl none x9 x10,.sl none x11 x12] [])⟩
@[simp] def a29 (x0 x1 x2:Nat):AStep:=⟨some x0,none,.op (.bin .gtr (.t x1) (.t x2))⟩
@[simp] def a2a (x0:Nat) (x1:Int) (x2:Nat):AStep:=⟨some x0,none,.op (.bin .mul (.c (.i .i64 x1)) (.t x2))⟩
@[simp] def a2b (x0 x1 x2:Nat):AStep:=⟨some x0,(some (x1,false)),.op (.len true (.t x2))⟩
@[simp] def a2c (x0 x1 x2 x3:Nat):AStep:=⟨some x0,(some (x1,false)),.op (.load true x2 (.t x3))⟩
@[simp] def a2d (x0 x1:Nat) (x2:Int):AStep:=⟨some x0,none,.op (.idx (.t x1) (.c (.i .i64 x2)))⟩
@[simp] def a2e (x0 x1 x2:Nat):AStep:=⟨some x0,none,.op (.idx (.t x1) (.t x2))⟩
@[simp] def a2f (x0 x1:Nat):AStep:=⟨some x0,none,.op (.bin .neq (.t x1) (.c (.s [])))⟩
@[simp] def a2g (x0 x1 x2:Nat):AStep:=⟨some x0,none,.op (.new [.s [],.s [],.sl none x1 x2])⟩
@[simp] def a2h (x0 x1 x2 x3 x4:Nat):AStep:=⟨some x0,(some (x1,true)),.callv (.t x2) [.t x3,.t x4]⟩
@[simp] def a2i (x0 x1 x2:Nat) (x3:Int):AStep:=⟨some x0,(some (x1,true)),.op (.bin .geq (.t x2) (.c (.i .i64 x3)))⟩
@[simp] def a2j (x0 x1 x2 x3 x4 x5 x6 x7 x8 x9:Nat):AStep:=⟨some x0,(some (x1,true)),.op (.eqa false [x2,x3,x4,x5,x6,x7] (.t x8) (.t x9))⟩
@[simp] def a2k (x0:Nat):AStep:=⟨some x0,none,.op (.new [.s [],.s [],.s []])⟩
@[simp] def a2l (x0 x1 x2:Nat) (x3:UInt8):AStep:=⟨some x0,(some (x1,true)),.op (.bin .neq (.t x2) (.c (.s [x3])))⟩
@[simp] def a2m (x0 x1:Nat):AStep:=⟨some x0,none,.op (.conv .u64 (.t x1))⟩
@[simp] def a2n (x0 x1:Nat):AStep:=⟨some x0,none,.op (.conv .i64 (.t x1))⟩
@[simp] def a2o (x0 x1:Nat):AStep:=⟨some x0,none,.op (.conv .u8 (.t x1))⟩
@[simp] def a2p (x0:Nat):AStep:=⟨some x0,none,.op (.mov (.c (.nifc)))⟩
@[simp] def a2q (x0 x1 x2:Nat):AStep:=⟨some x0,(some (x1,true)),.op (.nilc (.t x2))⟩
@[simp] def a2r (x0 x1 x2:Nat) (x3:Int):AStep:=⟨some x0,(some (x1,true)),.op (.bin .lss (.t x2) (.c (.i .i64 x3)))⟩
@[simp] def a2s (x0 x1:Nat) (x2:Int):AStep:=⟨some x0,none,.op (.bin .geq (.t x1) (.c (.i .u8 x2)))⟩
@[simp] def a2t (x0 x1 x2:Nat) (x3:Int):AStep:=⟨some x0,(some (x1,true)),.op (.bin .leq (.t x2) (.c (.i .u8 x3)))⟩
@[simp] def a2u (x0 x1 x2:Nat) (x3:Int):AStep:=⟨some x0,(some (x1,true)),.op (.bin .sub (.t x2) (.c (.i .i64 x3)))⟩
@[simp] def a2v (x0 x1 x2:Nat) (x3:Int):AStep:=⟨some x0,(some (x1,true)),.op (.bin .gtr (.t x2) (.c (.i .i64 x3)))⟩
@[simp] def a2w (x0 x1 x2:Nat):AStep:=⟨some x0,(some (x1,true)),.op (.un .not (.t x2))⟩
@[simp] def a2x (x0 x1 x2:Nat) (x3:Int):AStep:=⟨some x0,(some (x1,false)),.op (.bin .neq (.t x2) (.c (.i .i64 x3)))⟩
@[simp] def a2y (x0 x1 x2:Nat):AStep:=⟨some x0,none,.op (.bin .geq (.t x1) (.t x2))⟩
@[simp] def a2z (x0 x1 x2:Nat) (x3:Int):AStep:=⟨some x0,(some (x1,false)),.op (.bin .geq (.t x2) (.c (.i .i64 x3)))⟩
@[simp] def a30 (x0:Nat) (x1:Int):AStep:=⟨some x0,none,.op (.new [.i .i64 x1,.s []])⟩
@[simp] def a31 (x0 x1:Nat) (x2:Int):AStep:=⟨some x0,none,.op (.bin .sub (.t x1) (.c (.i .i64 x2)))⟩
@[simp] def a32 (x0 x1 x2:Nat):AStep:=⟨some x0,none,.op (.bin .eql (.t x1) (.t x2))⟩
@[simp] def a33 (x0 x1 x2 x3:Nat):AStep:=⟨some x0,(some (x1,true)),.op (.bin .eql (.t x2) (.t x3))⟩
@[simp] def a34 (x0 x1 x2 x3:Nat):AStep:=⟨some x0,none,.op (.boxT x1 x2 (.t x3))⟩
@[simp] def a35 (x0 x1:Nat) (x2:Int):AStep:=⟨some x0,none,.op (.bin .xor (.t x1) (.c (.i .u32 x2)))⟩
@[simp] def a36 (x0 x1 x2 x3:Nat):AStep:=⟨some x0,(some (x1,true)),.op (.bin .lss (.t x2) (.t x3))⟩
@[simp] def a38 (x0 x1 x2:Nat):AStep:=⟨some x0,(some (x1,true)),.op (.len false (.t x2))⟩
def y8y:FuncId:=17
def y5z:FuncId:=18
def y76:FuncId:=19
def y8x:FuncId:=7
def y75:FuncId:=114
def ydo:FuncId:=167
def y81:FuncId:=113
def y7o:FuncId:=57
def y7g:FuncId:=115
def ya1:FuncId:=201
def ygp:FuncId:=230
def ybk:FuncId:=220
def y80:FuncId:=202
def yc7:FuncId:=177
def y62:FuncId:=203
def y8n:FuncId:=178
def ydp:FuncId:=179
def y7i:FuncId:=128
def yd0:FuncId:=196
def y5u:FuncId:=168
def y7l:FuncId:=169
def y4y:FuncId:=197
def y46:FuncId:=170
def y7f:FuncId:=116
def y5f:FuncId:=198
def y40:FuncId:=171
def y7z:FuncId:=117
def y7t:FuncId:=118
def y6r:FuncId:=119
def y8h:FuncId:=120
def y7h:FuncId:=121
def y6b:FuncId:=70
def yao:FuncId:=172
def y79:FuncId:=228
def y66:FuncId:=218
def ybh:FuncId:=199
def y8g:FuncId:=173
def y9a:FuncId:=122
def y8p:FuncId:=200
def y7p:FuncId:=175
def y5c:FuncId:=176
def yc8:FuncId:=174
def y74:FuncId:=123
def yap:FuncId:=58
def y70:FuncId:=61
def y4s:FuncId:=124
def y4l:FuncId:=60
def y6z:FuncId:=63
def y50:FuncId:=125
def y4p:FuncId:=62
def y49:FuncId:=59
def y8i:FuncId:=64
def y7n:FuncId:=66
def y4z:FuncId:=126
def y3x:FuncId:=65
def y5l:FuncId:=127
def y57:FuncId:=68
def y7m:FuncId:=67
def y8z:FuncId:=69
def y8j:FuncId:=20
def y4x:FuncId:=71
def y69:FuncId:=77
def y91:FuncId:=222
def y6c:FuncId:=223
def y4q:FuncId:=205
def y8m:FuncId:=180
def y6o:FuncId:=181
def y7k:FuncId:=142
def y9z:FuncId:=75
def y5v:FuncId:=143
def y5w:FuncId:=76
def y4b:FuncId:=24
def y38:FuncId:=135
def y2h:FuncId:=129
def y4w:FuncId:=130
def y4t:FuncId:=134
def y8s:FuncId:=133
def y5b:FuncId:=132
def y9b:FuncId:=131
def y5a:FuncId:=137
def y9l:FuncId:=136
def y59:FuncId:=139
def y9c:FuncId:=138
def y5m:FuncId:=72
def y5j:FuncId:=207
def y3y:FuncId:=206
def y5x:FuncId:=182
def ybi:FuncId:=183
def y6f:FuncId:=140
def y60:FuncId:=185
def y4m:FuncId:=184
def y5n:FuncId:=141
def y63:FuncId:=73
def y97:FuncId:=21
def yfw:FuncId:=22
def y5i:FuncId:=74
def yb4:FuncId:=80
def y6l:FuncId:=27
def yar:FuncId:=23
def y9q:FuncId:=78
def y5h:FuncId:=79
def y6k:FuncId:=26
def y90:FuncId:=25
def y8o:FuncId:=145
def ya3:FuncId:=144
def yi0:FuncId:=81
def ycq:FuncId:=28
def y83:FuncId:=8
def yec:FuncId:=34
def y51:FuncId:=165
def y52:FuncId:=110
def y88:FuncId:=53
def yae:FuncId:=54
def y7s:FuncId:=166
def y6m:FuncId:=111
def y6q:FuncId:=112
def y2q:FuncId:=55
def y3m:FuncId:=85
def y4k:FuncId:=88
def ya0:FuncId:=56
def y9d:FuncId:=149
def y77:FuncId:=151
def y6n:FuncId:=87
def yd9:FuncId:=150
def yda:FuncId:=86
def yaq:FuncId:=35
def y4a:FuncId:=152
def yas:FuncId:=153
def y28:FuncId:=89
def y54:FuncId:=90
def y6p:FuncId:=155
def y8a:FuncId:=154
def y61:FuncId:=92
def y8k:FuncId:=91
def y5e:FuncId:=94
def y8r:FuncId:=93
def y71:FuncId:=96
def y8l:FuncId:=95
def ybj:FuncId:=36
def ya2:FuncId:=37
def y84:FuncId:=11
def y8w:FuncId:=10
def y6e:FuncId:=5
def y0.r0:jI:=[a13 2 0,am 4]
def y0.r1:jI:=[ae 12 0 2,ac 13 1 12,ap 14 13,ab 15 1,a29 16 14 15,ab 17 16,a15 18 17 1 2,a16 19 17 1 18,a1p 20 17 19,a17 21 17 1,⟨some 22,(some (17,false)),.op (.bin .gtr (.t 20) (.t 21))⟩,a10 23 17 22,ab 24 23,a15 25 24 2 2,a16 26 24 1 25,a1p 27 24 26,a17 28 24 1,⟨some 29,(some (24,false)),.op (.bin .gtr (.t 27) (.t 28))⟩,a10 30 24 29]
def y0.r2:jI:=[a1b 4]
def y0.r3:jI:=[af 5 0]
def y0.r4:jI:=[af 6 0]
def y0.r5:jI:=[ab 31 6,ae 32 0 2,ac 33 1 32,ap 34 33,aq 35 31 34]
def y0.r6:jI:=[ab 38 5,ae 39 0 2,ac 40 1 39,ab 41 6,av 42 3 40 41,ae 43 0 42,ac 44 1 43,az 45 44,a19 46 38 45,ae 47 0 2,ac 48 1 47,ab 49 6,av 50 3 48 49,ae 51 1 50,ac 52 1 51,az 53 52,a19 54 46 53,ae 55 0 2,ac 56 1 55,ab 57 6,av 58 3 56 57,ae 59 2 58,ac 60 1 59,ap 61 60,a2a 62 10 61,a19 63 54 62,ab 5 63]
def y0.r7:jI:=[af 7 0]
def y0.r8:jI:=[ab 64 7,ae 65 0 2,ac 66 1 65,ab 67 6,av 68 3 66 67,ae 69 2 68,ac 70 1 69,ap 71 70,aq 72 64 71,ab 73 72,aj 74 73 7,a2r 75 73 74 100,an 76 73 75]
def y0.r9:jI:=[ab 79 5,ae 80 0 2,ac 81 1 80,ab 82 6,av 83 3 81 82,ae 84 2 83,ac 85 1 84,ab 86 7,av 87 2 85 86,ae 88 1 87,ac 89 1 88,az 90 89,a19 91 79 90,ab 5 91]
def y0.r10:jI:=[ab 77 7,ar 78 77 1,ab 7 78]
def y0.l1:ACode:=.seq (jJ [2,5,6,7,76] y0.r8 (.post [2,5,6,7] (.cond (.t 76) (.skip) (.exit 2)))) (.seq (.post [2,5,6,7] (.block 3 (jK [2,5,6,7] y0.r9))) (jK [2,5,6,7] y0.r10))
def y0.r11:jI:=[ab 92 5,a18 93 92 30000]
def y0.r12:jI:=[a1b 4]
def y0.r13:jI:=[ab 36 6,ar 37 36 1,ab 6 37]
def y0.l0:ACode:=.seq (jJ [2,5,6,35] y0.r5 (.post [2,5,6] (.cond (.t 35) (.skip) (.exit 0)))) (.seq (.post [2,5,6] (.block 1 (.seq (.post [2,5,6] (.draw [0,0,2,0,14,30,62,126,255,0,512,0,3584,7680,15872,32256,65535,0,131072,0,917504,1966080,4063232,8257536,16646144,33554431,67108863] y0.r6)) (.seq (jJ [2,5,6,7] y0.r7 (.post [2,5,6] (.block 2 (.loop y0.l1)))) (jJ [2,5,6,93] y0.r11 (.post [2,5,6] (.cond (.t 93) (jJ [4] y0.r12 (.ret)) (.skip)))))))) (jK [2,5,6] y0.r13))
def y0.r14:jI:=[af 8 0]
def y0.r15:jI:=[ab 94 8,ae 95 1 2,ac 96 1 95,ap 97 96,aq 98 94 97]
def y0.r16:jI:=[ab 101 5,ae 102 1 2,ac 103 1 102,ab 104 8,av 105 3 103 104,ae 106 0 105,ac 107 1 106,az 108 107,a19 109 101 108,ae 110 1 2,ac 111 1 110,ab 112 8,av 113 3 111 112,ae 114 1 113,ac 115 1 114,az 116 115,a19 117 109 116,ae 118 1 2,ac 119 1 118,ab 120 8,av 121 3 119 120,ae 122 2 121,ac 123 1 122,az 124 123,a19 125 117 124,ab 5 125]
def y0.r17:jI:=[ab 126 5,a18 127 126 30000]
def y0.r18:jI:=[a1b 4]
def y0.r19:jI:=[ab 99 8,ar 100 99 1,ab 8 100]
def y0.l2:ACode:=.seq (jJ [2,5,8,98] y0.r15 (.post [2,5,8] (.cond (.t 98) (.skip) (.exit 4)))) (.seq (.post [2,5,8] (.block 5 (.seq (.post [2,5,8] (.draw [0,0,2,0,14,30,62,126,255,0,512,0,3584,7680,15872,32256,65535,0,131072,0,917504,1966080,4063232,8257536,16777215,33554431] y0.r16)) (jJ [2,5,8,127] y0.r17 (.post [2,5,8] (.cond (.t 127) (jJ [4] y0.r18 (.ret)) (.skip))))))) (jK [2,5,8] y0.r19))
def y0.r20:jI:=[af 9 0]
def y0.r21:jI:=[ab 128 9,ae 129 2 2,ac 130 1 129,ap 131 130,aq 132 128 131]
def y0.r22:jI:=[ae 135 2 2,ac 136 1 135,ab 137 9,av 138 6 136 137,ax 139 6 138,a1w 10 0 0 0 0,ai 6 10 139]
def y0.r23:jI:=[ab 140 5,ae 141 1 10,ac 142 1 141,az 143 142,a19 144 140 143,ae 145 2 10,ac 146 1 145,az 147 146,a19 148 144 147,ae 149 4 10,ac 150 1 149,az 151 150,a19 152 148 151,ae 153 5 10,ac 154 1 153,ap 155 154,a2a 156 10 155,a19 157 152 156,ab 5 157]
def y0.r24:jI:=[af 11 0]
def y0.r25:jI:=[ab 158 11,ae 159 5 10,ac 160 1 159,ap 161 160,aq 162 158 161,ab 163 162,aj 164 163 11,a2r 165 163 164 100,an 166 163 165]
def y0.r26:jI:=[ab 169 5,ae 170 5 10,ac 171 1 170,ab 172 11,av 173 1 171 172,ac 174 1 173,az 175 174,a19 176 169 175,ab 5 176]
def y0.r27:jI:=[ab 167 11,ar 168 167 1,ab 11 168]
def y0.l4:ACode:=.seq (jJ [2,5,9,10,11,166] y0.r25 (.post [2,5,9,10,11] (.cond (.t 166) (.skip) (.exit 8)))) (.seq (.post [2,5,9,10,11] (.block 9 (jK [2,5,9,10,11] y0.r26))) (jK [2,5,9,10,11] y0.r27))
def y0.r28:jI:=[ab 177 5,a18 178 177 60000]
def y0.r29:jI:=[a1b 4]
def y0.r30:jI:=[ab 133 9,ar 134 133 1,ab 9 134]
def y0.l3:ACode:=.seq (jJ [2,5,9,132] y0.r21 (.post [2,5,9] (.cond (.t 132) (.skip) (.exit 6)))) (.seq (.post [2,5,9] (.block 7 (jJ [2,5,9,10] y0.r22 (jJ [2,5,9,10] y0.r23 (.seq (jJ [2,5,9,10,11] y0.r24 (.post [2,5,9] (.block 8 (.loop y0.l4)))) (jJ [2,5,9,178] y0.r28 (.post [2,5,9] (.cond (.t 178) (jJ [4] y0.r29 (.ret)) (.skip))))))))) (jK [2,5,9] y0.r30))
def y0.r31:jI:=[am 4]
def y0:AFunc:=⟨179,[.t 4],jJ [1,2] y0.r0 (.seq (jJ [2,30] y0.r1 (.post [2] (.cond (.t 30) (jJ [4] y0.r2 (.ret)) (.skip)))) (jJ [2,5] y0.r3 (.seq (jJ [2,5,6] y0.r4 (.post [2,5] (.block 0 (.loop y0.l0)))) (.seq (jJ [2,5,8] y0.r14 (.post [2,5] (.block 4 (.loop y0.l2)))) (.seq (jJ [2,5,9] y0.r20 (.post [] (.block 6 (.loop y0.l3)))) (jJ [4] y0.r31 (.ret)))))))⟩
theorem y0.ok:y1o Tryz.prog Tryz.f17 y0=true:=by kernel_rfl
theorem y0.at:Tryz.prog.funcs[y8y]?=some Tryz.f17:=Tryz.func17
def y16.r0:jI:=[am 2]
def y16.r1:jI:=[af 3 0]
def y16.r2:jI:=[ab 4 3,ab 5 0,ap 6 5,aq 7 4 6]
def y16.r3:jI:=[ab 10 3,a1f 11 10 60,ab 12 11,a17 13 12 0,a17 14 12 3,⟨some 15,(some (12,false)),.op (.iad 1 (.t 13) (.t 14))⟩,a16 16 12 1 15,a2b 17 12 16,a1m 18 12 17 100,a10 19 12 18]
def y16.r4:jI:=[a1b 2]
def y16.r5:jI:=[ab 8 3,ar 9 8 1,ab 3 9]
def y16.l0:ACode:=.seq (jJ [0,3,7] y16.r2 (.post [0,3] (.cond (.t 7) (.skip) (.exit 0)))) (.seq (.post [0,3] (.block 1 (jJ [0,3,19] y16.r3 (.post [0,3] (.cond (.t 19) (jJ [2] y16.r4 (.ret)) (.skip)))))) (jK [0,3] y16.r5))
def y16.r6:jI:=[am 2]
def y16:AFunc:=⟨20,[.t 2],jJ [0] y16.r0 (.seq (jJ [0,3] y16.r1 (.post [] (.block 0 (.loop y16.l0)))) (jJ [2] y16.r6 (.ret)))⟩
theorem y16.ok:y1o Tryz.prog Tryz.f18 y16=true:=by kernel_rfl
theorem y16.at:Tryz.prog.funcs[y5z]?=some Tryz.f18:=Tryz.func18
def y19.r0:jI:=[am 2]
def y19.r1:jI:=[af 3 0]
def y19.r2:jI:=[ab 4 3,ab 5 0,ap 6 5,aq 7 4 6]
def y19.r3:jI:=[ab 10 0,ab 11 3,av 12 1 10 11,ac 13 1 12,az 14 13,a18 15 14 100]
def y19.r4:jI:=[a1b 2]
def y19.r5:jI:=[ab 8 3,ar 9 8 1,ab 3 9]
def y19.l0:ACode:=.seq (jJ [0,3,7] y19.r2 (.post [0,3] (.cond (.t 7) (.skip) (.exit 0)))) (.seq (.post [0,3] (.block 1 (jJ [0,3,15] y19.r3 (.post [0,3] (.cond (.t 15) (jJ [2] y19.r4 (.ret)) (.skip)))))) (jK [0,3] y19.r5))
def y19.r6:jI:=[am 2]
def y19:AFunc:=⟨16,[.t 2],jJ [0] y19.r0 (.seq (jJ [0,3] y19.r1 (.post [] (.block 0 (.loop y19.l0)))) (jJ [2] y19.r6 (.ret)))⟩
theorem y19.ok:y1o Tryz.prog Tryz.f19 y19=true:=by kernel_rfl
theorem y19.at:Tryz.prog.funcs[y76]?=some Tryz.f19:=Tryz.func19
def y3h.r0:jI:=[a13 1 0,am 2]
def y3h.r1:jI:=[ae 3 0 1,ac 4 1 3,az 5 4,a18 6 5 100,ab 7 6,a15 8 7 4 1,a2c 9 7 3 8,⟨some 10,(some (7,false)),.call y8y [.t 9,.c (.i .i64 80)]⟩,a10 11 7 10,ab 12 11,a15 13 12 1 1,a16 14 12 1 13,⟨some 15,(some (12,false)),.call y5z [.t 14]⟩,a10 16 12 15,ab 17 16,a15 18 17 2 1,a16 19 17 1 18,⟨some 20,(some (17,false)),.call y5z [.t 19]⟩,a10 21 17 20,ab 22 21,a15 23 22 3 1,a16 24 22 1 23,a1p 25 22 24,a1m 26 22 25 200,a10 27 22 26,ab 28 27,a15 29 28 3 1,a16 30 28 1 29,⟨some 31,(some (28,false)),.call y76 [.t 30]⟩,a10 32 28 31,ab 2 32]
def y3h:AFunc:=⟨33,[.t 2],jJ [1] y3h.r0 (jJ [2] y3h.r1 (.ret))⟩
theorem y3h.ok:y1o Tryz.prog Tryz.f7 y3h=true:=by kernel_rfl
theorem y3h.at:Tryz.prog.funcs[y8x]?=some Tryz.f7:=Tryz.func7
def y1w.r0:jI:=[af 2 0]
def y1w.r1:jI:=[af 3 2]
def y1w.r2:jI:=[ab 5 0,a2s 6 5 48,ab 7 6,aj 8 7 0,a2t 9 7 8 57,an 10 7 9,ab 4 10]
def y1w.r3:jI:=[ab 12 0,a2s 13 12 65,ab 14 13,aj 15 14 0,a2t 16 14 15 90,an 17 14 16,ab 11 17]
def y1w.r4:jI:=[ab 18 0,a2s 19 18 97,ab 20 19,aj 21 20 0,a2t 22 20 21 122,an 23 20 22,ab 11 23]
def y1w.r5:jI:=[ab 24 0,a1x 25 24 95,ab 11 25]
def y1w.r6:jI:=[af 3 1]
def y1w.r7:jI:=[ab 26 3,ab 2 26]
def y1w.r8:jI:=[af 2 0]
def y1w:AFunc:=⟨27,[.t 2],jJ [0] y1w.r0 (jJ [0,3] y1w.r1 (.seq (.post [] (.block 0 (.seq (.post [3] (.block 2 (.seq (.post [] (.block 1 (.seq (.seq (jJ [0,3,4] y1w.r2 (.post [0,3] (.cond (.t 4) (.exit 1) (.skip)))) (.seq (jJ [0,3,11] y1w.r3 (.post [3,11] (.cond (.t 11) (.skip) (jJ [0,3,11] y1w.r4 (.post [3,11] (.cond (.t 11) (.skip) (jK [3,11] y1w.r5))))))) (.post [] (.cond (.t 11) (.exit 2) (.skip))))) (.exit 0)))) (jK [3] y1w.r6)))) (.seq (jJ [2] y1w.r7 (.ret)) (.exit 0))))) (jJ [2] y1w.r8 (.ret))))⟩
theorem y1w.ok:y1o Tryz.prog Tryz.f114 y1w=true:=by kernel_rfl
theorem y1w.at:Tryz.prog.funcs[y75]?=some Tryz.f114:=Tryz.func114
def y18.r0:jI:=[aw 2,aw 3]
def y18.r1:jI:=[ab 7 0,a1y 8 7]
def y18.r2:jI:=[aw 2,aw 3]
def y18.r3:jI:=[af 4 1]
def y18.r4:jI:=[ab 9 0,a2d 10 9 0,⟨some 11,none,.call y75 [.t 10]⟩,a11 12 11 2]
def y18.r5:jI:=[ab 13 0,⟨some 14,none,.call ydo [.t 13,.c (.s [48,49,50,51,52,53,54,55,56,57])]⟩,ab 5 14]
def y18.r6:jI:=[ab 15 0,ab 16 0,az 17 16,ab 18 5,az 19 18,⟨some 20,none,.op (.bin .sub (.t 17) (.t 19))⟩,a1q 21 15 20,ab 22 5,ab 2 21,ab 3 22]
def y18.r7:jI:=[ab 23 0,az 24 23,af 25 0]
def y18.r8:jI:=[aq 26 25 24]
def y18.r9:jI:=[ab 27 25,ab 6 27]
def y18.r10:jI:=[ab 28 0,ab 29 6,a2e 30 28 29,⟨some 31,none,.call y75 [.t 30]⟩,ab 32 4,aq 33 31 32]
def y18.r11:jI:=[ab 34 0,ab 35 6,a1q 36 34 35,ab 37 0,ab 38 6,a1z 39 37 38,ab 2 36,ab 3 39]
def y18.r12:jI:=[ar 40 25 1,ab 25 40]
def y18.l0:ACode:=jJ [0,4,24,25,26] y18.r8 (.seq (.post [0,4,24,25] (.cond (.t 26) (.skip) (.exit 0))) (.seq (.post [0,4,24,25] (.block 1 (jJ [0,4,6,24,25] y18.r9 (jJ [0,4,6,24,25,33] y18.r10 (.post [0,4,24,25] (.cond (.t 33) (.seq (.post [2,3] (.draw [0,0,3,0,0,24,7,127] y18.r11)) (.ret)) (.skip))))))) (jK [0,4,24,25] y18.r12)))
def y18.r13:jI:=[ab 41 0,ab 2 41,aw 3]
def y18:AFunc:=⟨42,[.t 2,.t 3],jJ [0] y18.r0 (.seq (jJ [0,8] y18.r1 (.post [0] (.cond (.t 8) (jJ [2,3] y18.r2 (.ret)) (.skip)))) (jJ [0,4] y18.r3 (.seq (jJ [0,4,12] y18.r4 (.post [0,4] (.cond (.t 12) (jJ [0,5] y18.r5 (jJ [2,3] y18.r6 (.ret))) (.skip)))) (.seq (jJ [0,4,24,25] y18.r7 (.post [0] (.block 0 (.loop y18.l0)))) (jJ [2,3] y18.r13 (.ret))))))⟩
theorem y18.ok:y1o Tryz.prog Tryz.f113 y18=true:=by kernel_rfl
theorem y18.at:Tryz.prog.funcs[y81]?=some Tryz.f113:=Tryz.func113
def y3e.r0:jI:=[am 2]
def y3e.r1:jI:=[ab 6 0,⟨some 7,none,.call y81 [.t 6]⟩,ab 5 7,ah 8 0 5,ah 9 1 5,ab 3 8,ab 4 9]
def y3e.r2:jI:=[ab 10 3,a2f 11 10,ab 12 11,aj 13 12 4,⟨some 14,(some (12,true)),.op (.bin .eql (.t 13) (.c (.s [])))⟩,an 15 12 14,ab 16 15,aj 17 16 0,a1j 18 16 17,a1n 19 16 18 16,an 20 16 19,ab 21 20,aj 22 21 0,⟨some 23,(some (21,true)),.op (.idx (.t 22) (.c (.i .i64 0)))⟩,⟨some 24,(some (21,true)),.call y75 [.t 23]⟩,a1h 25 21 24 2,an 26 21 25,ab 2 26]
def y3e:AFunc:=⟨27,[.t 2],jJ [0] y3e.r0 (jJ [0,3,4] y3e.r1 (jJ [2] y3e.r2 (.ret)))⟩
theorem y3e.ok:y1o Tryz.prog Tryz.f57 y3e=true:=by kernel_rfl
theorem y3e.at:Tryz.prog.funcs[y7o]?=some Tryz.f57:=Tryz.func57
def ym.r0:jI:=[af 6 0]
def ym.r1:jI:=[ab 10 0,ap 11 10,af 12 0]
def ym.r2:jI:=[aq 13 12 11]
def ym.r3:jI:=[ab 14 12,av 15 3 10 12,ax 16 3 15,a2g 8 0 0,ab 7 14,ai 3 8 16]
def ym.r4:jI:=[ab 17 1,ax 18 3 8,a1c 19 17 18,ab 9 19]
def ym.r5:jI:=[ab 20 9,a11 21 20 0]
def ym.r6:jI:=[ab 22 9,ab 6 22]
def ym.r7:jI:=[ab 23 7,a18 24 23 0,ab 25 24,aj 26 25 2,aj 27 25 0,aj 28 25 7,a2u 29 25 28 1,a23 30 25 3 27 29,a1e 31 25 3 30,a1e 32 25 3 8,a2h 33 25 26 31 32,a2i 34 25 33 0,an 35 25 34]
def ym.r8:jI:=[af 6 13]
def ym.r9:jI:=[ar 36 12 1,ab 12 36]
def ym.l0:ACode:=jJ [0,1,2,10,11,12,13] ym.r2 (.seq (.post [0,1,2,10,11,12] (.cond (.t 13) (.skip) (.exit 0))) (.seq (.post [0,1,2,10,11,12] (.block 1 (jJ [0,1,2,7,8,10,11,12] ym.r3 (.seq (jJ [0,1,2,7,8,9,10,11,12] ym.r4 (jJ [0,1,2,7,8,9,10,11,12,21] ym.r5 (.post [0,1,2,7,8,10,11,12] (.cond (.t 21) (jJ [6] ym.r6 (.ret)) (.skip))))) (.seq (.post [0,1,2,10,11,12,35] (.draw [0,1,3,7,7,7,39,119,247,7,1023,2047,4095] ym.r7)) (.post [0,1,2,10,11,12] (.cond (.t 35) (jJ [6] ym.r8 (.ret)) (.skip)))))))) (jK [0,1,2,10,11,12] ym.r9)))
def ym.r10:jI:=[af 6 0]
def ym:AFunc:=⟨37,[.t 6],jJ [0,1,2] ym.r0 (.seq (jJ [0,1,2,10,11,12] ym.r1 (.post [] (.block 0 (.loop ym.l0)))) (jJ [6] ym.r10 (.ret)))⟩
theorem ym.ok:y1o Tryz.prog Tryz.f115 ym=true:=by kernel_rfl
theorem ym.at:Tryz.prog.funcs[y7g]?=some Tryz.f115:=Tryz.func115
def y11.r0:jI:=[af 2 0,af 3 0]
def y11.r1:jI:=[ab 7 0,a1y 8 7]
def y11.r2:jI:=[af 2 0,af 3 1]
def y11.r3:jI:=[ab 9 0,az 10 9,af 11 0]
def y11.r4:jI:=[aq 12 11 10]
def y11.r5:jI:=[ab 13 11,ab 4 13]
def y11.r6:jI:=[ab 14 0,ab 15 4,a2e 16 14 15,⟨some 17,none,.call y75 [.t 16]⟩,a11 18 17 1]
def y11.r7:jI:=[af 2 0,af 3 3]
def y11.r8:jI:=[ar 19 11 1,ab 11 19]
def y11.l0:ACode:=jJ [0,10,11,12] y11.r4 (.seq (.post [0,10,11] (.cond (.t 12) (.skip) (.exit 0))) (.seq (.post [0,10,11] (.block 1 (jJ [0,4,10,11] y11.r5 (jJ [0,10,11,18] y11.r6 (.post [0,10,11] (.cond (.t 18) (jJ [2,3] y11.r7 (.ret)) (.skip))))))) (jK [0,10,11] y11.r8)))
def y11.r9:jI:=[ab 21 0,a2d 22 21 0,a1x 23 22 48,ab 24 23,aj 25 24 0,a1j 26 24 25,a2v 27 24 26 1,an 28 24 27,ab 20 28]
def y11.r10:jI:=[af 2 0,af 3 3]
def y11.r11:jI:=[ab 30 0,az 31 30,a18 32 31 9,ab 29 32]
def y11.r12:jI:=[af 2 0,af 3 2]
def y11.r13:jI:=[ab 34 0,⟨some 35,none,.call ygp [.t 34]⟩,ab 33 35,ah 36 0 33,ah 37 1 33,ab 5 36,ab 6 37]
def y11.r14:jI:=[ab 38 6,⟨some 39,none,.op (.eqk .ifn true (.t 38) (.c (.nifc)))⟩,ab 40 39,a17 41 40 5,a1m 42 40 41 268435456,a10 43 40 42]
def y11.r15:jI:=[af 2 0,af 3 2]
def y11.r16:jI:=[ab 44 5,ab 2 44,af 3 0]
def y11:AFunc:=⟨45,[.t 2,.t 3],jJ [0] y11.r0 (.seq (jJ [0,8] y11.r1 (.post [0] (.cond (.t 8) (jJ [2,3] y11.r2 (.ret)) (.skip)))) (.seq (jJ [0,10,11] y11.r3 (.post [0] (.block 0 (.loop y11.l0)))) (.seq (.post [0] (.block 2 (jJ [0,20] y11.r9 (.post [0] (.cond (.t 20) (jJ [2,3] y11.r10 (.ret)) (jJ [0,29] y11.r11 (.post [0] (.cond (.t 29) (jJ [2,3] y11.r12 (.ret)) (.skip))))))))) (jJ [5,6] y11.r13 (.seq (jJ [5,43] y11.r14 (.post [5] (.cond (.t 43) (jJ [2,3] y11.r15 (.ret)) (.skip)))) (jJ [2,3] y11.r16 (.ret)))))))⟩
theorem y11.ok:y1o Tryz.prog Tryz.f220 y11=true:=by kernel_rfl
theorem y11.at:Tryz.prog.funcs[ybk]?=some Tryz.f220:=Tryz.func220
def y3w.r0:jI:=[af 2 0,am 3]
def y3w.r1:jI:=[ab 7 0,⟨some 8,none,.call ybk [.t 7]⟩,ab 6 8,ah 9 0 6,ah 10 1 6,ab 4 9,ab 5 10]
def y3w.r2:jI:=[ab 11 4,ab 12 5,ay 13 12 0,ab 2 11,ab 3 13]
def y3w:AFunc:=⟨14,[.t 2,.t 3],jJ [0] y3w.r0 (jJ [4,5] y3w.r1 (jJ [2,3] y3w.r2 (.ret)))⟩
theorem y3w.ok:y1o Tryz.prog Tryz.f202 y3w=true:=by kernel_rfl
theorem y3w.at:Tryz.prog.funcs[y80]?=some Tryz.f202:=Tryz.func202
def yb.r0:jI:=[a1i 2 0 0 0 0,am 3]
def yb.r1:jI:=[⟨some 9,none,.op (.build [.i .i64 0,.s [],.i .i64 0,.s [],.i .i64 0,.i .i64 0] [(5,1,.c (.i .i64 (-1)))])⟩,a1i 4 0 0 0 0,ai 6 4 9]
def yb.r2:jI:=[a1b 5]
def yb.r3:jI:=[ab 10 0,⟨some 11,none,.call ya1 [.t 10,.c (.i .u8 43)]⟩,ab 6 11]
def yb.r4:jI:=[ab 12 6,a1f 13 12 0]
def yb.r5:jI:=[ab 15 0,ab 16 6,ar 17 16 1,a1z 18 15 17,⟨some 19,none,.call y80 [.t 18]⟩,ab 14 19,ah 20 0 14,ah 21 1 14,ae 22 5 4,ai 1 22 20,ab 5 21]
def yb.r6:jI:=[ab 23 5,a1a 24 23]
def yb.r7:jI:=[ax 25 6 4,ai 6 2 25,am 3]
def yb.r8:jI:=[ab 26 0,ab 27 6,a1q 28 26 27,ab 0 28]
def yb.r9:jI:=[ab 30 0,⟨some 31,none,.call y81 [.t 30]⟩,ab 29 31,ah 32 0 29,ah 33 1 29,ab 7 32,ab 8 33]
def yb.r10:jI:=[ab 34 8,a1y 35 34]
def yb.r11:jI:=[ab 36 7,ae 37 0 4,a24 1 37 5,ae 38 3 4,ai 1 38 36]
def yb.r12:jI:=[ax 39 6 4,ai 6 2 39,a1b 3]
def yb.r13:jI:=[ab 40 7,ae 41 1 4,ai 1 41 40]
def yb.r14:jI:=[ab 42 8,a2d 43 42 0,a1x 44 43 126]
def yb.r15:jI:=[ab 46 8,⟨some 47,none,.op (.sls (.t 46) (some (.c (.i .i64 1))) none)⟩,⟨some 48,none,.call y81 [.t 47]⟩,ab 45 48,ah 49 0 45,ah 50 1 45,ab 7 49,ab 8 50]
def yb.r16:jI:=[ab 52 7,⟨some 53,none,.call y80 [.t 52]⟩,ab 51 53,ah 54 0 51,ah 55 1 51,ae 56 2 4,ai 1 56 54,ab 5 55]
def yb.r17:jI:=[ab 57 5,a1a 58 57,ab 59 58,a17 60 59 8,⟨some 61,(some (59,false)),.op (.bin .eql (.t 60) (.c (.s [])))⟩,a10 62 59 61]
def yb.r18:jI:=[ax 63 6 4,ai 6 2 63,am 3]
def yb.r19:jI:=[ab 64 8,a2d 65 64 0,⟨some 66,none,.call ya1 [.c (.s [32,46,36,64,40,32,37,35]),.t 65]⟩,ae 67 0 4,ai 1 67 66]
def yb.r20:jI:=[ab 68 8,⟨some 69,none,.op (.sls (.t 68) (some (.c (.i .i64 1))) none)⟩,ab 8 69]
def yb.r21:jI:=[ae 70 0 4,ac 71 1 70]
def yb.r22:jI:=[ay 73 71 1,ab 72 73]
def yb.r23:jI:=[ay 74 71 6,ab 72 74]
def yb.r24:jI:=[ab 75 8,ae 76 3 4,ai 1 76 75]
def yb.r25:jI:=[ay 78 71 4,ab 77 78]
def yb.r26:jI:=[ax 79 6 4,ab 80 8,⟨some 81,none,.op (.bin .eql (.t 80) (.c (.s [41])))⟩,ai 6 2 79,ab 3 81]
def yb.r27:jI:=[ay 83 71 2,ab 82 83]
def yb.r28:jI:=[ay 84 71 3,ab 82 84]
def yb.r29:jI:=[ay 85 71 7,ab 82 85]
def yb.r30:jI:=[ab 87 8,⟨some 88,none,.call y80 [.t 87]⟩,ab 86 88,ah 89 0 86,ah 90 1 86,ae 91 4 4,ai 1 91 89,ab 5 90]
def yb.r31:jI:=[am 5]
def yb.r32:jI:=[ax 92 6 4,ab 93 5,ai 6 2 92,ab 3 93]
def yb:AFunc:=⟨94,[.cell 2 true 6,.t 3],jJ [0,2] yb.r0 (jJ [0,2,4] yb.r1 (jJ [0,2,4,5] yb.r2 (.seq (jJ [0,2,4,5,6] yb.r3 (jJ [0,2,4,5,6,13] yb.r4 (.post [0,2,4,5] (.cond (.t 13) (.seq (jJ [0,2,4,5,6] yb.r5 (jJ [0,2,4,5,6,24] yb.r6 (.post [0,2,4,5,6] (.cond (.t 24) (jJ [2,3] yb.r7 (.ret)) (.skip))))) (jK [0,2,4,5] yb.r8)) (.skip))))) (jJ [2,4,5,7,8] yb.r9 (.seq (jJ [2,4,5,7,8,35] yb.r10 (.post [2,4,5,7,8] (.cond (.t 35) (jJ [2,4] yb.r11 (jJ [2,3] yb.r12 (.ret))) (.skip)))) (jJ [2,4,5,8] yb.r13 (.seq (jJ [2,4,5,8,44] yb.r14 (.post [2,4,5,8] (.cond (.t 44) (jJ [2,4,7,8] yb.r15 (jJ [2,4,5,8] yb.r16 (jJ [2,4,5,8,62] yb.r17 (.post [2,4,5,8] (.cond (.t 62) (jJ [2,3] yb.r18 (.ret)) (.skip)))))) (.skip)))) (jJ [2,4,5,8] yb.r19 (.seq (jJ [2,4,5,8] yb.r20 (jJ [2,4,5,8,71] yb.r21 (.post [2,4,5] (.block 0 (.seq (jJ [2,4,5,8,71,72] yb.r22 (.post [2,4,5,8,71,72] (.cond (.t 72) (.skip) (jK [2,4,5,8,71,72] yb.r23)))) (.post [2,4,5] (.cond (.t 72) (jK [2,4,5] yb.r24) (jJ [2,4,8,71,77] yb.r25 (.post [2,4,5] (.cond (.t 77) (jJ [2,3] yb.r26 (.ret)) (.seq (jJ [2,4,8,71,82] yb.r27 (.post [2,4,8,82] (.cond (.t 82) (.skip) (jJ [2,4,8,71,82] yb.r28 (.post [2,4,8,82] (.cond (.t 82) (.skip) (jK [2,4,8,82] yb.r29))))))) (.post [2,4,5] (.cond (.t 82) (jK [2,4,5] yb.r30) (jK [2,4,5] yb.r31)))))))))))))) (jJ [2,3] yb.r32 (.ret)))))))))))⟩
theorem yb.ok:y1o Tryz.prog Tryz.f177 yb=true:=by kernel_rfl
theorem yb.at:Tryz.prog.funcs[yc7]?=some Tryz.f177:=Tryz.func177
def y2v.r0:jI:=[a13 1 0,am 2]
def y2v.r1:jI:=[ae 3 5 1,ac 4 1 3,a1f 5 4 (-1),ab 6 5,a14 7 6 5 1,a12 8 6 1 7,a1n 9 6 8 268435456,an 10 6 9,ab 2 10]
def y2v:AFunc:=⟨11,[.t 2],jJ [1] y2v.r0 (jJ [2] y2v.r1 (.ret))⟩
theorem y2v.ok:y1o Tryz.prog Tryz.f203 y2v=true:=by kernel_rfl
theorem y2v.at:Tryz.prog.funcs[y62]?=some Tryz.f203:=Tryz.func203
def y4.r0:jI:=[a13 1 0,am 2]
def y4.r1:jI:=[ax 5 6 1,a1i 3 0 0 0 0,ai 6 3 5]
def y4.r2:jI:=[ae 6 0 3,a24 1 6 0,ae 7 1 3,⟨none,none,.op (.store 1 (.t 7) (.c (.s [])))⟩,ae 8 2 3,a24 1 8 0]
def y4.r3:jI:=[ae 9 0 1,ac 10 1 9,a11 11 10 5,ab 12 11,a14 13 12 1 1,a12 14 12 1 13,⟨some 15,(some (12,true)),.call y7o [.t 14]⟩,a2w 16 12 15,aj 17 12 16,a15 18 17 2 1,a16 19 17 1 18,⟨some 20,(some (17,false)),.op (.bin .lss (.t 19) (.c (.i .i64 0)))⟩,a1o 21 12 17 20,aj 22 12 21,a15 23 22 2 1,a16 24 22 1 23,a1m 25 22 24 268435456,a1o 26 12 22 25,an 27 12 26]
def y4.r4:jI:=[am 2]
def y4.r5:jI:=[af 4 0]
def y4.r6:jI:=[ae 28 0 1,ac 29 1 28]
def y4.r7:jI:=[ay 31 29 5,ab 30 31]
def y4.r8:jI:=[ay 33 29 6,ab 32 33]
def y4.r9:jI:=[ay 35 29 1,ab 34 35]
def y4.r10:jI:=[ay 37 29 7,ab 36 37]
def y4.r11:jI:=[ay 39 29 4,ab 38 39]
def y4.r12:jI:=[ay 41 29 3,ab 40 41]
def y4.r13:jI:=[ay 43 29 2,ab 42 43]
def y4.r14:jI:=[ae 44 1 1,ac 45 1 44,a2f 46 45,ab 47 46,a15 48 47 2 1,a16 49 47 1 48,a2x 50 47 49 0,a10 51 47 50]
def y4.r15:jI:=[am 2]
def y4.r16:jI:=[ae 52 3 1,ac 53 1 52,⟨some 54,none,.call y7o [.t 53]⟩,ab 55 54,a1e 56 55 6 3,a14 57 55 3 1,a12 58 55 1 57,a14 59 55 5 1,a12 60 55 1 59,⟨some 61,(some (55,true)),.op (.build [.i .i64 0,.s [],.i .i64 0,.s [],.i .i64 0,.i .i64 0] [(3,1,.t 58),(5,1,.t 60)])⟩,a2j 62 55 0 1 0 1 0 0 56 61,an 63 55 62,ab 64 63,a1e 65 64 6 1,⟨some 66,(some (64,true)),.call y62 [.t 65]⟩,an 67 64 66,ab 2 67]
def y4.r17:jI:=[ae 68 3 1,ac 69 1 68,⟨some 70,none,.call y7o [.t 69]⟩,ab 71 70,a1e 72 71 6 3,a14 73 71 3 1,a12 74 71 1 73,⟨some 75,(some (71,true)),.op (.build [.i .i64 0,.s [],.i .i64 0,.s [],.i .i64 0,.i .i64 0] [(3,1,.t 74),(5,1,.c (.i .i64 (-1)))])⟩,a2j 76 71 0 1 0 1 0 0 72 75,an 77 71 76,ab 2 77]
def y4.r18:jI:=[ae 78 4 1,ac 79 1 78,a1f 80 79 1,ab 81 80,a14 82 81 4 1,a12 83 81 1 82,a1n 84 81 83 268435456,an 85 81 84,ab 86 85,a1e 87 86 6 3,a14 88 86 4 1,a12 89 86 1 88,a14 90 86 5 1,a12 91 86 1 90,⟨some 92,(some (86,true)),.op (.build [.i .i64 0,.s [],.i .i64 0,.s [],.i .i64 0,.i .i64 0] [(4,1,.t 89),(5,1,.t 91)])⟩,a2j 93 86 0 1 0 1 0 0 87 92,an 94 86 93,ab 95 94,a1e 96 95 6 1,⟨some 97,(some (95,true)),.call y62 [.t 96]⟩,an 98 95 97,ab 2 98]
def y4.r19:jI:=[ax 99 6 3,⟨some 100,none,.op (.build [.i .i64 0,.s [],.i .i64 0,.s [],.i .i64 0,.i .i64 0] [(5,1,.c (.i .i64 (-1)))])⟩,⟨some 101,none,.op (.eqa false [0,1,0,1,0,0] (.t 99) (.t 100))⟩,ab 2 101]
def y4.r20:jI:=[af 4 1]
def y4.r21:jI:=[ae 102 4 1,ac 103 1 102,ab 104 4,a2y 105 103 104,ab 106 105,a14 107 106 4 1,a12 108 106 1 107,a1n 109 106 108 268435456,an 110 106 109,ab 111 110,a1e 112 111 6 3,a14 113 111 4 1,a12 114 111 1 113,⟨some 115,(some (111,true)),.op (.build [.i .i64 0,.s [],.i .i64 0,.s [],.i .i64 0,.i .i64 0] [(4,1,.t 114),(5,1,.c (.i .i64 (-1)))])⟩,a2j 116 111 0 1 0 1 0 0 112 115,an 117 111 116,ab 2 117]
def y4.r22:jI:=[am 2]
def y4:AFunc:=⟨118,[.t 2],jJ [1] y4.r0 (jJ [1,3] y4.r1 (jJ [1,3] y4.r2 (.seq (jJ [1,3,27] y4.r3 (.post [1,3] (.cond (.t 27) (jJ [2] y4.r4 (.ret)) (.skip)))) (jJ [1,3,4] y4.r5 (.seq (jJ [1,3,4,29] y4.r6 (.post [] (.block 0 (.seq (.post [1,3,4] (.block 7 (.seq (.post [1,3] (.block 6 (.seq (.post [3] (.block 5 (.seq (.post [1,3] (.block 4 (.seq (.post [1,3] (.block 3 (.seq (.post [1,3] (.block 2 (.seq (.post [1,3] (.block 1 (.seq (.seq (jJ [1,3,4,29,30] y4.r7 (.post [1,3,4,29] (.cond (.t 30) (.exit 1) (.skip)))) (.seq (jJ [1,3,4,29,32] y4.r8 (.post [1,3,4,29] (.cond (.t 32) (.exit 2) (.skip)))) (.seq (jJ [1,3,4,29,34] y4.r9 (.post [1,3,4,29] (.cond (.t 34) (.exit 3) (.skip)))) (.seq (jJ [1,3,4,29,36] y4.r10 (.post [1,3,4,29] (.cond (.t 36) (.exit 4) (.skip)))) (.seq (jJ [1,3,4,29,38] y4.r11 (.post [1,3,4,29] (.cond (.t 38) (.exit 5) (.skip)))) (.seq (jJ [1,3,4,29,40] y4.r12 (.post [1,3,4,29] (.cond (.t 40) (.exit 6) (.skip)))) (jJ [1,3,4,42] y4.r13 (.post [] (.cond (.t 42) (.exit 7) (.skip)))))))))) (.exit 0)))) (jJ [1,3,51] y4.r14 (.post [1,3] (.cond (.t 51) (jJ [2] y4.r15 (.ret)) (.skip))))))) (.seq (jJ [2] y4.r16 (.ret)) (.exit 0))))) (.seq (jJ [2] y4.r17 (.ret)) (.exit 0))))) (.seq (jJ [2] y4.r18 (.ret)) (.exit 0))))) (.seq (jJ [2] y4.r19 (.ret)) (.exit 0))))) (jK [1,3,4] y4.r20)))) (.seq (jJ [2] y4.r21 (.ret)) (.exit 0)))))) (jJ [2] y4.r22 (.ret)))))))⟩
theorem y4.ok:y1o Tryz.prog Tryz.f178 y4=true:=by kernel_rfl
theorem y4.at:Tryz.prog.funcs[y8n]?=some Tryz.f178:=Tryz.func178
def y36.r0:jI:=[a1i 2 0 0 0 0,af 3 0]
def y36.r1:jI:=[ab 7 0,⟨some 8,none,.call yc7 [.t 7]⟩,ab 6 8,ah 9 0 6,ah 10 1 6,a1i 4 0 0 0 0,ai 6 4 9,ab 5 10]
def y36.r2:jI:=[ab 11 5,a1a 12 11,ab 13 12,a2c 14 13 6 4,⟨some 15,(some (13,false)),.call y8n [.t 14]⟩,a1r 16 13 15,a10 17 13 16,ab 18 17,a2c 19 18 6 4,⟨some 20,(some (18,false)),.call ydp [.t 19]⟩,a17 21 18 0,⟨some 22,(some (18,false)),.op (.bin .neq (.t 20) (.t 21))⟩,a10 23 18 22]
def y36.r3:jI:=[⟨some 24,none,.op (.build [.i .i64 0,.s [],.i .i64 0,.s [],.i .i64 0,.i .i64 0] [])⟩,ai 6 2 24,af 3 11]
def y36.r4:jI:=[ax 25 6 4,ai 6 2 25,af 3 0]
def y36:AFunc:=⟨26,[.cell 2 true 6,.t 3],jJ [0,2] y36.r0 (jJ [0,2,4,5] y36.r1 (.seq (jJ [2,4,23] y36.r2 (.post [2,4] (.cond (.t 23) (jJ [2,3] y36.r3 (.ret)) (.skip)))) (jJ [2,3] y36.r4 (.ret))))⟩
theorem y36.ok:y1o Tryz.prog Tryz.f128 y36=true:=by kernel_rfl
theorem y36.at:Tryz.prog.funcs[y7i]?=some Tryz.f128:=Tryz.func128
def y3a.r0:jI:=[am 4]
def y3a.r1:jI:=[ab 5 0,⟨some 6,none,.call yd0 [.t 5,.c (.s [105,112])]⟩,a1y 7 6,ab 8 7,aj 9 8 0,a1j 10 8 9,aj 11 8 1,⟨some 12,(some (8,true)),.op (.bin .leq (.t 10) (.t 11))⟩,an 13 8 12,ab 4 13]
def y3a:AFunc:=⟨14,[.t 4],jJ [0,1] y3a.r0 (jJ [4] y3a.r1 (.ret))⟩
theorem y3a.ok:y1o Tryz.prog Tryz.f168 y3a=true:=by kernel_rfl
theorem y3a.at:Tryz.prog.funcs[y5u]?=some Tryz.f168:=Tryz.func168
def y3j.r0:jI:=[am 2]
def y3j.r1:jI:=[ab 3 0,a2f 4 3,ab 5 4,aj 6 5 0,a1j 7 5 6,a1n 8 5 7 60,an 9 5 8,ab 2 9]
def y3j:AFunc:=⟨10,[.t 2],jJ [0] y3j.r0 (jJ [2] y3j.r1 (.ret))⟩
theorem y3j.ok:y1o Tryz.prog Tryz.f169 y3j=true:=by kernel_rfl
theorem y3j.at:Tryz.prog.funcs[y7l]?=some Tryz.f169:=Tryz.func169
def yg.r0:jI:=[a13 3 1,af 4 0]
def yg.r1:jI:=[ab 6 0,ap 7 6,af 8 0]
def yg.r2:jI:=[aq 9 8 7]
def yg.r3:jI:=[ab 10 8,ab 5 10]
def yg.r4:jI:=[ax 11 2 3,ab 12 0,ab 13 5,av 14 2 12 13,ax 15 2 14,⟨some 16,none,.op (.eqa false [0,1] (.t 11) (.t 15))⟩]
def yg.r5:jI:=[ab 17 5,ab 4 17]
def yg.r6:jI:=[ar 18 8 1,ab 8 18]
def yg.l0:ACode:=jJ [0,3,7,8,9] yg.r2 (.seq (.post [0,3,7,8] (.cond (.t 9) (.skip) (.exit 0))) (.seq (.post [0,3,7,8] (.block 1 (jJ [0,3,5,7,8] yg.r3 (.seq (.post [0,3,5,7,8,16] (.draw [0,0,0,6,14,31] yg.r4)) (.post [0,3,7,8] (.cond (.t 16) (jJ [4] yg.r5 (.ret)) (.skip))))))) (jK [0,3,7,8] yg.r6)))
def yg.r7:jI:=[af 4 (-1)]
def yg:AFunc:=⟨19,[.t 4],jJ [0,3] yg.r0 (.seq (jJ [0,3,7,8] yg.r1 (.post [] (.block 0 (.loop yg.l0)))) (jJ [4] yg.r7 (.ret)))⟩
theorem yg.ok:y1o Tryz.prog Tryz.f197 yg=true:=by kernel_rfl
theorem yg.at:Tryz.prog.funcs[y4y]?=some Tryz.f197:=Tryz.func197
def y1t.r0:jI:=[a13 3 1,am 4]
def y1t.r1:jI:=[ab 5 0,ax 6 2 3,⟨some 7,none,.call y4y [.t 5,.t 6]⟩,a1f 8 7 0,ab 4 8]
def y1t:AFunc:=⟨9,[.t 4],jJ [0,3] y1t.r0 (jJ [4] y1t.r1 (.ret))⟩
theorem y1t.ok:y1o Tryz.prog Tryz.f170 y1t=true:=by kernel_rfl
theorem y1t.at:Tryz.prog.funcs[y46]?=some Tryz.f170:=Tryz.func170
def yt.r0:jI:=[a13 1 0,af 2 0]
def yt.r1:jI:=[ae 9 0 1,ac 10 1 9,⟨some 11,none,.call y7i [.t 10]⟩,ab 8 11,ah 12 0 8,ah 13 1 8,a1i 3 0 0 0 0,ai 6 3 12,ab 4 13]
def yt.r2:jI:=[ab 15 4,a11 16 15 0,ab 17 16,a15 18 17 0 3,a16 19 17 1 18,⟨some 20,(some (17,false)),.op (.bin .lss (.t 19) (.c (.i .i64 5)))⟩,a10 21 17 20,ab 22 21,a15 23 22 5 3,a16 24 22 1 23,a2z 25 22 24 0,a10 26 22 25,ab 14 26]
def yt.r3:jI:=[af 2 11]
def yt.r4:jI:=[ae 28 1 1,ac 29 1 28,a1y 30 29,ab 31 30,a15 32 31 1 1,a16 33 31 1 32,⟨some 34,(some (31,false)),.call y5u [.t 33,.c (.i .i64 64)]⟩,a1r 35 31 34,a10 36 31 35,ab 27 36]
def yt.r5:jI:=[af 2 5]
def yt.r6:jI:=[af 5 0]
def yt.r7:jI:=[ae 37 2 1,ac 38 1 37,ap 39 38,af 40 0]
def yt.r8:jI:=[aq 41 40 39]
def yt.r9:jI:=[ab 42 40,av 43 2 38 40,ax 44 2 43,a30 7 0,ab 6 42,ai 2 7 44]
def yt.r10:jI:=[ae 45 0 7,ac 46 1 45,ab 47 5,aq 48 46 47,ab 49 48,a15 50 49 0 7,a16 51 49 1 50,a15 52 49 1 1,a16 53 49 1 52,a2b 54 49 53,⟨some 55,(some (49,false)),.op (.bin .geq (.t 51) (.t 54))⟩,a10 56 49 55,ab 57 56,a15 58 57 1 7,a16 59 57 1 58,⟨some 60,(some (57,false)),.call y7l [.t 59]⟩,a1r 61 57 60,a10 62 57 61,ab 63 62,a15 64 63 2 1,a16 65 63 1 64,a17 66 63 6,⟨some 67,(some (63,false)),.op (.slc 2 (.t 65) none (some (.t 66)))⟩,a2c 68 63 2 7,⟨some 69,(some (63,false)),.call y46 [.t 67,.t 68]⟩,a10 70 63 69]
def yt.r11:jI:=[af 2 3]
def yt.r12:jI:=[ae 71 0 7,ac 72 1 71,ab 5 72]
def yt.r13:jI:=[ar 73 40 1,ab 40 73]
def yt.l0:ACode:=jJ [1,5,38,39,40,41] yt.r8 (.seq (.post [1,5,38,39,40] (.cond (.t 41) (.skip) (.exit 1))) (.seq (.post [1,5,38,39,40] (.block 2 (jJ [1,5,6,7,38,39,40] yt.r9 (.seq (.seq (.post [1,7,38,39,40,70] (.draw [0,1,0,7,15,31,63,31,159,415,1023,2047,4095,8191,16383,32767,65535,131071,262143,524287,1048575,524287,4194303,524287,16777215,33554431] yt.r10)) (.post [1,7,38,39,40] (.cond (.t 70) (jJ [2] yt.r11 (.ret)) (.skip)))) (jK [1,5,38,39,40] yt.r12))))) (jK [1,5,38,39,40] yt.r13)))
def yt.r14:jI:=[af 2 0]
def yt:AFunc:=⟨74,[.t 2],jJ [1] yt.r0 (jJ [1,3,4] yt.r1 (.seq (.post [1] (.block 0 (jJ [1,14] yt.r2 (.post [1] (.cond (.t 14) (jJ [2] yt.r3 (.ret)) (jJ [1,27] yt.r4 (.post [1] (.cond (.t 27) (jJ [2] yt.r5 (.ret)) (.skip))))))))) (jJ [1,5] yt.r6 (.seq (jJ [1,5,38,39,40] yt.r7 (.post [] (.block 1 (.loop yt.l0)))) (jJ [2] yt.r14 (.ret))))))⟩
theorem yt.ok:y1o Tryz.prog Tryz.f116 yt=true:=by kernel_rfl
theorem yt.at:Tryz.prog.funcs[y7f]?=some Tryz.f116:=Tryz.func116
def y3l.r0:jI:=[am 2]
def y3l.r1:jI:=[ab 3 0,ab 4 0,a1s 5 3 4,ab 2 5]
def y3l:AFunc:=⟨6,[.t 2],jJ [0] y3l.r0 (jJ [2] y3l.r1 (.ret))⟩
theorem y3l.ok:y1o Tryz.prog Tryz.f198 y3l=true:=by kernel_rfl
theorem y3l.at:Tryz.prog.funcs[y5f]?=some Tryz.f198:=Tryz.func198
def yo.r0:jI:=[af 4 0]
def yo.r1:jI:=[ab 7 0,⟨some 8,none,.call y5f [.t 7]⟩,ab 5 8]
def yo.r2:jI:=[ab 9 1,⟨some 10,none,.call y5f [.t 9]⟩,ab 6 10]
def yo.r3:jI:=[ab 11 5]
def yo.r4:jI:=[ab 12 6]
def yo.r5:jI:=[af 4 0]
def yo.r6:jI:=[af 4 (-1)]
def yo.r7:jI:=[ab 13 6]
def yo.r8:jI:=[af 4 1]
def yo.r9:jI:=[ab 14 0,ab 15 1,aq 16 14 15]
def yo.r10:jI:=[af 4 (-1)]
def yo.r11:jI:=[ab 17 0,ab 18 1,a29 19 17 18]
def yo.r12:jI:=[af 4 1]
def yo.r13:jI:=[af 4 0]
def yo:AFunc:=⟨20,[.t 4],jJ [0,1] yo.r0 (jJ [0,1,5] yo.r1 (jJ [0,1,5,6] yo.r2 (.seq (jJ [0,1,6,11] yo.r3 (.post [0,1,6] (.cond (.t 11) (.seq (jJ [12] yo.r4 (.post [] (.cond (.t 12) (jJ [4] yo.r5 (.ret)) (.skip)))) (jJ [4] yo.r6 (.ret))) (.skip)))) (.seq (jJ [0,1,13] yo.r7 (.post [0,1] (.cond (.t 13) (jJ [4] yo.r8 (.ret)) (.skip)))) (.seq (jJ [0,1,16] yo.r9 (.post [0,1] (.cond (.t 16) (jJ [4] yo.r10 (.ret)) (.skip)))) (.seq (jJ [19] yo.r11 (.post [] (.cond (.t 19) (jJ [4] yo.r12 (.ret)) (.skip)))) (jJ [4] yo.r13 (.ret))))))))⟩
theorem yo.ok:y1o Tryz.prog Tryz.f171 yo=true:=by kernel_rfl
theorem yo.at:Tryz.prog.funcs[y40]?=some Tryz.f171:=Tryz.func171
def y47.r0:jI:=[a13 2 0,a13 3 1,af 4 0]
def y47.r1:jI:=[ae 5 0 2,ac 6 1 5,ae 7 0 3,ac 8 1 7,⟨some 9,none,.call y40 [.t 6,.t 8]⟩,ab 4 9]
def y47:AFunc:=⟨10,[.t 4],jJ [2,3] y47.r0 (jJ [4] y47.r1 (.ret))⟩
theorem y47.ok:y1o Tryz.prog Tryz.f117 y47=true:=by kernel_rfl
theorem y47.at:Tryz.prog.funcs[y7z]?=some Tryz.f117:=Tryz.func117
def yq.r0:jI:=[af 6 0]
def yq.r1:jI:=[ab 10 0,ap 11 10,af 12 0]
def yq.r2:jI:=[aq 13 12 11]
def yq.r3:jI:=[ab 14 12,av 15 3 10 12,ax 16 3 15,a2k 8,ab 7 14,ai 3 8 16]
def yq.r4:jI:=[ab 17 1,ax 18 3 8,a1c 19 17 18,ab 9 19]
def yq.r5:jI:=[ab 20 9,a11 21 20 0]
def yq.r6:jI:=[ab 22 9,ab 6 22]
def yq.r7:jI:=[ab 23 7,a18 24 23 0,ab 25 24,aj 26 25 2,aj 27 25 0,aj 28 25 7,a2u 29 25 28 1,a23 30 25 3 27 29,a1e 31 25 3 30,a1e 32 25 3 8,a2h 33 25 26 31 32,a2i 34 25 33 0,an 35 25 34]
def yq.r8:jI:=[af 6 13]
def yq.r9:jI:=[ar 36 12 1,ab 12 36]
def yq.l0:ACode:=jJ [0,1,2,10,11,12,13] yq.r2 (.seq (.post [0,1,2,10,11,12] (.cond (.t 13) (.skip) (.exit 0))) (.seq (.post [0,1,2,10,11,12] (.block 1 (jJ [0,1,2,7,8,10,11,12] yq.r3 (.seq (jJ [0,1,2,7,8,9,10,11,12] yq.r4 (jJ [0,1,2,7,8,9,10,11,12,21] yq.r5 (.post [0,1,2,7,8,10,11,12] (.cond (.t 21) (jJ [6] yq.r6 (.ret)) (.skip))))) (.seq (.post [0,1,2,10,11,12,35] (.draw [0,1,3,7,7,7,39,119,247,7,1023,2047,4095] yq.r7)) (.post [0,1,2,10,11,12] (.cond (.t 35) (jJ [6] yq.r8 (.ret)) (.skip)))))))) (jK [0,1,2,10,11,12] yq.r9)))
def yq.r10:jI:=[af 6 0]
def yq:AFunc:=⟨37,[.t 6],jJ [0,1,2] yq.r0 (.seq (jJ [0,1,2,10,11,12] yq.r1 (.post [] (.block 0 (.loop yq.l0)))) (jJ [6] yq.r10 (.ret)))⟩
theorem yq.ok:y1o Tryz.prog Tryz.f118 yq=true:=by kernel_rfl
theorem yq.at:Tryz.prog.funcs[y7t]?=some Tryz.f118:=Tryz.func118
def y1j.r0:jI:=[a13 1 0,af 2 0]
def y1j.r1:jI:=[ae 6 0 1,ac 7 1 6,⟨some 8,none,.call y7i [.t 7]⟩,ab 5 8,ah 9 0 5,ah 10 1 5,a1i 3 0 0 0 0,ai 6 3 9,ab 4 10]
def y1j.r2:jI:=[ab 12 4,a11 13 12 0,ab 14 13,a15 15 14 0 3,a16 16 14 1 15,a2x 17 14 16 4,a10 18 14 17,ab 11 18]
def y1j.r3:jI:=[af 2 11]
def y1j.r4:jI:=[ae 20 1 1,ac 21 1 20,⟨some 22,none,.call y5u [.t 21,.c (.i .i64 6)]⟩,a1a 23 22,ab 24 23,a15 25 24 2 1,a16 26 24 1 25,⟨some 27,(some (24,false)),.op (.bin .neq (.t 26) (.c (.s [105])))⟩,a17 28 24 27,a14 29 28 2 1,a12 30 28 1 29,a2l 31 28 30 112,a1t 32 24 28 31,a17 33 24 32,a14 34 33 2 1,a12 35 33 1 34,a2l 36 33 35 118,a1t 37 24 33 36,a10 38 24 37,ab 19 38]
def y1j.r5:jI:=[af 2 5]
def y1j.r6:jI:=[af 2 0]
def y1j:AFunc:=⟨39,[.t 2],jJ [1] y1j.r0 (jJ [1,3,4] y1j.r1 (.seq (.post [] (.block 0 (jJ [1,11] y1j.r2 (.post [] (.cond (.t 11) (jJ [2] y1j.r3 (.ret)) (jJ [19] y1j.r4 (.post [] (.cond (.t 19) (jJ [2] y1j.r5 (.ret)) (.skip))))))))) (jJ [2] y1j.r6 (.ret))))⟩
theorem y1j.ok:y1o Tryz.prog Tryz.f119 y1j=true:=by kernel_rfl
theorem y1j.at:Tryz.prog.funcs[y6r]?=some Tryz.f119:=Tryz.func119
def y4e.r0:jI:=[a13 2 0,a13 3 1,af 4 0]
def y4e.r1:jI:=[ae 5 0 2,ac 6 1 5,ae 7 0 3,ac 8 1 7,⟨some 9,none,.call y40 [.t 6,.t 8]⟩,ab 4 9]
def y4e:AFunc:=⟨10,[.t 4],jJ [2,3] y4e.r0 (jJ [4] y4e.r1 (.ret))⟩
theorem y4e.ok:y1o Tryz.prog Tryz.f120 y4e=true:=by kernel_rfl
theorem y4e.at:Tryz.prog.funcs[y8h]?=some Tryz.f120:=Tryz.func120
def yn.r0:jI:=[af 6 0]
def yn.r1:jI:=[ab 10 0,ap 11 10,af 12 0]
def yn.r2:jI:=[aq 13 12 11]
def yn.r3:jI:=[ab 14 12,av 15 6 10 12,ax 16 6 15,a1w 8 0 0 0 0,ab 7 14,ai 6 8 16]
def yn.r4:jI:=[ab 17 1,ax 18 6 8,a1c 19 17 18,ab 9 19]
def yn.r5:jI:=[ab 20 9,a11 21 20 0]
def yn.r6:jI:=[ab 22 9,ab 6 22]
def yn.r7:jI:=[ab 23 7,a18 24 23 0,ab 25 24,aj 26 25 2,aj 27 25 0,aj 28 25 7,a2u 29 25 28 1,a23 30 25 6 27 29,a1e 31 25 6 30,a1e 32 25 6 8,a2h 33 25 26 31 32,a2i 34 25 33 0,an 35 25 34]
def yn.r8:jI:=[af 6 13]
def yn.r9:jI:=[ar 36 12 1,ab 12 36]
def yn.l0:ACode:=jJ [0,1,2,10,11,12,13] yn.r2 (.seq (.post [0,1,2,10,11,12] (.cond (.t 13) (.skip) (.exit 0))) (.seq (.post [0,1,2,10,11,12] (.block 1 (jJ [0,1,2,7,8,10,11,12] yn.r3 (.seq (jJ [0,1,2,7,8,9,10,11,12] yn.r4 (jJ [0,1,2,7,8,9,10,11,12,21] yn.r5 (.post [0,1,2,7,8,10,11,12] (.cond (.t 21) (jJ [6] yn.r6 (.ret)) (.skip))))) (.seq (.post [0,1,2,10,11,12,35] (.draw [0,1,3,7,7,7,39,119,247,7,1023,2047,4095] yn.r7)) (.post [0,1,2,10,11,12] (.cond (.t 35) (jJ [6] yn.r8 (.ret)) (.skip)))))))) (jK [0,1,2,10,11,12] yn.r9)))
def yn.r10:jI:=[af 6 0]
def yn:AFunc:=⟨37,[.t 6],jJ [0,1,2] yn.r0 (.seq (jJ [0,1,2,10,11,12] yn.r1 (.post [] (.block 0 (.loop yn.l0)))) (jJ [6] yn.r10 (.ret)))⟩
theorem yn.ok:y1o Tryz.prog Tryz.f121 yn=true:=by kernel_rfl
theorem yn.at:Tryz.prog.funcs[y7h]?=some Tryz.f121:=Tryz.func121
def y3p.r0:jI:=[am 2]
def y3p.r1:jI:=[ab 6 0,⟨some 7,none,.call y7i [.t 6]⟩,ab 5 7,ah 8 0 5,ah 9 1 5,a1i 3 0 0 0 0,ai 6 3 8,ab 4 9]
def y3p.r2:jI:=[ab 10 4,ay 11 10 0,ab 12 11,a14 13 12 0 3,a12 14 12 1 13,a1n 15 12 14 3,aj 16 12 15,a15 17 16 5 3,a16 18 16 1 17,a2z 19 16 18 0,a1o 20 12 16 19,an 21 12 20,ab 2 21]
def y3p:AFunc:=⟨22,[.t 2],jJ [0] y3p.r0 (jJ [3,4] y3p.r1 (jJ [2] y3p.r2 (.ret)))⟩
theorem y3p.ok:y1o Tryz.prog Tryz.f70 y3p=true:=by kernel_rfl
theorem y3p.at:Tryz.prog.funcs[y6b]?=some Tryz.f70:=Tryz.func70
def y3g.r0:jI:=[am 2]
def y3g.r1:jI:=[ab 6 0,⟨some 7,none,.call y7i [.t 6]⟩,ab 5 7,ah 8 0 5,ah 9 1 5,a1i 3 0 0 0 0,ai 6 3 8,ab 4 9]
def y3g.r2:jI:=[ab 10 4,ay 11 10 0,ab 12 11,a14 13 12 0 3,a12 14 12 1 13,a1h 15 12 14 4,aj 16 12 15,a15 17 16 5 3,a16 18 16 1 17,a2z 19 16 18 0,a1o 20 12 16 19,an 21 12 20,ab 2 21]
def y3g:AFunc:=⟨22,[.t 2],jJ [0] y3g.r0 (jJ [3,4] y3g.r1 (jJ [2] y3g.r2 (.ret)))⟩
theorem y3g.ok:y1o Tryz.prog Tryz.f172 y3g=true:=by kernel_rfl
theorem y3g.at:Tryz.prog.funcs[yao]?=some Tryz.f172:=Tryz.func172
def y1g.r0:jI:=[aw 4,aw 5,am 6]
def y1g.r1:jI:=[ab 8 0,ab 9 1,⟨some 10,none,.call y79 [.t 8,.t 9]⟩,ab 7 10]
def y1g.r2:jI:=[ab 11 7,a1f 12 11 0]
def y1g.r3:jI:=[ab 13 0,ab 14 7,a1q 15 13 14,ab 16 0,ab 17 7,ab 18 1,az 19 18,a19 20 17 19,a1z 21 16 20,ab 4 15,ab 5 21,a1b 6]
def y1g.r4:jI:=[ab 22 0,ab 4 22,aw 5,am 6]
def y1g:AFunc:=⟨23,[.t 4,.t 5,.t 6],jJ [0,1] y1g.r0 (.seq (jJ [0,1,7] y1g.r1 (jJ [0,1,7,12] y1g.r2 (.post [0] (.cond (.t 12) (.seq (.post [4,5,6] (.draw [0,0,3,0,0,0,32,112,248,7,1023,2047] y1g.r3)) (.ret)) (.skip))))) (jJ [4,5,6] y1g.r4 (.ret)))⟩
theorem y1g.ok:y1o Tryz.prog Tryz.f218 y1g=true:=by kernel_rfl
theorem y1g.at:Tryz.prog.funcs[y66]?=some Tryz.f218:=Tryz.func218
def y4f.r0:jI:=[aw 4,aw 5,am 6]
def y4f.r1:jI:=[ab 7 0,ab 8 1,⟨some 9,none,.call y66 [.t 7,.t 8]⟩,ah 10 0 9,ah 11 1 9,ah 12 2 9,ab 4 10,ab 5 11,ab 6 12]
def y4f:AFunc:=⟨13,[.t 4,.t 5,.t 6],jJ [0,1] y4f.r0 (jJ [4,5,6] y4f.r1 (.ret))⟩
theorem y4f.ok:y1o Tryz.prog Tryz.f199 y4f=true:=by kernel_rfl
theorem y4f.at:Tryz.prog.funcs[ybh]?=some Tryz.f199:=Tryz.func199
def yu.r0:jI:=[a13 1 0,am 2]
def yu.r1:jI:=[ae 10 4 1,ac 11 1 10,⟨some 12,none,.call ybh [.t 11,.c (.s [62])]⟩,ab 9 12,ah 13 0 9,ah 14 1 9,ah 15 2 9,ab 3 13,ab 4 14,ab 5 15]
def yu.r2:jI:=[ab 16 5,a1a 17 16,ab 18 17,a15 19 18 3 1,a16 20 18 1 19,a2x 21 18 20 0,a10 22 18 21,ab 23 22,a17 24 23 3,⟨some 25,(some (23,false)),.call y5u [.t 24,.c (.i .i64 6)]⟩,a1r 26 23 25,a10 27 23 26,ab 28 27,a17 29 28 4,⟨some 30,(some (28,false)),.op (.bin .neq (.t 29) (.c (.s [])))⟩,a17 31 28 30,aj 32 31 4,a2l 33 31 32 105,a1t 34 28 31 33,a17 35 28 34,aj 36 35 4,a2l 37 35 36 112,a1t 38 28 35 37,a10 39 28 38,ab 40 39,a15 41 40 5 1,a16 42 40 1 41,a1p 43 40 42,a17 44 40 3,a2b 45 40 44,⟨some 46,(some (40,false)),.op (.bin .add (.t 45) (.c (.i .i64 1)))⟩,⟨some 47,(some (40,false)),.op (.bin .neq (.t 43) (.t 46))⟩,a10 48 40 47]
def yu.r3:jI:=[am 2]
def yu.r4:jI:=[ae 49 5 1,ac 50 1 49,ap 51 50,af 52 0]
def yu.r5:jI:=[aq 53 52 51]
def yu.r6:jI:=[ab 54 52,av 55 1 50 52,ac 56 1 55,ab 6 54,ab 7 56]
def yu.r7:jI:=[ab 57 4,⟨some 58,none,.op (.bin .eql (.t 57) (.c (.s [112])))⟩,ab 8 58]
def yu.r8:jI:=[ab 59 6,a18 60 59 0]
def yu.r9:jI:=[ab 61 3,ab 62 6,a31 63 62 1,a2e 64 61 63,a1x 65 64 112,ab 8 65]
def yu.r10:jI:=[ab 66 7,a2f 67 66,ab 68 67,aj 69 68 8,a2w 70 68 69,aj 71 68 70,a17 72 71 7,⟨some 73,(some (71,false)),.call y6b [.t 72]⟩,a1r 74 71 73,a1o 75 68 71 74,an 76 68 75]
def yu.r11:jI:=[am 2]
def yu.r12:jI:=[ar 77 52 1,ab 52 77]
def yu.l0:ACode:=jJ [3,4,50,51,52,53] yu.r5 (.seq (.post [3,4,50,51,52] (.cond (.t 53) (.skip) (.exit 0))) (.seq (.post [3,4,50,51,52] (.block 1 (jJ [3,4,6,7,50,51,52] yu.r6 (jJ [3,4,6,7,8,50,51,52] yu.r7 (.seq (jJ [3,4,6,7,8,50,51,52,60] yu.r8 (.post [3,4,7,8,50,51,52] (.cond (.t 60) (jK [3,4,7,8,50,51,52] yu.r9) (.skip)))) (jJ [3,4,50,51,52,76] yu.r10 (.post [3,4,50,51,52] (.cond (.t 76) (jJ [2] yu.r11 (.ret)) (.skip))))))))) (jK [3,4,50,51,52] yu.r12)))
def yu.r13:jI:=[a1b 2]
def yu:AFunc:=⟨78,[.t 2],jJ [1] yu.r0 (jJ [1,3,4,5] yu.r1 (.seq (jJ [1,3,4,48] yu.r2 (.post [1,3,4] (.cond (.t 48) (jJ [2] yu.r3 (.ret)) (.skip)))) (.seq (jJ [3,4,50,51,52] yu.r4 (.post [] (.block 0 (.loop yu.l0)))) (jJ [2] yu.r13 (.ret)))))⟩
theorem yu.ok:y1o Tryz.prog Tryz.f173 yu=true:=by kernel_rfl
theorem yu.at:Tryz.prog.funcs[y8g]?=some Tryz.f173:=Tryz.func173
def yf.r0:jI:=[a13 1 0,af 2 0]
def yf.r1:jI:=[am 3]
def yf.r2:jI:=[ae 6 0 1,ac 7 1 6]
def yf.r3:jI:=[ay 9 7 1,ab 8 9]
def yf.r4:jI:=[ae 10 1 1,ac 11 1 10,⟨some 12,none,.call y6b [.t 11]⟩,ab 13 12,a14 14 13 2 1,a12 15 13 1 14,⟨some 16,(some (13,true)),.call yao [.t 15]⟩,an 17 13 16,ab 3 17]
def yf.r5:jI:=[ay 19 7 2,ab 18 19]
def yf.r6:jI:=[ay 20 7 3,ab 18 20]
def yf.r7:jI:=[ay 21 7 4,ab 18 21]
def yf.r8:jI:=[ay 22 7 5,ab 18 22]
def yf.r9:jI:=[ae 23 1 1,ac 24 1 23,⟨some 25,none,.call y6b [.t 24]⟩,ab 26 25,a14 27 26 2 1,a12 28 26 1 27,⟨some 29,(some (26,true)),.call y6b [.t 28]⟩,an 30 26 29,ab 3 30]
def yf.r10:jI:=[ay 32 7 6,ab 31 32]
def yf.r11:jI:=[ae 34 1 1,ac 35 1 34,⟨some 36,none,.call y7i [.t 35]⟩,ab 33 36,ah 37 0 33,ah 38 1 33,a1i 4 0 0 0 0,ai 6 4 37,ab 5 38]
def yf.r12:jI:=[ab 39 5,ay 40 39 0,ab 41 40,a14 42 41 0 4,a12 43 41 1 42,a1h 44 41 43 3,an 45 41 44,ab 46 45,a14 47 46 2 1,a12 48 46 1 47,⟨some 49,(some (46,true)),.call y6b [.t 48]⟩,an 50 46 49,ab 3 50]
def yf.r13:jI:=[af 2 5]
def yf.r14:jI:=[ab 51 3,a1a 52 51]
def yf.r15:jI:=[af 2 11]
def yf.r16:jI:=[ae 53 0 1,ac 54 1 53]
def yf.r17:jI:=[ay 70 54 6,ab 69 70]
def yf.r18:jI:=[ax 71 6 1,⟨some 72,none,.call y8g [.t 71]⟩,ab 3 72]
def yf.r19:jI:=[ay 74 54 5,ab 73 74]
def yf.r20:jI:=[ae 75 5 1,ac 76 1 75,ap 77 76,ay 78 77 0,ab 79 78,a14 80 79 3 1,a12 81 79 1 80,a2i 82 79 81 0,an 83 79 82,ab 84 83,a14 85 84 3 1,a12 86 84 1 85,a1n 87 84 86 64,an 88 84 87,ab 89 88,a14 90 89 4 1,a12 91 89 1 90,⟨some 92,(some (89,true)),.call y7l [.t 91]⟩,an 93 89 92,ab 3 93]
def yf.r21:jI:=[ae 55 5 1,ac 56 1 55,ap 57 56,ay 58 57 0,ab 59 58,a14 60 59 3 1,a12 61 59 1 60,a1h 62 59 61 0,an 63 59 62,ab 64 63,a14 65 64 4 1,a12 66 64 1 65,⟨some 67,(some (64,true)),.op (.bin .eql (.t 66) (.c (.s [])))⟩,an 68 64 67,ab 3 68]
def yf.r22:jI:=[ab 94 3,a1a 95 94]
def yf.r23:jI:=[af 2 3]
def yf.r24:jI:=[af 2 0]
def yf:AFunc:=⟨96,[.t 2],jJ [1] yf.r0 (jJ [1] yf.r1 (.seq (jJ [1,7] yf.r2 (.post [1,3] (.block 0 (jJ [1,7,8] yf.r3 (.post [1,3] (.cond (.t 8) (jK [1,3] yf.r4) (.seq (jJ [1,7,18] yf.r5 (.post [1,7,18] (.cond (.t 18) (.skip) (jJ [1,7,18] yf.r6 (.post [1,7,18] (.cond (.t 18) (.skip) (jJ [1,7,18] yf.r7 (.post [1,7,18] (.cond (.t 18) (.skip) (jK [1,7,18] yf.r8)))))))))) (.post [1,3] (.cond (.t 18) (jK [1,3] yf.r9) (jJ [1,31] yf.r10 (.post [1,3] (.cond (.t 31) (jJ [1,4,5] yf.r11 (jK [1,3] yf.r12)) (jJ [2] yf.r13 (.ret)))))))))))))) (.seq (jJ [1,52] yf.r14 (.post [1] (.cond (.t 52) (jJ [2] yf.r15 (.ret)) (.skip)))) (.seq (jJ [1,54] yf.r16 (.post [3] (.block 1 (jJ [1,54,69] yf.r17 (.post [3] (.cond (.t 69) (jK [3] yf.r18) (jJ [1,73] yf.r19 (.post [3] (.cond (.t 73) (jK [3] yf.r20) (jK [3] yf.r21)))))))))) (.seq (jJ [95] yf.r22 (.post [] (.cond (.t 95) (jJ [2] yf.r23 (.ret)) (.skip)))) (jJ [2] yf.r24 (.ret)))))))⟩
theorem yf.ok:y1o Tryz.prog Tryz.f122 yf=true:=by kernel_rfl
theorem yf.at:Tryz.prog.funcs[y9a]?=some Tryz.f122:=Tryz.func122
def y44.r0:jI:=[am 2]
def y44.r1:jI:=[ab 3 0,ab 4 0,a1s 5 3 4,ab 2 5]
def y44:AFunc:=⟨6,[.t 2],jJ [0] y44.r0 (jJ [2] y44.r1 (.ret))⟩
theorem y44.ok:y1o Tryz.prog Tryz.f200 y44=true:=by kernel_rfl
theorem y44.at:Tryz.prog.funcs[y8p]?=some Tryz.f200:=Tryz.func200
def yz.r0:jI:=[af 4 0]
def yz.r1:jI:=[ab 7 0,⟨some 8,none,.call y8p [.t 7]⟩,ab 5 8]
def yz.r2:jI:=[ab 9 1,⟨some 10,none,.call y8p [.t 9]⟩,ab 6 10]
def yz.r3:jI:=[ab 11 5]
def yz.r4:jI:=[ab 12 6]
def yz.r5:jI:=[af 4 0]
def yz.r6:jI:=[af 4 (-1)]
def yz.r7:jI:=[ab 13 6]
def yz.r8:jI:=[af 4 1]
def yz.r9:jI:=[ab 14 0,ab 15 1,aq 16 14 15]
def yz.r10:jI:=[af 4 (-1)]
def yz.r11:jI:=[ab 17 0,ab 18 1,a29 19 17 18]
def yz.r12:jI:=[af 4 1]
def yz.r13:jI:=[af 4 0]
def yz:AFunc:=⟨20,[.t 4],jJ [0,1] yz.r0 (jJ [0,1,5] yz.r1 (jJ [0,1,5,6] yz.r2 (.seq (jJ [0,1,6,11] yz.r3 (.post [0,1,6] (.cond (.t 11) (.seq (jJ [12] yz.r4 (.post [] (.cond (.t 12) (jJ [4] yz.r5 (.ret)) (.skip)))) (jJ [4] yz.r6 (.ret))) (.skip)))) (.seq (jJ [0,1,13] yz.r7 (.post [0,1] (.cond (.t 13) (jJ [4] yz.r8 (.ret)) (.skip)))) (.seq (jJ [0,1,16] yz.r9 (.post [0,1] (.cond (.t 16) (jJ [4] yz.r10 (.ret)) (.skip)))) (.seq (jJ [19] yz.r11 (.post [] (.cond (.t 19) (jJ [4] yz.r12 (.ret)) (.skip)))) (jJ [4] yz.r13 (.ret))))))))⟩
theorem yz.ok:y1o Tryz.prog Tryz.f175 yz=true:=by kernel_rfl
theorem yz.at:Tryz.prog.funcs[y7p]?=some Tryz.f175:=Tryz.func175
def y7.r0:jI:=[af 4 0]
def y7.r1:jI:=[ab 9 0,ap 10 9,af 11 0]
def y7.r2:jI:=[aq 12 11 10]
def y7.r3:jI:=[ab 13 11,av 14 1 9 11,ac 15 1 14,ab 5 13,ab 6 15]
def y7.r4:jI:=[ab 16 5,ab 17 1,ap 18 17,a2y 19 16 18]
def y7.r5:jI:=[af 4 1]
def y7.r6:jI:=[ab 20 1,ab 21 5,av 22 1 20 21,ac 23 1 22,ab 7 23]
def y7.r7:jI:=[ab 24 6,ab 25 7,⟨some 26,none,.call y40 [.t 24,.t 25]⟩,ab 8 26]
def y7.r8:jI:=[ab 27 8,a11 28 27 0]
def y7.r9:jI:=[ab 29 8,ab 4 29]
def y7.r10:jI:=[ar 30 11 1,ab 11 30]
def y7.l0:ACode:=jJ [0,1,9,10,11,12] y7.r2 (.seq (.post [0,1,9,10,11] (.cond (.t 12) (.skip) (.exit 0))) (.seq (.post [0,1,9,10,11] (.block 1 (jJ [0,1,5,6,9,10,11] y7.r3 (.seq (jJ [0,1,5,6,9,10,11,19] y7.r4 (.post [0,1,5,6,9,10,11] (.cond (.t 19) (jJ [4] y7.r5 (.ret)) (.skip)))) (jJ [0,1,6,7,9,10,11] y7.r6 (jJ [0,1,8,9,10,11] y7.r7 (jJ [0,1,8,9,10,11,28] y7.r8 (.post [0,1,9,10,11] (.cond (.t 28) (jJ [4] y7.r9 (.ret)) (.skip)))))))))) (jK [0,1,9,10,11] y7.r10)))
def y7.r11:jI:=[ab 31 0,ap 32 31,ab 33 1,ap 34 33,aq 35 32 34]
def y7.r12:jI:=[af 4 (-1)]
def y7.r13:jI:=[af 4 0]
def y7:AFunc:=⟨36,[.t 4],jJ [0,1] y7.r0 (.seq (jJ [0,1,9,10,11] y7.r1 (.post [0,1] (.block 0 (.loop y7.l0)))) (.seq (jJ [35] y7.r11 (.post [] (.cond (.t 35) (jJ [4] y7.r12 (.ret)) (.skip)))) (jJ [4] y7.r13 (.ret))))⟩
theorem y7.ok:y1o Tryz.prog Tryz.f176 y7=true:=by kernel_rfl
theorem y7.at:Tryz.prog.funcs[y5c]?=some Tryz.f176:=Tryz.func176
def y25.r0:jI:=[af 2 0]
def y25.r1:jI:=[af 3 0]
def y25.r2:jI:=[ab 6 0,ap 7 6,af 8 0]
def y25.r3:jI:=[aq 9 8 7]
def y25.r4:jI:=[av 10 1 6 8,ac 11 1 10,ab 5 11]
def y25.r5:jI:=[ab 12 5,ab 13 3,a1s 14 12 13]
def y25.r6:jI:=[ab 15 5,ab 2 15]
def y25.r7:jI:=[ar 16 8 1,ab 8 16]
def y25.l0:ACode:=jJ [3,6,7,8,9] y25.r3 (.seq (.post [3,6,7,8] (.cond (.t 9) (.skip) (.exit 0))) (.seq (.post [3,6,7,8] (.block 1 (jJ [3,5,6,7,8] y25.r4 (jJ [3,5,6,7,8,14] y25.r5 (.post [3,6,7,8] (.cond (.t 14) (jJ [2] y25.r6 (.ret)) (.skip))))))) (jK [3,6,7,8] y25.r7)))
def y25.r8:jI:=[ab 17 3,ab 2 17]
def y25:AFunc:=⟨18,[.t 2],jJ [0] y25.r0 (jJ [0,3] y25.r1 (.seq (jJ [3,6,7,8] y25.r2 (.post [3] (.block 0 (.loop y25.l0)))) (jJ [2] y25.r8 (.ret))))⟩
theorem y25.ok:y1o Tryz.prog Tryz.f174 y25=true:=by kernel_rfl
theorem y25.at:Tryz.prog.funcs[yc8]?=some Tryz.f174:=Tryz.func174
def y3z.r0:jI:=[a13 2 0,a13 3 1,af 4 0]
def y3z.r1:jI:=[ae 5 0 2,ac 6 1 5,ae 7 0 3,ac 8 1 7,⟨some 9,none,.call y7p [.t 6,.t 8]⟩,ae 10 1 2,ac 11 1 10,ae 12 1 3,ac 13 1 12,⟨some 14,none,.call y40 [.t 11,.t 13]⟩,ae 15 2 2,ac 16 1 15,ae 17 2 3,ac 18 1 17,⟨some 19,none,.call y40 [.t 16,.t 18]⟩,ae 20 3 2,ac 21 1 20,ae 22 3 3,ac 23 1 22,⟨some 24,none,.call y7p [.t 21,.t 23]⟩,ae 25 4 2,ac 26 1 25,ae 27 4 3,ac 28 1 27,⟨some 29,none,.call y40 [.t 26,.t 28]⟩,ae 30 5 2,ac 31 1 30,ae 32 5 3,ac 33 1 32,⟨some 34,none,.call y5c [.t 31,.t 33]⟩,⟨some 35,none,.op (.bfz 6 1 [.i .i64 0] [(0,1,.t 9),(1,1,.t 14),(2,1,.t 19),(3,1,.t 24),(4,1,.t 29),(5,1,.t 34)])⟩,⟨some 36,none,.call yc8 [.t 35]⟩,ab 4 36]
def y3z:AFunc:=⟨37,[.t 4],jJ [2,3] y3z.r0 (.seq (.post [4] (.draw [0,1,0,4,15,0,32,0,128,511,0,1024,0,4096,16383,0,32768,0,131072,524287,0,1048576,0,4194304,16777215,0,33554432,0,134217728,536870911,1073741823,2147483647,4294967295] y3z.r1)) (.ret))⟩
theorem y3z.ok:y1o Tryz.prog Tryz.f123 y3z=true:=by kernel_rfl
theorem y3z.at:Tryz.prog.funcs[y74]?=some Tryz.f123:=Tryz.func123
def y1n.r0:jI:=[a13 1 0,af 2 0]
def y1n.r1:jI:=[ae 5 0 1,ac 6 1 5,ap 7 6,a18 8 7 600,ab 9 8,a15 10 9 1 1,a16 11 9 1 10,a1p 12 9 11,a1m 13 9 12 600,a10 14 9 13,ab 15 14,a15 16 15 2 1,a16 17 15 1 16,a1p 18 15 17,a1m 19 15 18 6000,a10 20 15 19]
def y1n.r2:jI:=[af 2 4]
def y1n.r3:jI:=[ae 21 0 1,ac 22 1 21,⟨some 23,none,.call y7g [.t 22,.c (.fn 116 []),.c (.fn 117 [])]⟩,ab 3 23]
def y1n.r4:jI:=[ab 24 3,a11 25 24 0]
def y1n.r5:jI:=[ab 26 3,ab 2 26]
def y1n.r6:jI:=[ae 27 1 1,ac 28 1 27,⟨some 29,none,.call y7t [.t 28,.c (.fn 119 []),.c (.fn 120 [])]⟩,ab 4 29]
def y1n.r7:jI:=[ab 30 4,a11 31 30 0]
def y1n.r8:jI:=[ab 32 4,ab 2 32]
def y1n.r9:jI:=[ae 33 2 1,ac 34 1 33,⟨some 35,none,.call y7h [.t 34,.c (.fn 122 []),.c (.fn 123 [])]⟩,ab 2 35]
def y1n:AFunc:=⟨36,[.t 2],jJ [1] y1n.r0 (.seq (jJ [1,20] y1n.r1 (.post [1] (.cond (.t 20) (jJ [2] y1n.r2 (.ret)) (.skip)))) (.seq (jJ [1,3] y1n.r3 (jJ [1,3,25] y1n.r4 (.post [1] (.cond (.t 25) (jJ [2] y1n.r5 (.ret)) (.skip))))) (.seq (jJ [1,4] y1n.r6 (jJ [1,4,31] y1n.r7 (.post [1] (.cond (.t 31) (jJ [2] y1n.r8 (.ret)) (.skip))))) (jJ [2] y1n.r9 (.ret)))))⟩
theorem y1n.ok:y1o Tryz.prog Tryz.f58 y1n=true:=by kernel_rfl
theorem y1n.at:Tryz.prog.funcs[yap]?=some Tryz.f58:=Tryz.func58
def y3c.r0:jI:=[a13 2 0,am 3]
def y3c.r1:jI:=[ae 4 0 2,ac 5 1 4,ac 6 1 1,a32 7 5 6,ab 3 7]
def y3c:AFunc:=⟨8,[.t 3],jJ [1,2] y3c.r0 (jJ [3] y3c.r1 (.ret))⟩
theorem y3c.ok:y1o Tryz.prog Tryz.f61 y3c=true:=by kernel_rfl
theorem y3c.at:Tryz.prog.funcs[y70]?=some Tryz.f61:=Tryz.func61
def y10.r0:jI:=[af 4 0]
def y10.r1:jI:=[ab 6 0,ap 7 6,af 8 0]
def y10.r2:jI:=[aq 9 8 7]
def y10.r3:jI:=[ab 10 8,ab 5 10]
def y10.r4:jI:=[ab 11 1,ab 12 0,ab 13 5,av 14 3 12 13,ax 15 3 14,a1c 16 11 15]
def y10.r5:jI:=[ab 17 5,ab 4 17]
def y10.r6:jI:=[ar 18 8 1,ab 8 18]
def y10.l0:ACode:=jJ [0,1,7,8,9] y10.r2 (.seq (.post [0,1,7,8] (.cond (.t 9) (.skip) (.exit 0))) (.seq (.post [0,1,7,8] (.block 1 (jJ [0,1,5,7,8] y10.r3 (jJ [0,1,5,7,8,16] y10.r4 (.post [0,1,7,8] (.cond (.t 16) (jJ [4] y10.r5 (.ret)) (.skip))))))) (jK [0,1,7,8] y10.r6)))
def y10.r7:jI:=[af 4 (-1)]
def y10:AFunc:=⟨19,[.t 4],jJ [0,1] y10.r0 (.seq (jJ [0,1,7,8] y10.r1 (.post [] (.block 0 (.loop y10.l0)))) (jJ [4] y10.r7 (.ret)))⟩
theorem y10.at:Tryz.prog.funcs[y4s]?=some Tryz.f124:=Tryz.func124
def y2z.r0:jI:=[am 4]
def y2z.r1:jI:=[ab 5 0,ab 6 1,⟨some 7,none,.call y4s [.t 5,.t 6]⟩,a1f 8 7 0,ab 4 8]
def y2z:AFunc:=⟨9,[.t 4],jJ [0,1] y2z.r0 (jJ [4] y2z.r1 (.ret))⟩
theorem y2z.at:Tryz.prog.funcs[y4l]?=some Tryz.f60:=Tryz.func60
def y3b.r0:jI:=[a13 2 0,am 3]
def y3b.r1:jI:=[ae 4 0 2,ac 5 1 4,ac 6 1 1,a32 7 5 6,ab 3 7]
def y3b:AFunc:=⟨8,[.t 3],jJ [1,2] y3b.r0 (jJ [3] y3b.r1 (.ret))⟩
theorem y3b.ok:y1o Tryz.prog Tryz.f63 y3b=true:=by kernel_rfl
theorem y3b.at:Tryz.prog.funcs[y6z]?=some Tryz.f63:=Tryz.func63
def y17.r0:jI:=[af 4 0]
def y17.r1:jI:=[ab 6 0,ap 7 6,af 8 0]
def y17.r2:jI:=[aq 9 8 7]
def y17.r3:jI:=[ab 10 8,ab 5 10]
def y17.r4:jI:=[ab 11 1,ab 12 0,ab 13 5,av 14 3 12 13,ax 15 3 14,a1c 16 11 15]
def y17.r5:jI:=[ab 17 5,ab 4 17]
def y17.r6:jI:=[ar 18 8 1,ab 8 18]
def y17.l0:ACode:=jJ [0,1,7,8,9] y17.r2 (.seq (.post [0,1,7,8] (.cond (.t 9) (.skip) (.exit 0))) (.seq (.post [0,1,7,8] (.block 1 (jJ [0,1,5,7,8] y17.r3 (jJ [0,1,5,7,8,16] y17.r4 (.post [0,1,7,8] (.cond (.t 16) (jJ [4] y17.r5 (.ret)) (.skip))))))) (jK [0,1,7,8] y17.r6)))
def y17.r7:jI:=[af 4 (-1)]
def y17:AFunc:=⟨19,[.t 4],jJ [0,1] y17.r0 (.seq (jJ [0,1,7,8] y17.r1 (.post [] (.block 0 (.loop y17.l0)))) (jJ [4] y17.r7 (.ret)))⟩
theorem y17.at:Tryz.prog.funcs[y50]?=some Tryz.f125:=Tryz.func125
def y34.r0:jI:=[am 4]
def y34.r1:jI:=[ab 5 0,ab 6 1,⟨some 7,none,.call y50 [.t 5,.t 6]⟩,a1f 8 7 0,ab 4 8]
def y34:AFunc:=⟨9,[.t 4],jJ [0,1] y34.r0 (jJ [4] y34.r1 (.ret))⟩
theorem y34.at:Tryz.prog.funcs[y4p]?=some Tryz.f62:=Tryz.func62
def y3t.r0:jI:=[a1g 2 0,am 3]
def y3t.r1:jI:=[ae 4 4 1,ae 5 0 4,ac 6 1 5,⟨some 7,none,.op (.mkfn y70 [.t 2])⟩,⟨some 8,none,.call y4l [.t 6,.t 7]⟩,ab 9 8,a15 10 9 4 1,a15 11 9 1 10,a16 12 9 1 11,⟨some 13,(some (9,false)),.op (.mkfn y6z [.t 2])⟩,⟨some 14,(some (9,false)),.call y4p [.t 12,.t 13]⟩,a10 15 9 14,ab 3 15]
def y3t:AFunc:=⟨16,[.t 3],jJ [1,2] y3t.r0 (jJ [3] y3t.r1 (.ret))⟩
theorem y3t.ok:y1o Tryz.prog Tryz.f59 y3t=true:=by kernel_rfl
theorem y3t.at:Tryz.prog.funcs[y49]?=some Tryz.f59:=Tryz.func59
def y1x.r0:jI:=[am 2]
def y1x.r1:jI:=[af 3 1]
def y1x.r2:jI:=[ab 4 3,ab 5 0,ap 6 5,aq 7 4 6]
def y1x.r3:jI:=[ab 10 0,ab 11 3,av 12 1 10 11,ac 13 1 12,ab 14 0,ab 15 3,a31 16 15 1,av 17 1 14 16,ac 18 1 17,⟨some 19,none,.op (.bin .leq (.t 13) (.t 18))⟩]
def y1x.r4:jI:=[am 2]
def y1x.r5:jI:=[ab 8 3,ar 9 8 1,ab 3 9]
def y1x.l0:ACode:=.seq (jJ [0,3,7] y1x.r2 (.post [0,3] (.cond (.t 7) (.skip) (.exit 0)))) (.seq (.post [0,3] (.block 1 (.seq (.post [0,3,19] (.draw [0,0,3,7,0,0,32,112,240,511] y1x.r3)) (.post [0,3] (.cond (.t 19) (jJ [2] y1x.r4 (.ret)) (.skip)))))) (jK [0,3] y1x.r5))
def y1x.r6:jI:=[a1b 2]
def y1x:AFunc:=⟨20,[.t 2],jJ [0] y1x.r0 (.seq (jJ [0,3] y1x.r1 (.post [] (.block 0 (.loop y1x.l0)))) (jJ [2] y1x.r6 (.ret)))⟩
theorem y1x.ok:y1o Tryz.prog Tryz.f64 y1x=true:=by kernel_rfl
theorem y1x.at:Tryz.prog.funcs[y8i]?=some Tryz.f64:=Tryz.func64
def y3s.r0:jI:=[am 3]
def y3s.r1:jI:=[ac 4 1 1,ab 5 0,a1c 6 4 5,a1a 7 6,ab 3 7]
def y3s:AFunc:=⟨8,[.t 3],jJ [0,1] y3s.r0 (jJ [3] y3s.r1 (.ret))⟩
theorem y3s.ok:y1o Tryz.prog Tryz.f66 y3s=true:=by kernel_rfl
theorem y3s.at:Tryz.prog.funcs[y7n]?=some Tryz.f66:=Tryz.func66
def yh.r0:jI:=[af 4 0]
def yh.r1:jI:=[ab 6 0,ap 7 6,af 8 0]
def yh.r2:jI:=[aq 9 8 7]
def yh.r3:jI:=[ab 10 8,ab 5 10]
def yh.r4:jI:=[ab 11 1,ab 12 0,ab 13 5,av 14 1 12 13,ac 15 1 14,a1c 16 11 15]
def yh.r5:jI:=[ab 17 5,ab 4 17]
def yh.r6:jI:=[ar 18 8 1,ab 8 18]
def yh.l0:ACode:=jJ [0,1,7,8,9] yh.r2 (.seq (.post [0,1,7,8] (.cond (.t 9) (.skip) (.exit 0))) (.seq (.post [0,1,7,8] (.block 1 (jJ [0,1,5,7,8] yh.r3 (jJ [0,1,5,7,8,16] yh.r4 (.post [0,1,7,8] (.cond (.t 16) (jJ [4] yh.r5 (.ret)) (.skip))))))) (jK [0,1,7,8] yh.r6)))
def yh.r7:jI:=[af 4 (-1)]
def yh:AFunc:=⟨19,[.t 4],jJ [0,1] yh.r0 (.seq (jJ [0,1,7,8] yh.r1 (.post [] (.block 0 (.loop yh.l0)))) (jJ [4] yh.r7 (.ret)))⟩
theorem yh.ok:y1o Tryz.prog Tryz.f126 yh=true:=by kernel_rfl
theorem yh.at:Tryz.prog.funcs[y4z]?=some Tryz.f126:=Tryz.func126
def y1u.r0:jI:=[am 4]
def y1u.r1:jI:=[ab 5 0,ab 6 1,⟨some 7,none,.call y4z [.t 5,.t 6]⟩,a1f 8 7 0,ab 4 8]
def y1u:AFunc:=⟨9,[.t 4],jJ [0,1] y1u.r0 (jJ [4] y1u.r1 (.ret))⟩
theorem y1u.ok:y1o Tryz.prog Tryz.f65 y1u=true:=by kernel_rfl
theorem y1u.at:Tryz.prog.funcs[y3x]?=some Tryz.f65:=Tryz.func65
def yj.r0:jI:=[af 4 0]
def yj.r1:jI:=[ab 6 0,ap 7 6,af 8 0]
def yj.r2:jI:=[aq 9 8 7]
def yj.r3:jI:=[ab 10 8,ab 5 10]
def yj.r4:jI:=[ab 11 1,ab 12 0,ab 13 5,av 14 1 12 13,ac 15 1 14,a32 16 11 15]
def yj.r5:jI:=[ab 17 5,ab 4 17]
def yj.r6:jI:=[ar 18 8 1,ab 8 18]
def yj.l0:ACode:=jJ [0,1,7,8,9] yj.r2 (.seq (.post [0,1,7,8] (.cond (.t 9) (.skip) (.exit 0))) (.seq (.post [0,1,7,8] (.block 1 (jJ [0,1,5,7,8] yj.r3 (jJ [0,1,5,7,8,16] yj.r4 (.post [0,1,7,8] (.cond (.t 16) (jJ [4] yj.r5 (.ret)) (.skip))))))) (jK [0,1,7,8] yj.r6)))
def yj.r7:jI:=[af 4 (-1)]
def yj:AFunc:=⟨19,[.t 4],jJ [0,1] yj.r0 (.seq (jJ [0,1,7,8] yj.r1 (.post [] (.block 0 (.loop yj.l0)))) (jJ [4] yj.r7 (.ret)))⟩
theorem yj.ok:y1o Tryz.prog Tryz.f127 yj=true:=by kernel_rfl
theorem yj.at:Tryz.prog.funcs[y5l]?=some Tryz.f127:=Tryz.func127
def y24.r0:jI:=[am 4]
def y24.r1:jI:=[ab 5 0,ab 6 1,⟨some 7,none,.call y5l [.t 5,.t 6]⟩,a1f 8 7 0,ab 4 8]
def y24:AFunc:=⟨9,[.t 4],jJ [0,1] y24.r0 (jJ [4] y24.r1 (.ret))⟩
theorem y24.ok:y1o Tryz.prog Tryz.f68 y24=true:=by kernel_rfl
theorem y24.at:Tryz.prog.funcs[y57]?=some Tryz.f68:=Tryz.func68
def y3r.r0:jI:=[am 3]
def y3r.r1:jI:=[ae 4 2 1,ac 5 1 4,ab 6 0,⟨some 7,none,.call y57 [.t 5,.t 6]⟩,ab 3 7]
def y3r:AFunc:=⟨8,[.t 3],jJ [0,1] y3r.r0 (jJ [3] y3r.r1 (.ret))⟩
theorem y3r.ok:y1o Tryz.prog Tryz.f67 y3r=true:=by kernel_rfl
theorem y3r.at:Tryz.prog.funcs[y7m]?=some Tryz.f67:=Tryz.func67
def y3q.r0:jI:=[am 2]
def y3q.r1:jI:=[ab 3 0,⟨some 4,none,.call y6b [.t 3]⟩,a1a 5 4,ab 2 5]
def y3q:AFunc:=⟨6,[.t 2],jJ [0] y3q.r0 (jJ [2] y3q.r1 (.ret))⟩
theorem y3q.ok:y1o Tryz.prog Tryz.f69 y3q=true:=by kernel_rfl
theorem y3q.at:Tryz.prog.funcs[y8z]?=some Tryz.f69:=Tryz.func69
def yc.r0:jI:=[a1g 1 0,af 2 0]
def yc.r1:jI:=[ae 7 0 1,ac 8 1 7,⟨some 9,none,.call y7o [.t 8]⟩,a1a 10 9]
def yc.r2:jI:=[af 2 11]
def yc.r3:jI:=[ae 11 4 1,ax 12 3 11,⟨some 13,none,.call yap [.t 12]⟩,ab 3 13]
def yc.r4:jI:=[ab 14 3,a11 15 14 0]
def yc.r5:jI:=[ab 16 3,ab 2 16]
def yc.r6:jI:=[⟨some 17,none,.op (.mkfn y49 [.t 1])⟩,⟨some 4,none,.op (.new [.nf])⟩,ai 1 4 17]
def yc.r7:jI:=[ae 18 1 1,ac 19 1 18,ae 20 2 1,ac 21 1 20,⟨some 22,none,.op (.bfz 2 1 [.sl none 0 0] [(0,1,.t 19),(1,1,.t 21)])⟩,ap 23 22,af 24 0]
def yc.r8:jI:=[aq 25 24 23]
def yc.r9:jI:=[av 26 1 22 24,ac 27 1 26,ab 6 27]
def yc.r10:jI:=[ab 29 6,⟨some 30,none,.call y8i [.t 29]⟩,a1a 31 30,ab 28 31]
def yc.r11:jI:=[af 2 13]
def yc.r12:jI:=[ab 33 6,⟨some 34,none,.op (.mkfn y7n [.t 4])⟩,⟨some 35,none,.call y3x [.t 33,.t 34]⟩,ab 32 35]
def yc.r13:jI:=[af 2 7]
def yc.r14:jI:=[ar 36 24 1,ab 24 36]
def yc.l0:ACode:=jJ [1,4,22,23,24,25] yc.r8 (.seq (.post [1,4,22,23,24] (.cond (.t 25) (.skip) (.exit 0))) (.seq (.post [1,4,22,23,24] (.block 1 (jJ [1,4,6,22,23,24] yc.r9 (.post [1,4,22,23,24] (.block 2 (jJ [1,4,6,22,23,24,28] yc.r10 (.post [1,4,22,23,24] (.cond (.t 28) (jJ [2] yc.r11 (.ret)) (jJ [1,4,22,23,24,32] yc.r12 (.post [1,4,22,23,24] (.cond (.t 32) (jJ [2] yc.r13 (.ret)) (.skip)))))))))))) (jK [1,4,22,23,24] yc.r14)))
def yc.r15:jI:=[ae 38 1 1,ac 39 1 38,⟨some 40,none,.op (.mkfn y7m [.t 1])⟩,⟨some 41,none,.call y3x [.t 39,.t 40]⟩,ab 37 41]
def yc.r16:jI:=[af 2 8]
def yc.r17:jI:=[ae 43 3 1,ac 44 1 43,ap 45 44,a18 46 45 6000,ab 42 46]
def yc.r18:jI:=[af 2 4]
def yc.r19:jI:=[ae 48 3 1,ac 49 1 48,⟨some 50,none,.call y8i [.t 49]⟩,a1a 51 50,ab 47 51]
def yc.r20:jI:=[af 2 13]
def yc.r21:jI:=[ae 53 3 1,ac 54 1 53,⟨some 55,none,.call y3x [.t 54,.c (.fn 69 [])]⟩,ab 52 55]
def yc.r22:jI:=[af 2 11]
def yc.r23:jI:=[af 2 0]
def yc:AFunc:=⟨56,[.t 2],jJ [1] yc.r0 (.seq (jJ [1,10] yc.r1 (.post [1] (.cond (.t 10) (jJ [2] yc.r2 (.ret)) (.skip)))) (.seq (jJ [1,3] yc.r3 (jJ [1,3,15] yc.r4 (.post [1] (.cond (.t 15) (jJ [2] yc.r5 (.ret)) (.skip))))) (jJ [1,4] yc.r6 (.seq (jJ [1,4,22,23,24] yc.r7 (.post [1] (.block 0 (.loop yc.l0)))) (.seq (.post [] (.block 3 (jJ [1,37] yc.r15 (.post [] (.cond (.t 37) (jJ [2] yc.r16 (.ret)) (jJ [1,42] yc.r17 (.post [] (.cond (.t 42) (jJ [2] yc.r18 (.ret)) (jJ [1,47] yc.r19 (.post [] (.cond (.t 47) (jJ [2] yc.r20 (.ret)) (jJ [52] yc.r21 (.post [] (.cond (.t 52) (jJ [2] yc.r22 (.ret)) (.skip))))))))))))))) (jJ [2] yc.r23 (.ret)))))))⟩
theorem yc.ok:y1o Tryz.prog Tryz.f20 yc=true:=by kernel_rfl
theorem yc.at:Tryz.prog.funcs[y8j]?=some Tryz.f20:=Tryz.func20
def y4h.r0:jI:=[ac 3 1 1,ab 4 0,a25 5 1 1 0 1 4,a1k 6 1 16 3 5,ai 1 1 6]
def y4h:AFunc:=⟨7,[],jK [] y4h.r0⟩
theorem y4h.ok:y1o Tryz.prog Tryz.f71 y4h=true:=by kernel_rfl
theorem y4h.at:Tryz.prog.funcs[y4x]?=some Tryz.f71:=Tryz.func71
def y2m.r0:jI:=[a1d 2 0 0]
def y2m.r1:jI:=[ab 3 0,⟨some 4,none,.op (.eqk .ptr false (.t 3) (.c (.p none)))⟩]
def y2m.r2:jI:=[a1d 2 0 0]
def y2m.r3:jI:=[ab 5 0,ak 6 5,ae 7 0 6,ac 8 1 7,ab 2 8]
def y2m:AFunc:=⟨9,[.t 2],jJ [0] y2m.r0 (.seq (jJ [0,4] y2m.r1 (.post [0] (.cond (.t 4) (jJ [2] y2m.r2 (.ret)) (.skip)))) (jJ [2] y2m.r3 (.ret)))⟩
theorem y2m.ok:y1o Tryz.prog Tryz.f77 y2m=true:=by kernel_rfl
theorem y2m.at:Tryz.prog.funcs[y69]?=some Tryz.f77:=Tryz.func77
def y3v.r0:jI:=[am 4]
def y3v.r1:jI:=[ab 5 0,⟨some 6,none,.call y5f [.t 5]⟩,ab 7 6,aj 8 7 1,⟨some 9,(some (7,true)),.call y5f [.t 8]⟩,a2w 10 7 9,an 11 7 10,ab 12 11,a17 13 12 0,a17 14 12 1,⟨some 15,(some (12,false)),.op (.bin .lss (.t 13) (.t 14))⟩,a10 16 12 15,ab 4 16]
def y3v:AFunc:=⟨17,[.t 4],jJ [0,1] y3v.r0 (jJ [4] y3v.r1 (.ret))⟩
theorem y3v.ok:y1o Tryz.prog Tryz.f222 y3v=true:=by kernel_rfl
theorem y3v.at:Tryz.prog.funcs[y91]?=some Tryz.f222:=Tryz.func222
def y2y.r0:jI:=[am 2]
def y2y.r1:jI:=[ab 3 0,ab 4 0,a1s 5 3 4,ab 2 5]
def y2y:AFunc:=⟨6,[.t 2],jJ [0] y2y.r0 (jJ [2] y2y.r1 (.ret))⟩
theorem y2y.ok:y1o Tryz.prog Tryz.f223 y2y=true:=by kernel_rfl
theorem y2y.at:Tryz.prog.funcs[y6c]?=some Tryz.f223:=Tryz.func223
def y9.r0:jI:=[af 4 0,am 5]
def y9.r1:jI:=[ab 10 0,ap 11 10,ab 6 11]
def y9.r2:jI:=[ab 12 6,af 7 0,ab 8 12]
def y9.r3:jI:=[ab 13 7,ab 14 8,aq 15 13 14]
def y9.r4:jI:=[ab 16 7,ab 17 8,a19 18 16 17,a2m 19 18,a26 20 19 1,a2n 21 20,ab 9 21]
def y9.r5:jI:=[ab 22 0,ab 23 9,av 24 1 22 23,ac 25 1 24,ab 26 1,⟨some 27,none,.call y91 [.t 25,.t 26]⟩]
def y9.r6:jI:=[ab 28 9,ar 29 28 1,ab 7 29]
def y9.r7:jI:=[ab 30 9,ab 8 30]
def y9.l0:ACode:=.seq (jJ [0,1,6,7,8,15] y9.r3 (.post [0,1,6,7,8] (.cond (.t 15) (.skip) (.exit 0)))) (.post [0,1,6,7,8] (.block 1 (jJ [0,1,6,7,8,9] y9.r4 (jJ [0,1,6,7,8,9,27] y9.r5 (.post [0,1,6,7,8] (.cond (.t 27) (jK [0,1,6,7,8] y9.r6) (jK [0,1,6,7,8] y9.r7)))))))
def y9.r8:jI:=[ab 31 7,ab 32 7,ab 33 6,aq 34 32 33,ab 35 34,aj 36 35 0,aj 37 35 7,a23 38 35 1 36 37,a12 39 35 1 38,aj 40 35 1,a33 41 35 39 40,aj 42 35 41,a17 43 42 0,a17 44 42 7,⟨some 45,(some (42,false)),.op (.iad 1 (.t 43) (.t 44))⟩,a16 46 42 1 45,⟨some 47,(some (42,false)),.call y6c [.t 46]⟩,a17 48 42 47,aj 49 48 1,⟨some 50,(some (48,true)),.call y6c [.t 49]⟩,a1t 51 42 48 50,a1o 52 35 42 51,an 53 35 52,ab 4 31,ab 5 53]
def y9:AFunc:=⟨54,[.t 4,.t 5],jJ [0,1] y9.r0 (jJ [0,1,6] y9.r1 (jJ [0,1,6,7,8] y9.r2 (.seq (.post [0,1,6,7] (.block 0 (.loop y9.l0))) (jJ [4,5] y9.r8 (.ret)))))⟩
theorem y9.ok:y1o Tryz.prog Tryz.f205 y9=true:=by kernel_rfl
theorem y9.at:Tryz.prog.funcs[y4q]?=some Tryz.f205:=Tryz.func205
def y29.r0:jI:=[af 4 0,am 5]
def y29.r1:jI:=[ab 9 0,⟨some 10,none,.call y69 [.t 9]⟩,ab 11 1,⟨some 12,none,.call y4q [.t 10,.t 11]⟩,ab 8 12,ah 13 0 8,ah 14 1 8,ab 6 13,ab 7 14]
def y29.r2:jI:=[ab 15 7,a1a 16 15]
def y29.r3:jI:=[af 4 0,am 5]
def y29.r4:jI:=[ab 17 6,ab 4 17,a1b 5]
def y29:AFunc:=⟨18,[.t 4,.t 5],jJ [0,1] y29.r0 (jJ [6,7] y29.r1 (.seq (jJ [6,16] y29.r2 (.post [6] (.cond (.t 16) (jJ [4,5] y29.r3 (.ret)) (.skip)))) (jJ [4,5] y29.r4 (.ret))))⟩
theorem y29.ok:y1o Tryz.prog Tryz.f180 y29=true:=by kernel_rfl
theorem y29.at:Tryz.prog.funcs[y8m]?=some Tryz.f180:=Tryz.func180
def y33.r0:jI:=[ab 4 0,ak 5 4,ae 6 5 5,ac 7 1 6,ay 8 7 0]
def y33.r1:jI:=[ab 9 0,ab 10 1,ak 11 9,ae 12 5 11,ai 1 12 10]
def y33:AFunc:=⟨13,[],jJ [0,1,8] y33.r0 (.post [] (.cond (.t 8) (jK [] y33.r1) (.skip)))⟩
theorem y33.ok:y1o Tryz.prog Tryz.f181 y33=true:=by kernel_rfl
theorem y33.at:Tryz.prog.funcs[y6o]?=some Tryz.f181:=Tryz.func181
def y2b.r0:jI:=[ac 3 1 1,a18 4 3 127,ab 5 4,aj 6 5 0,a12 7 5 1 1,⟨some 8,(some (5,true)),.op (.bin .and (.t 7) (.c (.i .i64 127)))⟩,⟨some 9,(some (5,true)),.op (.bin .or (.t 8) (.c (.i .i64 128)))⟩,⟨some 10,(some (5,true)),.op (.conv .u8 (.t 9))⟩,⟨some 11,(some (5,true)),.callv (.t 6) [.t 10]⟩,an 12 5 11]
def y2b.r1:jI:=[ac 13 1 1,a26 14 13 7,ai 1 1 14]
def y2b.l0:ACode:=.seq (jJ [0,1,12] y2b.r0 (.post [0,1] (.cond (.t 12) (.skip) (.exit 0)))) (.post [0,1] (.block 1 (jK [0,1] y2b.r1)))
def y2b.r2:jI:=[ac 15 1 1,⟨some 16,none,.op (.bin .leq (.t 15) (.c (.i .i64 127)))⟩]
def y2b.r3:jI:=[ab 17 0,ac 18 1 1,a2o 19 18,a1c 20 17 19]
def y2b:AFunc:=⟨21,[],.seq (.post [0,1] (.block 0 (.loop y2b.l0))) (jJ [0,1,16] y2b.r2 (.post [] (.cond (.t 16) (jK [] y2b.r3) (.skip))))⟩
theorem y2b.ok:y1o Tryz.prog Tryz.f142 y2b=true:=by kernel_rfl
theorem y2b.at:Tryz.prog.funcs[y7k]?=some Tryz.f142:=Tryz.func142
def y41.r0:jI:=[a1g 1 0,⟨some 2,none,.op (.mov (.c (.nf)))⟩]
def y41.r1:jI:=[⟨some 3,none,.op (.mkfn y7k [.t 1])⟩,ab 2 3]
def y41:AFunc:=⟨4,[.t 2],jJ [1] y41.r0 (jJ [2] y41.r1 (.ret))⟩
theorem y41.ok:y1o Tryz.prog Tryz.f75 y41=true:=by kernel_rfl
theorem y41.at:Tryz.prog.funcs[y9z]?=some Tryz.f75:=Tryz.func75
def y1m.r0:jI:=[a2p 4]
def y1m.r1:jI:=[ab 5 0,⟨some 6,none,.call y5v [.t 5]⟩]
def y1m.r2:jI:=[ab 7 0,ab 8 0,ak 9 8,ae 10 1 9,ac 11 1 10,ab 12 1,⟨some 13,none,.op (.bfz 1 1 [.i .u8 0] [(0,1,.t 12)])⟩,⟨some 14,none,.op (.appT 5 1 1 (.t 11) (.t 13))⟩,ak 15 7,ae 16 1 15,ai 1 16 14]
def y1m.r3:jI:=[a2p 4]
def y1m:AFunc:=⟨17,[.t 4],jJ [0,1] y1m.r0 (jJ [0,1] y1m.r1 (jJ [] y1m.r2 (jJ [4] y1m.r3 (.ret))))⟩
theorem y1m.ok:y1o Tryz.prog Tryz.f76 y1m=true:=by kernel_rfl
theorem y1m.at:Tryz.prog.funcs[y5w]?=some Tryz.f76:=Tryz.func76
def yr.r0:jI:=[a13 2 0]
def yr.r1:jI:=[ac 5 1 2,ak 6 5,ae 7 2 6,ac 8 1 7,ay 9 8 0,ab 10 9,aj 11 10 1,a2r 12 10 11 0,aj 13 10 12,a17 14 13 1,a1m 15 13 14 268435456,a1o 16 10 13 15,an 17 10 16]
def yr.r2:jI:=[ac 18 1 2,ak 19 18,ae 20 2 19,a24 1 20 2]
def yr.r3:jI:=[ac 21 1 2,ak 22 21,ae 23 2 22,ac 24 1 23,a11 25 24 0]
def yr.r4:jI:=[ab 26 1,⟨some 27,none,.call y9z [.t 26]⟩]
def yr.r5:jI:=[ab 4 28]
def yr.r6:jI:=[ac 29 1 2,ak 30 29,ae 31 0 30,ab 32 4,⟨some 33,none,.call y5w [.t 31,.t 32]⟩]
def yr.a0:ACode:=jK [2,4] yr.r5
def yr.b0:ACode:=.post [] (.block 1 (jK [] yr.r6))
def yr:AFunc:=⟨34,[],jJ [1,2] yr.r0 (.seq (jJ [1,2,17] yr.r1 (.post [1,2] (.cond (.t 17) (jK [1,2] yr.r2) (.skip)))) (.seq (jJ [1,2,25] yr.r3 (.post [1,2] (.cond (.t 25) (.ret) (.skip)))) (jJ [2,27] yr.r4 (.post [] (.block 0 (.post [] (.rangeFunc (.t 27) [28] yr.a0 yr.b0)))))))⟩
theorem yr.ok:y1o Tryz.prog Tryz.f24 yr=true:=by kernel_rfl
theorem yr.at:Tryz.prog.funcs[y4b]?=some Tryz.f24:=Tryz.func24
def y2d.r0:jI:=[ab 4 1,a27 5 4 0,ab 6 5,a17 7 6 1,a1m 8 6 7 268435456,a10 9 6 8]
def y2d.r1:jI:=[ab 10 0,⟨some 11,none,.call y6o [.t 10,.c (.i .i64 2)]⟩]
def y2d.r2:jI:=[ab 12 0,ak 13 12,ae 14 0 13,ab 15 1,⟨some 16,none,.call y4b [.t 14,.t 15]⟩]
def y2d:AFunc:=⟨17,[],.seq (jJ [0,1,9] y2d.r0 (.post [0,1] (.cond (.t 9) (jJ [] y2d.r1 (.ret)) (.skip)))) (jK [] y2d.r2)⟩
theorem y2d.ok:y1o Tryz.prog Tryz.f135 y2d=true:=by kernel_rfl
theorem y2d.at:Tryz.prog.funcs[y38]?=some Tryz.f135:=Tryz.func135
def y1y.r0:jI:=[ab 6 0,ak 7 6,ae 8 4 7,ac 9 1 8,ab 10 1,a1c 11 9 10]
def y1y.r1:jI:=[ab 13 0,ak 14 13,ae 15 3 14,ac 16 1 15,ab 17 1,⟨some 18,none,.call y8m [.t 16,.t 17]⟩,ab 12 18,ah 19 0 12,ah 20 1 12,ab 4 19,ab 5 20]
def y1y.r2:jI:=[ab 21 5,a1a 22 21]
def y1y.r3:jI:=[ab 23 0,⟨some 24,none,.call y6o [.t 23,.c (.i .i64 7)]⟩]
def y1y.r4:jI:=[ab 25 0,ab 26 4,⟨some 27,none,.call y38 [.t 25,.t 26]⟩]
def y1y:AFunc:=⟨28,[],jJ [0,1] y1y.r0 (jJ [0,4,5] y1y.r1 (.seq (jJ [0,4,22] y1y.r2 (.post [0,4] (.cond (.t 22) (jK [0,4] y1y.r3) (.skip)))) (jK [] y1y.r4)))⟩
theorem y1y.ok:y1o Tryz.prog Tryz.f129 y1y=true:=by kernel_rfl
theorem y1y.at:Tryz.prog.funcs[y2h]?=some Tryz.f129:=Tryz.func129
def y13.r0:jI:=[ab 8 0,ab 9 1,ap 10 9,⟨some 11,none,.call y38 [.t 8,.t 10]⟩]
def y13.r1:jI:=[ab 12 1,ap 13 12,af 14 0]
def y13.r2:jI:=[aq 15 14 13]
def y13.r3:jI:=[av 16 1 12 14,ac 17 1 16,ab 7 17]
def y13.r4:jI:=[ab 18 2,ab 19 7,a1c 20 18 19]
def y13.r5:jI:=[ar 21 14 1,ab 14 21]
def y13.l0:ACode:=jJ [2,12,13,14,15] y13.r2 (.seq (.post [2,12,13,14] (.cond (.t 15) (.skip) (.exit 0))) (.seq (.post [2,12,13,14] (.block 1 (jJ [2,7,12,13,14] y13.r3 (jK [2,12,13,14] y13.r4)))) (jK [2,12,13,14] y13.r5)))
def y13:AFunc:=⟨22,[],jJ [1,2] y13.r0 (jJ [2,12,13,14] y13.r1 (.post [] (.block 0 (.loop y13.l0))))⟩
theorem y13.ok:y1o Tryz.prog Tryz.f130 y13=true:=by kernel_rfl
theorem y13.at:Tryz.prog.funcs[y4w]?=some Tryz.f130:=Tryz.func130
def y1z.r0:jI:=[a13 2 0]
def y1z.r1:jI:=[ac 3 1 1,ae 4 0 2,ac 5 1 4,⟨some 6,none,.call y38 [.t 3,.t 5]⟩]
def y1z.r2:jI:=[ac 7 1 1,ae 8 1 2,ac 9 1 8,⟨some 10,none,.call y2h [.t 7,.t 9]⟩]
def y1z:AFunc:=⟨11,[],jJ [1,2] y1z.r0 (jJ [1,2] y1z.r1 (jK [] y1z.r2))⟩
theorem y1z.ok:y1o Tryz.prog Tryz.f134 y1z=true:=by kernel_rfl
theorem y1z.at:Tryz.prog.funcs[y4t]?=some Tryz.f134:=Tryz.func134
def y20.r0:jI:=[ab 8 0,ab 9 1,ap 10 9,⟨some 11,none,.call y38 [.t 8,.t 10]⟩]
def y20.r1:jI:=[ab 12 1,ap 13 12,af 14 0]
def y20.r2:jI:=[aq 15 14 13]
def y20.r3:jI:=[av 16 2 12 14,ax 17 2 16,a30 7 0,ai 2 7 17]
def y20.r4:jI:=[ab 18 2,ax 19 2 7,a1c 20 18 19]
def y20.r5:jI:=[ar 21 14 1,ab 14 21]
def y20.l0:ACode:=jJ [2,12,13,14,15] y20.r2 (.seq (.post [2,12,13,14] (.cond (.t 15) (.skip) (.exit 0))) (.seq (.post [2,12,13,14] (.block 1 (jJ [2,7,12,13,14] y20.r3 (jK [2,12,13,14] y20.r4)))) (jK [2,12,13,14] y20.r5)))
def y20:AFunc:=⟨22,[],jJ [1,2] y20.r0 (jJ [2,12,13,14] y20.r1 (.post [] (.block 0 (.loop y20.l0))))⟩
theorem y20.ok:y1o Tryz.prog Tryz.f133 y20=true:=by kernel_rfl
theorem y20.at:Tryz.prog.funcs[y8s]?=some Tryz.f133:=Tryz.func133
def y1s.r0:jI:=[a13 2 0]
def y1s.r1:jI:=[ac 3 1 1,ae 4 0 2,ac 5 1 4,⟨some 6,none,.call y2h [.t 3,.t 5]⟩]
def y1s.r2:jI:=[ac 7 1 1,ae 8 1 2,ac 9 1 8,⟨some 10,none,.call y2h [.t 7,.t 9]⟩]
def y1s.r3:jI:=[ac 11 1 1,ae 12 2 2,ac 13 1 12,⟨some 14,none,.op (.mkfn y4t [.t 1])⟩,⟨some 15,none,.call y8s [.t 11,.t 13,.t 14]⟩]
def y1s:AFunc:=⟨16,[],jJ [1,2] y1s.r0 (jJ [1,2] y1s.r1 (jJ [1,2] y1s.r2 (jK [] y1s.r3)))⟩
theorem y1s.ok:y1o Tryz.prog Tryz.f132 y1s=true:=by kernel_rfl
theorem y1s.at:Tryz.prog.funcs[y5b]?=some Tryz.f132:=Tryz.func132
def y21.r0:jI:=[ab 8 0,ab 9 1,ap 10 9,⟨some 11,none,.call y38 [.t 8,.t 10]⟩]
def y21.r1:jI:=[ab 12 1,ap 13 12,af 14 0]
def y21.r2:jI:=[aq 15 14 13]
def y21.r3:jI:=[av 16 3 12 14,ax 17 3 16,a2g 7 0 0,ai 3 7 17]
def y21.r4:jI:=[ab 18 2,ax 19 3 7,a1c 20 18 19]
def y21.r5:jI:=[ar 21 14 1,ab 14 21]
def y21.l0:ACode:=jJ [2,12,13,14,15] y21.r2 (.seq (.post [2,12,13,14] (.cond (.t 15) (.skip) (.exit 0))) (.seq (.post [2,12,13,14] (.block 1 (jJ [2,7,12,13,14] y21.r3 (jK [2,12,13,14] y21.r4)))) (jK [2,12,13,14] y21.r5)))
def y21:AFunc:=⟨22,[],jJ [1,2] y21.r0 (jJ [2,12,13,14] y21.r1 (.post [] (.block 0 (.loop y21.l0))))⟩
theorem y21.ok:y1o Tryz.prog Tryz.f131 y21=true:=by kernel_rfl
theorem y21.at:Tryz.prog.funcs[y9b]?=some Tryz.f131:=Tryz.func131
def y1r.r0:jI:=[a13 2 0]
def y1r.r1:jI:=[ac 3 1 1,ae 4 0 2,ac 5 1 4,⟨some 6,none,.call y2h [.t 3,.t 5]⟩]
def y1r.r2:jI:=[ac 7 1 1,ae 8 1 2,ac 9 1 8,⟨some 10,none,.call y2h [.t 7,.t 9]⟩]
def y1r.r3:jI:=[ac 11 1 1,ae 12 2 2,ac 13 1 12,⟨some 14,none,.call y2h [.t 11,.t 13]⟩]
def y1r:AFunc:=⟨15,[],jJ [1,2] y1r.r0 (jJ [1,2] y1r.r1 (jJ [1,2] y1r.r2 (jK [] y1r.r3)))⟩
theorem y1r.ok:y1o Tryz.prog Tryz.f137 y1r=true:=by kernel_rfl
theorem y1r.at:Tryz.prog.funcs[y5a]?=some Tryz.f137:=Tryz.func137
def y27.r0:jI:=[ab 8 0,ab 9 1,ap 10 9,⟨some 11,none,.call y38 [.t 8,.t 10]⟩]
def y27.r1:jI:=[ab 12 1,ap 13 12,af 14 0]
def y27.r2:jI:=[aq 15 14 13]
def y27.r3:jI:=[av 16 3 12 14,ax 17 3 16,a2k 7,ai 3 7 17]
def y27.r4:jI:=[ab 18 2,ax 19 3 7,a1c 20 18 19]
def y27.r5:jI:=[ar 21 14 1,ab 14 21]
def y27.l0:ACode:=jJ [2,12,13,14,15] y27.r2 (.seq (.post [2,12,13,14] (.cond (.t 15) (.skip) (.exit 0))) (.seq (.post [2,12,13,14] (.block 1 (jJ [2,7,12,13,14] y27.r3 (jK [2,12,13,14] y27.r4)))) (jK [2,12,13,14] y27.r5)))
def y27:AFunc:=⟨22,[],jJ [1,2] y27.r0 (jJ [2,12,13,14] y27.r1 (.post [] (.block 0 (.loop y27.l0))))⟩
theorem y27.ok:y1o Tryz.prog Tryz.f136 y27=true:=by kernel_rfl
theorem y27.at:Tryz.prog.funcs[y9l]?=some Tryz.f136:=Tryz.func136
def y15.r0:jI:=[a13 2 0]
def y15.r1:jI:=[ac 3 1 1,ae 4 0 2,ac 5 1 4,⟨some 6,none,.call y38 [.t 3,.t 5]⟩]
def y15.r2:jI:=[ac 7 1 1,ae 8 1 2,ac 9 1 8,⟨some 10,none,.call y2h [.t 7,.t 9]⟩]
def y15.r3:jI:=[ac 11 1 1,ae 12 2 2,ac 13 1 12,⟨some 14,none,.call y2h [.t 11,.t 13]⟩]
def y15.r4:jI:=[ac 15 1 1,ae 16 3 2,ac 17 1 16,⟨some 18,none,.call y38 [.t 15,.t 17]⟩]
def y15.r5:jI:=[ac 19 1 1,ae 20 4 2,ac 21 1 20,⟨some 22,none,.call y2h [.t 19,.t 21]⟩]
def y15.r6:jI:=[ac 23 1 1,ae 24 5 2,ac 25 1 24,ac 26 1 1,⟨some 27,none,.op (.mkfb y2h [.t 26])⟩,⟨some 28,none,.call y4w [.t 23,.t 25,.t 27]⟩]
def y15:AFunc:=⟨29,[],jJ [1,2] y15.r0 (jJ [1,2] y15.r1 (jJ [1,2] y15.r2 (jJ [1,2] y15.r3 (jJ [1,2] y15.r4 (jJ [1,2] y15.r5 (jK [] y15.r6))))))⟩
theorem y15.ok:y1o Tryz.prog Tryz.f139 y15=true:=by kernel_rfl
theorem y15.at:Tryz.prog.funcs[y59]?=some Tryz.f139:=Tryz.func139
def y22.r0:jI:=[ab 8 0,ab 9 1,ap 10 9,⟨some 11,none,.call y38 [.t 8,.t 10]⟩]
def y22.r1:jI:=[ab 12 1,ap 13 12,af 14 0]
def y22.r2:jI:=[aq 15 14 13]
def y22.r3:jI:=[av 16 6 12 14,ax 17 6 16,a1w 7 0 0 0 0,ai 6 7 17]
def y22.r4:jI:=[ab 18 2,ax 19 6 7,a1c 20 18 19]
def y22.r5:jI:=[ar 21 14 1,ab 14 21]
def y22.l0:ACode:=jJ [2,12,13,14,15] y22.r2 (.seq (.post [2,12,13,14] (.cond (.t 15) (.skip) (.exit 0))) (.seq (.post [2,12,13,14] (.block 1 (jJ [2,7,12,13,14] y22.r3 (jK [2,12,13,14] y22.r4)))) (jK [2,12,13,14] y22.r5)))
def y22:AFunc:=⟨22,[],jJ [1,2] y22.r0 (jJ [2,12,13,14] y22.r1 (.post [] (.block 0 (.loop y22.l0))))⟩
theorem y22.ok:y1o Tryz.prog Tryz.f138 y22=true:=by kernel_rfl
theorem y22.at:Tryz.prog.funcs[y9c]?=some Tryz.f138:=Tryz.func138
def y12.r0:jI:=[a1g 2 0,a13 3 1]
def y12.r1:jI:=[ac 4 1 2,ae 5 0 3,ac 6 1 5,⟨some 7,none,.call y2h [.t 4,.t 6]⟩]
def y12.r2:jI:=[ac 8 1 2,ae 9 1 3,ac 10 1 9,ac 11 1 2,⟨some 12,none,.op (.mkfb y2h [.t 11])⟩,⟨some 13,none,.call y4w [.t 8,.t 10,.t 12]⟩]
def y12.r3:jI:=[ac 14 1 2,ae 15 2 3,ac 16 1 15,ac 17 1 2,⟨some 18,none,.op (.mkfb y2h [.t 17])⟩,⟨some 19,none,.call y4w [.t 14,.t 16,.t 18]⟩]
def y12.r4:jI:=[ac 20 1 2,ae 21 3 3,ac 22 1 21,ac 23 1 2,⟨some 24,none,.op (.mkfb y2h [.t 23])⟩,⟨some 25,none,.call y4w [.t 20,.t 22,.t 24]⟩]
def y12.r5:jI:=[ac 26 1 2,ae 27 4 3,ae 28 0 27,ac 29 1 28,⟨some 30,none,.op (.mkfn y5b [.t 2])⟩,⟨some 31,none,.call y9b [.t 26,.t 29,.t 30]⟩]
def y12.r6:jI:=[ac 32 1 2,ae 33 4 3,ae 34 1 33,ac 35 1 34,⟨some 36,none,.op (.mkfn y5a [.t 2])⟩,⟨some 37,none,.call y9l [.t 32,.t 35,.t 36]⟩]
def y12.r7:jI:=[ac 38 1 2,ae 39 4 3,ae 40 2 39,ac 41 1 40,⟨some 42,none,.op (.mkfn y59 [.t 2])⟩,⟨some 43,none,.call y9c [.t 38,.t 41,.t 42]⟩]
def y12:AFunc:=⟨44,[],jJ [2,3] y12.r0 (jJ [2,3] y12.r1 (jJ [2,3] y12.r2 (jJ [2,3] y12.r3 (jJ [2,3] y12.r4 (jJ [2,3] y12.r5 (jJ [2,3] y12.r6 (jK [] y12.r7)))))))⟩
theorem y12.ok:y1o Tryz.prog Tryz.f72 y12=true:=by kernel_rfl
theorem y12.at:Tryz.prog.funcs[y5m]?=some Tryz.f72:=Tryz.func72
def y2a.r0:jI:=[af 5 0]
def y2a.r1:jI:=[ac 6 1 2,ak 7 6,ae 8 0 7,ac 9 1 8,ab 10 0,av 11 1 9 10,ac 12 1 11,ab 13 1,⟨some 14,none,.call y40 [.t 12,.t 13]⟩,ab 5 14]
def y2a:AFunc:=⟨15,[.t 5],jJ [0,1,2] y2a.r0 (jJ [5] y2a.r1 (.ret))⟩
theorem y2a.ok:y1o Tryz.prog Tryz.f207 y2a=true:=by kernel_rfl
theorem y2a.at:Tryz.prog.funcs[y5j]?=some Tryz.f207:=Tryz.func207
def y5.r0:jI:=[af 6 0,am 7]
def y5.r1:jI:=[ab 12 0,ap 13 12,ab 8 13]
def y5.r2:jI:=[ab 14 8,af 9 0,ab 10 14]
def y5.r3:jI:=[ab 15 9,ab 16 10,aq 17 15 16]
def y5.r4:jI:=[ab 18 9,ab 19 10,a19 20 18 19,a2m 21 20,a26 22 21 1,a2n 23 22,ab 11 23]
def y5.r5:jI:=[ab 24 2,ab 25 0,ab 26 11,av 27 1 25 26,ac 28 1 27,ab 29 1,⟨some 30,none,.callv (.t 24) [.t 28,.t 29]⟩,a27 31 30 0]
def y5.r6:jI:=[ab 32 11,ar 33 32 1,ab 9 33]
def y5.r7:jI:=[ab 34 11,ab 10 34]
def y5.l0:ACode:=.seq (jJ [0,1,2,8,9,10,17] y5.r3 (.post [0,1,2,8,9,10] (.cond (.t 17) (.skip) (.exit 0)))) (.post [0,1,2,8,9,10] (.block 1 (jJ [0,1,2,8,9,10,11] y5.r4 (jJ [0,1,2,8,9,10,11,31] y5.r5 (.post [0,1,2,8,9,10] (.cond (.t 31) (jK [0,1,2,8,9,10] y5.r6) (jK [0,1,2,8,9,10] y5.r7)))))))
def y5.r8:jI:=[ab 35 9,ab 36 9,ab 37 8,aq 38 36 37,ab 39 38,aj 40 39 2,aj 41 39 0,aj 42 39 9,a23 43 39 1 41 42,a12 44 39 1 43,aj 45 39 1,a2h 46 39 40 44 45,a1h 47 39 46 0,an 48 39 47,ab 6 35,ab 7 48]
def y5:AFunc:=⟨49,[.t 6,.t 7],jJ [0,1,2] y5.r0 (jJ [0,1,2,8] y5.r1 (jJ [0,1,2,8,9,10] y5.r2 (.seq (.post [0,1,2,8,9] (.block 0 (.loop y5.l0))) (jJ [6,7] y5.r8 (.ret)))))⟩
theorem y5.ok:y1o Tryz.prog Tryz.f206 y5=true:=by kernel_rfl
theorem y5.at:Tryz.prog.funcs[y3y]?=some Tryz.f206:=Tryz.func206
def y2f.r0:jI:=[a1g 2 0,af 4 0,am 5]
def y2f.r1:jI:=[ac 6 1 2,ak 7 6,ae 8 1 7,ac 9 1 8,ab 10 1,⟨some 11,none,.op (.mkfn y5j [.t 2])⟩,⟨some 12,none,.call y3y [.t 9,.t 10,.t 11]⟩,ah 13 0 12,ah 14 1 12,ab 4 13,ab 5 14]
def y2f:AFunc:=⟨15,[.t 4,.t 5],jJ [1,2] y2f.r0 (jJ [4,5] y2f.r1 (.ret))⟩
theorem y2f.ok:y1o Tryz.prog Tryz.f182 y2f=true:=by kernel_rfl
theorem y2f.at:Tryz.prog.funcs[y5x]?=some Tryz.f182:=Tryz.func182
def yp.r0:jI:=[af 4 0,am 5]
def yp.r1:jI:=[ab 10 0,ab 11 1,⟨some 12,none,.call y5x [.t 10,.t 11]⟩,ab 9 12,ah 13 0 9,ah 14 1 9,ab 6 13,ab 7 14]
def yp.r2:jI:=[ab 15 7]
def yp.r3:jI:=[ab 16 0,ak 17 16,ae 18 1 17,ac 19 1 18,ab 20 6,av 21 1 19 20,ac 22 1 21,ab 4 22,am 5]
def yp.r4:jI:=[ab 23 0,ak 24 23,ae 25 0 24,ac 26 1 25,ap 27 26,ab 8 27]
def yp.r5:jI:=[ab 28 0,ab 29 0,ak 30 29,ae 31 0 30,ac 32 1 31,ab 33 1,a25 34 1 1 0 1 33,a1k 35 1 16 32 34,ak 36 28,ae 37 0 36,ai 1 37 35]
def yp.r6:jI:=[ab 38 0,ab 39 0,ak 40 39,ae 41 1 40,ac 42 1 41,ab 43 6,ab 44 8,⟨some 45,none,.op (.bslT 3 1 [.i .i64 0] [(0,1,.t 44)])⟩,⟨some 46,none,.call ybi [.t 42,.t 43,.t 45]⟩,ak 47 38,ae 48 1 47,ai 1 48 46]
def yp.r7:jI:=[ab 49 8,ab 4 49,a1b 5]
def yp:AFunc:=⟨50,[.t 4,.t 5],jJ [0,1] yp.r0 (jJ [0,1,6,7] yp.r1 (.seq (jJ [0,1,6,15] yp.r2 (.post [0,1,6] (.cond (.t 15) (jJ [4,5] yp.r3 (.ret)) (.skip)))) (jJ [0,1,6,8] yp.r4 (jJ [0,6,8] yp.r5 (jJ [8] yp.r6 (jJ [4,5] yp.r7 (.ret)))))))⟩
theorem yp.ok:y1o Tryz.prog Tryz.f140 yp=true:=by kernel_rfl
theorem yp.at:Tryz.prog.funcs[y6f]?=some Tryz.f140:=Tryz.func140
def yw.r0:jI:=[ac 5 1 1,ak 6 5,ae 7 1 6,ac 8 1 7,⟨some 9,none,.call y60 [.t 8]⟩,ap 10 9,af 11 0]
def yw.r1:jI:=[aq 12 11 10]
def yw.r2:jI:=[av 13 1 9 11,ac 14 1 13,ab 4 14]
def yw.r3:jI:=[ab 15 0,ac 16 1 1,ak 17 16,ae 18 0 17,ac 19 1 18,ab 20 4,av 21 1 19 20,ac 22 1 21,ab 23 4,⟨some 24,none,.callv (.t 15) [.t 22,.t 23]⟩,a1a 25 24]
def yw.r4:jI:=[ar 26 11 1,ab 11 26]
def yw.l0:ACode:=jJ [0,1,9,10,11,12] yw.r1 (.seq (.post [0,1,9,10,11] (.cond (.t 12) (.skip) (.exit 0))) (.seq (.post [0,1,9,10,11] (.block 1 (jJ [0,1,4,9,10,11] yw.r2 (jJ [0,1,9,10,11,25] yw.r3 (.post [0,1,9,10,11] (.cond (.t 25) (.ret) (.skip))))))) (jK [0,1,9,10,11] yw.r4)))
def yw:AFunc:=⟨27,[],jJ [0,1,9,10,11] yw.r0 (.post [] (.block 0 (.loop yw.l0)))⟩
theorem yw.ok:y1o Tryz.prog Tryz.f184 yw=true:=by kernel_rfl
theorem yw.at:Tryz.prog.funcs[y4m]?=some Tryz.f184:=Tryz.func184
def y2e.r0:jI:=[a1g 1 0,⟨some 2,none,.op (.mov (.c (.nf)))⟩]
def y2e.r1:jI:=[⟨some 3,none,.op (.mkfn y4m [.t 1])⟩,ab 2 3]
def y2e:AFunc:=⟨4,[.t 2],jJ [1] y2e.r0 (jJ [2] y2e.r1 (.ret))⟩
theorem y2e.ok:y1o Tryz.prog Tryz.f141 y2e=true:=by kernel_rfl
theorem y2e.at:Tryz.prog.funcs[y5n]?=some Tryz.f141:=Tryz.func141
def ye.r0:jI:=[a1d 2 0 0]
def ye.r1:jI:=[⟨some 8,none,.op (.build [.sl none 0 0,.sl none 0 0] [])⟩,a1g 9 8,ab 3 9]
def ye.r2:jI:=[ab 10 0,ap 11 10,af 12 0]
def ye.r3:jI:=[aq 13 12 11]
def ye.r4:jI:=[av 14 1 10 12,ac 15 1 14,ab 5 15]
def ye.r5:jI:=[ab 16 3,ab 17 5,⟨some 18,none,.call y6f [.t 16,.t 17]⟩]
def ye.r6:jI:=[ar 19 12 1,ab 12 19]
def ye.l0:ACode:=jJ [2,3,10,11,12,13] ye.r3 (.seq (.post [2,3,10,11,12] (.cond (.t 13) (.skip) (.exit 0))) (.seq (.post [2,3,10,11,12] (.block 1 (jJ [2,3,5,10,11,12] ye.r4 (jK [2,3,10,11,12] ye.r5)))) (jK [2,3,10,11,12] ye.r6)))
def ye.r7:jI:=[⟨some 6,none,.op (.new [.sl none 0 0])⟩]
def ye.r8:jI:=[ab 20 3,⟨some 21,none,.call y5n [.t 20]⟩]
def ye.r9:jI:=[ab 7 22]
def ye.r10:jI:=[ac 24 1 6,ab 25 7,a25 26 1 1 0 1 25,a1k 27 1 16 24 26,ai 1 6 27]
def ye.a1:ACode:=jK [6,7] ye.r9
def ye.b1:ACode:=.post [] (.block 3 (jK [] ye.r10))
def ye.r11:jI:=[ac 28 1 6,ab 2 28]
def ye:AFunc:=⟨29,[.t 2],jJ [0,2] ye.r0 (jJ [0,2,3] ye.r1 (.seq (jJ [2,3,10,11,12] ye.r2 (.post [2,3] (.block 0 (.loop ye.l0)))) (jJ [2,3,6] ye.r7 (.seq (jJ [2,6,21] ye.r8 (.post [6] (.block 2 (.post [6] (.rangeFunc (.t 21) [22,23] ye.a1 ye.b1))))) (jJ [2] ye.r11 (.ret))))))⟩
theorem ye.ok:y1o Tryz.prog Tryz.f73 ye=true:=by kernel_rfl
theorem ye.at:Tryz.prog.funcs[y63]?=some Tryz.f73:=Tryz.func73
def y2s.r0:jI:=[a13 1 0,a1d 2 0 0]
def y2s.r1:jI:=[⟨some 3,none,.op (.new [.sl none 0 0])⟩]
def y2s.r2:jI:=[⟨some 5,none,.op (.mkfn y4x [.t 3])⟩,⟨some 6,none,.op (.build [.p none,.sl none 0 0,.i .i64 0,.p none,.nf,.i .i64 0] [(4,1,.t 5)])⟩,a34 7 109 0 6,ab 4 7]
def y2s.r3:jI:=[ab 8 4,ax 9 7 1,⟨some 10,none,.call y5m [.t 8,.t 9]⟩]
def y2s.r4:jI:=[ac 11 1 3,⟨some 12,none,.call y63 [.t 11]⟩,ab 2 12]
def y2s:AFunc:=⟨13,[.t 2],jJ [1] y2s.r0 (jJ [1,3] y2s.r1 (jJ [1,3,4] y2s.r2 (jJ [3] y2s.r3 (jJ [2] y2s.r4 (.ret)))))⟩
theorem y2s.ok:y1o Tryz.prog Tryz.f21 y2s=true:=by kernel_rfl
theorem y2s.at:Tryz.prog.funcs[y97]?=some Tryz.f21:=Tryz.func21
def y68.r0:jI:=[a1l 2]
def y68.r1:jI:=[ab 3 0,⟨some 4,none,.call y63 [.t 3]⟩,⟨some 5,none,.op (.build [.sl none 0 0] [(0,1,.t 4)])⟩,a1g 6 5,ab 2 6]
def y68:AFunc:=⟨7,[.t 2],jJ [0] y68.r0 (jJ [2] y68.r1 (.ret))⟩
theorem y68.ok:y1o Tryz.prog Tryz.f22 y68=true:=by kernel_rfl
theorem y68.at:Tryz.prog.funcs[yfw]?=some Tryz.f22:=Tryz.func22
def y56:AFunc:=⟨2,[],.skip⟩
theorem y56.ok:y1o Tryz.prog Tryz.f74 y56=true:=by kernel_rfl
theorem y56.at:Tryz.prog.funcs[y5i]?=some Tryz.f74:=Tryz.func74
def y2c.r0:jI:=[aw 2,af 3 0]
def y2c.r1:jI:=[ab 4 0,ak 5 4,ae 6 2 5,ac 7 1 6,a11 8 7 0]
def y2c.r2:jI:=[ab 9 0,ak 10 9,ae 11 2 10,ac 12 1 11,aw 2,ab 3 12]
def y2c.r3:jI:=[ab 13 0,ak 14 13,ae 15 0 14,⟨some 16,none,.call yb4 [.t 15]⟩,ab 2 16,af 3 0]
def y2c:AFunc:=⟨17,[.t 2,.t 3],jJ [0] y2c.r0 (.seq (jJ [0,8] y2c.r1 (.post [0] (.cond (.t 8) (.seq (.post [2,3] (.draw [0,1,3,7,0,31] y2c.r2)) (.ret)) (.skip)))) (jJ [2,3] y2c.r3 (.ret)))⟩
theorem y2c.ok:y1o Tryz.prog Tryz.f27 y2c=true:=by kernel_rfl
theorem y2c.at:Tryz.prog.funcs[y6l]?=some Tryz.f27:=Tryz.func27
def y2k.r0:jI:=[a13 3 1,aw 4,af 5 0]
def y2k.r1:jI:=[ab 7 0,⟨some 8,none,.op (.build [.p none,.sl none 0 0,.i .i64 0,.p none,.nf,.i .i64 0] [(3,1,.t 7),(4,1,.c (.fn 74 []))])⟩,a34 9 109 0 8,ab 6 9]
def y2k.r2:jI:=[ab 10 6,ax 11 7 3,⟨some 12,none,.call y5m [.t 10,.t 11]⟩]
def y2k.r3:jI:=[ab 13 6,ak 14 13,ae 15 5 14,ac 16 1 15,a11 17 16 0]
def y2k.r4:jI:=[ab 18 6,ak 19 18,ae 20 5 19,ac 21 1 20,aw 4,ab 5 21]
def y2k.r5:jI:=[ab 22 6,ak 23 22,ae 24 0 23,⟨some 25,none,.call y6l [.t 24]⟩,ah 26 0 25,ah 27 1 25,ab 4 26,ab 5 27]
def y2k:AFunc:=⟨28,[.t 4,.t 5],jJ [0,3] y2k.r0 (jJ [3,6] y2k.r1 (jJ [6] y2k.r2 (.seq (jJ [6,17] y2k.r3 (.post [6] (.cond (.t 17) (.seq (.post [4,5] (.draw [0,1,3,7,0,31] y2k.r4)) (.ret)) (.skip)))) (jJ [4,5] y2k.r5 (.ret)))))⟩
theorem y2k.ok:y1o Tryz.prog Tryz.f23 y2k=true:=by kernel_rfl
theorem y2k.at:Tryz.prog.funcs[yar]?=some Tryz.f23:=Tryz.func23
def y2l.r0:jI:=[af 4 0]
def y2l.r1:jI:=[af 5 0]
def y2l.r2:jI:=[ab 6 5,ab 7 0,az 8 7,ab 9 1,az 10 9,⟨some 11,none,.op (.mn [.t 8,.t 10])⟩,aq 12 6 11,ab 13 12,aj 14 13 0,aj 15 13 5,⟨some 16,(some (13,true)),.op (.idx (.t 14) (.t 15))⟩,aj 17 13 1,aj 18 13 5,⟨some 19,(some (13,true)),.op (.idx (.t 17) (.t 18))⟩,a33 20 13 16 19,an 21 13 20]
def y2l.r3:jI:=[ab 22 5,ar 23 22 1,ab 5 23]
def y2l.l0:ACode:=.seq (.seq (.post [0,1,5,21] (.draw [0,0,2,0,8,30,63,127,255,255,1023,255,255,6399,16383,32767] y2l.r2)) (.post [0,1,5] (.cond (.t 21) (.skip) (.exit 0)))) (.post [0,1,5] (.block 1 (jK [0,1,5] y2l.r3)))
def y2l.r4:jI:=[ab 24 5,ab 4 24]
def y2l:AFunc:=⟨25,[.t 4],jJ [0,1] y2l.r0 (jJ [0,1,5] y2l.r1 (.seq (.post [5] (.block 0 (.loop y2l.l0))) (jJ [4] y2l.r4 (.ret))))⟩
theorem y2l.ok:y1o Tryz.prog Tryz.f78 y2l=true:=by kernel_rfl
theorem y2l.at:Tryz.prog.funcs[y9q]?=some Tryz.f78:=Tryz.func78
def y1i.r0:jI:=[af 4 0,a2p 5]
def y1i.r1:jI:=[ab 6 0,⟨some 7,none,.call y5v [.t 6]⟩]
def y1i.r2:jI:=[ab 8 0,ab 9 0,ak 10 9,ae 11 1 10,ac 12 1 11,ab 13 1,⟨some 14,none,.op (.appT 5 1 1 (.t 12) (.t 13))⟩,ak 15 8,ae 16 1 15,ai 1 16 14]
def y1i.r3:jI:=[ab 17 1,az 18 17,ab 4 18,a2p 5]
def y1i:AFunc:=⟨19,[.t 4,.t 5],jJ [0,1] y1i.r0 (jJ [0,1] y1i.r1 (jJ [1] y1i.r2 (jJ [4,5] y1i.r3 (.ret))))⟩
theorem y1i.ok:y1o Tryz.prog Tryz.f79 y1i=true:=by kernel_rfl
theorem y1i.at:Tryz.prog.funcs[y5h]?=some Tryz.f79:=Tryz.func79
def y1p.r0:jI:=[ab 4 0,ak 5 4,ae 6 2 5,ac 7 1 6,ay 8 7 0,ab 9 8,aj 10 9 1,a1j 11 9 10,a2v 12 9 11 200000,an 13 9 12]
def y1p.r1:jI:=[ab 14 0,ak 15 14,ae 16 2 15,a24 1 16 9]
def y1p.r2:jI:=[ab 17 0,ak 18 17,ae 19 2 18,ac 20 1 19,ay 21 20 0]
def y1p.r3:jI:=[ab 22 0,ab 23 1,az 24 23,⟨some 25,none,.call y4b [.t 22,.t 24]⟩]
def y1p.r4:jI:=[ab 26 0,ak 27 26,ae 28 0 27,ab 29 1,⟨some 30,none,.call y5h [.t 28,.t 29]⟩]
def y1p:AFunc:=⟨31,[],.seq (jJ [0,1,13] y1p.r0 (.post [0,1] (.cond (.t 13) (jK [0,1] y1p.r1) (.skip)))) (jJ [0,1,21] y1p.r2 (.post [] (.cond (.t 21) (jJ [0,1] y1p.r3 (jK [] y1p.r4)) (.skip))))⟩
theorem y1p.ok:y1o Tryz.prog Tryz.f26 y1p=true:=by kernel_rfl
theorem y1p.at:Tryz.prog.funcs[y6k]?=some Tryz.f26:=Tryz.func26
def y14.r0:jI:=[ab 9 0,⟨some 10,none,.call y69 [.t 9]⟩,ab 4 10]
def y14.r1:jI:=[ab 11 1,ab 12 4,ap 13 12,⟨some 14,none,.call y4b [.t 11,.t 13]⟩]
def y14.r2:jI:=[aw 5]
def y14.r3:jI:=[ab 15 4,ap 16 15,af 17 0]
def y14.r4:jI:=[aq 18 17 16]
def y14.r5:jI:=[av 19 1 15 17,ac 20 1 19,ab 7 20]
def y14.r6:jI:=[ab 21 5,ab 22 7,⟨some 23,none,.call y9q [.t 21,.t 22]⟩,ab 8 23]
def y14.r7:jI:=[ab 24 1,ab 25 8,⟨some 26,none,.call y4b [.t 24,.t 25]⟩]
def y14.r8:jI:=[ab 27 1,ab 28 7,ab 29 8,a1z 30 28 29,⟨some 31,none,.call y6k [.t 27,.t 30]⟩]
def y14.r9:jI:=[ab 32 7,ab 5 32]
def y14.r10:jI:=[ar 33 17 1,ab 17 33]
def y14.l0:ACode:=jJ [1,5,15,16,17,18] y14.r4 (.seq (.post [1,5,15,16,17] (.cond (.t 18) (.skip) (.exit 0))) (.seq (.post [1,5,15,16,17] (.block 1 (jJ [1,5,7,15,16,17] y14.r5 (jJ [1,7,8,15,16,17] y14.r6 (jJ [1,7,8,15,16,17] y14.r7 (jJ [1,7,15,16,17] y14.r8 (jK [1,5,15,16,17] y14.r9))))))) (jK [1,5,15,16,17] y14.r10)))
def y14:AFunc:=⟨34,[],jJ [1,4] y14.r0 (jJ [1,4] y14.r1 (jJ [1,4,5] y14.r2 (jJ [1,5,15,16,17] y14.r3 (.post [] (.block 0 (.loop y14.l0))))))⟩
theorem y14.ok:y1o Tryz.prog Tryz.f25 y14=true:=by kernel_rfl
theorem y14.at:Tryz.prog.funcs[y90]?=some Tryz.f25:=Tryz.func25
def y43.r0:jI:=[⟨some 2,none,.op (.mov (.c (.i .u32 0)))⟩]
def y43.r1:jI:=[ab 3 0,ak 4 3,ae 5 0 4,ac 6 1 5,a35 7 6 11994318,ab 2 7]
def y43:AFunc:=⟨8,[.t 2],jJ [0] y43.r0 (jJ [2] y43.r1 (.ret))⟩
theorem y43.ok:y1o Tryz.prog Tryz.f145 y43=true:=by kernel_rfl
theorem y43.at:Tryz.prog.funcs[y8o]?=some Tryz.f145:=Tryz.func145
def yy.r0:jI:=[ab 6 0,⟨some 7,none,.call y8o [.t 6]⟩,ab 4 7]
def yy.r1:jI:=[ab 8 1,az 9 8,af 10 0]
def yy.r2:jI:=[aq 11 10 9]
def yy.r3:jI:=[ab 12 10,ab 5 12]
def yy.r4:jI:=[ab 13 4,ab 14 1,ab 15 5,a2e 16 14 15,⟨some 17,none,.op (.conv .u32 (.t 16))⟩,⟨some 18,none,.op (.bin .shl (.t 17) (.c (.i .u64 16)))⟩,⟨some 19,none,.op (.bin .xor (.t 13) (.t 18))⟩,ab 4 19]
def yy.r5:jI:=[af 20 0]
def yy.r6:jI:=[a27 21 20 8]
def yy.r7:jI:=[ab 22 4,⟨some 23,none,.op (.bin .shl (.t 22) (.c (.i .u64 1)))⟩,ab 4 23]
def yy.r8:jI:=[ab 24 4,⟨some 25,none,.op (.bin .and (.t 24) (.c (.i .u32 16777216)))⟩,⟨some 26,none,.op (.bin .neq (.t 25) (.c (.i .u32 0)))⟩]
def yy.r9:jI:=[ab 27 4,a35 28 27 25578747,ab 4 28]
def yy.r10:jI:=[ar 29 20 1,ab 20 29]
def yy.l1:ACode:=jJ [0,1,4,9,10,20,21] yy.r6 (.seq (.post [0,1,4,9,10,20] (.cond (.t 21) (.skip) (.exit 2))) (.seq (.post [0,1,4,9,10,20] (.block 3 (jJ [0,1,4,9,10,20] yy.r7 (jJ [0,1,4,9,10,20,26] yy.r8 (.post [0,1,4,9,10,20] (.cond (.t 26) (jK [0,1,4,9,10,20] yy.r9) (.skip))))))) (jK [0,1,4,9,10,20] yy.r10)))
def yy.r11:jI:=[ar 30 10 1,ab 10 30]
def yy.l0:ACode:=jJ [0,1,4,9,10,11] yy.r2 (.seq (.post [0,1,4,9,10] (.cond (.t 11) (.skip) (.exit 0))) (.seq (.post [0,1,4,9,10] (.block 1 (jJ [0,1,4,5,9,10] yy.r3 (jJ [0,1,4,9,10] yy.r4 (jJ [0,1,4,9,10,20] yy.r5 (.post [0,1,4,9,10] (.block 2 (.loop yy.l1)))))))) (jK [0,1,4,9,10] yy.r11)))
def yy.r12:jI:=[ab 31 0,ab 32 4,a35 33 32 11994318,ak 34 31,ae 35 0 34,ai 1 35 33]
def yy:AFunc:=⟨36,[],jJ [0,1,4] yy.r0 (.seq (jJ [0,1,4,9,10] yy.r1 (.post [0,4] (.block 0 (.loop yy.l0)))) (jK [] yy.r12))⟩
theorem yy.ok:y1o Tryz.prog Tryz.f144 yy=true:=by kernel_rfl
theorem yy.at:Tryz.prog.funcs[ya3]?=some Tryz.f144:=Tryz.func144
def y55.r0:jI:=[⟨some 2,none,.op (.mov (.c (.i .u32 0)))⟩]
def y55.r1:jI:=[⟨some 3,none,.op (.new [.i .u32 0])⟩]
def y55.r2:jI:=[ab 4 0,⟨some 5,none,.call ya3 [.t 3,.t 4]⟩]
def y55.r3:jI:=[⟨some 6,none,.call y8o [.t 3]⟩,ab 2 6]
def y55:AFunc:=⟨7,[.t 2],jJ [0] y55.r0 (jJ [0,3] y55.r1 (jJ [3] y55.r2 (jJ [2] y55.r3 (.ret))))⟩
theorem y55.ok:y1o Tryz.prog Tryz.f81 y55=true:=by kernel_rfl
theorem y55.at:Tryz.prog.funcs[yi0]?=some Tryz.f81:=Tryz.func81
def y4r.r0:jI:=[aw 2]
def y4r.r1:jI:=[ab 4 0,⟨some 5,none,.call yi0 [.t 4]⟩,ab 3 5]
def y4r.r2:jI:=[ab 6 0,ab 7 3,a26 8 7 16,a2o 9 8,ab 10 3,a26 11 10 8,a2o 12 11,ab 13 3,a2o 14 13,⟨some 15,none,.op (.bsl 3 [.i .u8 0] [(0,1,.t 9),(1,1,.t 12),(2,1,.t 14)])⟩,⟨some 16,none,.op (.b2s (.t 15))⟩,a19 17 6 16,ab 2 17]
def y4r:AFunc:=⟨18,[.t 2],jJ [0] y4r.r0 (jJ [0,3] y4r.r1 (jJ [2] y4r.r2 (.ret)))⟩
theorem y4r.ok:y1o Tryz.prog Tryz.f28 y4r=true:=by kernel_rfl
theorem y4r.at:Tryz.prog.funcs[ycq]?=some Tryz.f28:=Tryz.func28
def y8.r0:jI:=[a13 1 0,aw 2,af 3 0]
def y8.r1:jI:=[ax 14 7 1,⟨some 15,none,.call y8j [.t 14]⟩,ab 4 15]
def y8.r2:jI:=[ab 16 4,a11 17 16 0]
def y8.r3:jI:=[ab 18 4,aw 2,ab 3 18]
def y8.r4:jI:=[ax 19 7 1,⟨some 20,none,.call y97 [.t 19]⟩,ab 5 20]
def y8.r5:jI:=[ab 21 5,ap 22 21,a18 23 22 6000]
def y8.r6:jI:=[aw 2,af 3 4]
def y8.r7:jI:=[ab 24 5,ap 25 24,af 26 0]
def y8.r8:jI:=[aq 27 26 25]
def y8.r9:jI:=[av 28 1 24 26,ac 29 1 28,ab 7 29]
def y8.r10:jI:=[ab 30 7,az 31 30,a18 32 31 1000]
def y8.r11:jI:=[aw 2,af 3 9]
def y8.r12:jI:=[ar 33 26 1,ab 26 33]
def y8.l0:ACode:=jJ [1,5,24,25,26,27] y8.r8 (.seq (.post [1,5,24,25,26] (.cond (.t 27) (.skip) (.exit 0))) (.seq (.post [1,5,24,25,26] (.block 1 (jJ [1,5,7,24,25,26] y8.r9 (jJ [1,5,24,25,26,32] y8.r10 (.post [1,5,24,25,26] (.cond (.t 32) (jJ [2,3] y8.r11 (.ret)) (.skip))))))) (jK [1,5,24,25,26] y8.r12)))
def y8.r13:jI:=[ab 34 5,⟨some 35,none,.call yfw [.t 34]⟩,ab 8 35]
def y8.r14:jI:=[ab 37 8,ax 38 7 1,⟨some 39,none,.call yar [.t 37,.t 38]⟩,ab 36 39,ah 40 0 36,ah 41 1 36,ab 9 40,ab 10 41]
def y8.r15:jI:=[ab 42 10,a11 43 42 0]
def y8.r16:jI:=[ab 44 10,aw 2,ab 3 44]
def y8.r17:jI:=[⟨some 45,none,.op (.build [.p none,.sl none 0 0,.i .i64 0] [])⟩,a34 46 58 0 45,ab 11 46]
def y8.r18:jI:=[ab 47 11,⟨some 48,none,.call y4b [.t 47,.c (.i .i64 1)]⟩]
def y8.r19:jI:=[ab 49 8,ab 50 11,⟨some 51,none,.call y90 [.t 49,.t 50]⟩]
def y8.r20:jI:=[ab 52 11,ab 53 9,⟨some 54,none,.call y6k [.t 52,.t 53]⟩]
def y8.r21:jI:=[ab 56 11,⟨some 57,none,.call y6l [.t 56]⟩,ab 55 57,ah 58 0 55,ah 59 1 55,ab 12 58,ab 10 59]
def y8.r22:jI:=[ab 60 10,a11 61 60 0]
def y8.r23:jI:=[ab 62 10,aw 2,ab 3 62]
def y8.r24:jI:=[ab 63 12,⟨some 64,none,.op (.bin .add (.c (.s [119,101,102,116])) (.t 63))⟩,⟨some 65,none,.call ycq [.t 64]⟩,ab 13 65]
def y8.r25:jI:=[ab 66 13,az 67 66,a18 68 67 200000]
def y8.r26:jI:=[aw 2,af 3 9]
def y8.r27:jI:=[ab 69 13,ab 2 69,af 3 0]
def y8:AFunc:=⟨70,[.t 2,.t 3],jJ [1] y8.r0 (.seq (jJ [1,4] y8.r1 (jJ [1,4,17] y8.r2 (.post [1] (.cond (.t 17) (jJ [2,3] y8.r3 (.ret)) (.skip))))) (jJ [1,5] y8.r4 (.seq (jJ [1,5,23] y8.r5 (.post [1,5] (.cond (.t 23) (jJ [2,3] y8.r6 (.ret)) (.skip)))) (.seq (jJ [1,5,24,25,26] y8.r7 (.post [1,5] (.block 0 (.loop y8.l0)))) (jJ [1,8] y8.r13 (jJ [8,9,10] y8.r14 (.seq (jJ [8,9,10,43] y8.r15 (.post [8,9] (.cond (.t 43) (jJ [2,3] y8.r16 (.ret)) (.skip)))) (jJ [8,9,11] y8.r17 (jJ [8,9,11] y8.r18 (jJ [9,11] y8.r19 (jJ [11] y8.r20 (jJ [10,12] y8.r21 (.seq (jJ [10,12,61] y8.r22 (.post [12] (.cond (.t 61) (jJ [2,3] y8.r23 (.ret)) (.skip)))) (jJ [13] y8.r24 (.seq (jJ [13,68] y8.r25 (.post [13] (.cond (.t 68) (jJ [2,3] y8.r26 (.ret)) (.skip)))) (jJ [2,3] y8.r27 (.ret)))))))))))))))))⟩
theorem y8.ok:y1o Tryz.prog Tryz.f8 y8=true:=by kernel_rfl
theorem y8.at:Tryz.prog.funcs[y83]?=some Tryz.f8:=Tryz.func8
end C
end Go.Proofs.YthmkcebbeehbeaaGreatDoor
