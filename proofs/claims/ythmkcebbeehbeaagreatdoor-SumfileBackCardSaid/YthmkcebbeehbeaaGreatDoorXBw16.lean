/- Part 16 of the proof of the laws of the queries: CodeA. -/
import Derived.Test.YthmkcebbeehbeaaGreatDoorProg
import Derived.Test.YthmkcebbeehbeaaGreatDoorXBw15
set_option linter.unusedSimpArgs false
set_option linter.unusedVariables false
namespace Go.Proofs.YthmkcebbeehbeaaGreatDoor
open Am Go.Proofs
set_option maxRecDepth 100000
namespace C
abbrev jI:=List AStep
abbrev jJ (t:List Nat) (r:jI) (c:ACode):ACode:=.seq (.post t (.region r)) c
abbrev jK (t:List Nat) (r:jI):ACode:=.post t (.region r)
@[simp] def ab (x0 x1:Nat):AStep:=⟨some x0,none,.op (.mov (.t x1))⟩
@[simp] def ae (x0 x1 x2:Nat):AStep:=⟨some x0,none,.op (.load false x1 (.t x2))⟩
@[simp] def ah (x0 x1 x2:Nat):AStep:=⟨some x0,none,.op (.fadr x1 (.t x2))⟩
@[simp] def ai (x0:Nat) (x1:Int):AStep:=⟨some x0,none,.op (.mov (.c (.i .i64 x1)))⟩
@[simp] def aj (x0 x1 x2:Nat):AStep:=⟨some x0,none,.op (.ext x1 (.t x2))⟩
@[simp] def am (x0 x1 x2:Nat):AStep:=⟨some x0,(some (x1,true)),.op (.mov (.t x2))⟩
@[simp] def ap (x0:Nat):AStep:=⟨some x0,none,.op (.mov (.c (.b false)))⟩
@[simp] def aq (x0 x1 x2:Nat):AStep:=⟨some x0,none,.op (.pick (.t x1) (.t x2) (.c (.b false)))⟩
@[simp] def ar (x0 x1 x2:Nat):AStep:=⟨none,none,.op (.store x0 (.t x1) (.t x2))⟩
@[simp] def av (x0 x1:Nat):AStep:=⟨some x0,none,.op (.len false (.t x1))⟩
@[simp] def ax (x0 x1 x2:Nat):AStep:=⟨some x0,none,.op (.bin .lss (.t x1) (.t x2))⟩
@[simp] def ay (x0 x1:Nat) (x2:Int):AStep:=⟨some x0,none,.op (.bin .add (.t x1) (.c (.i .i64 x2)))⟩
@[simp] def az (x0 x1 x2:Nat):AStep:=⟨some x0,none,.op (.pick (.t x1) (.c (.b true)) (.t x2))⟩
@[simp] def a10 (x0 x1 x2 x3:Nat):AStep:=⟨some x0,none,.op (.iad x1 (.t x2) (.t x3))⟩
@[simp] def a11 (x0 x1 x2 x3:Nat):AStep:=⟨some x0,(some (x1,false)),.op (.load false x2 (.t x3))⟩
@[simp] def a12 (x0 x1 x2 x3:Nat):AStep:=⟨some x0,(some (x1,false)),.op (.fadr x2 (.t x3))⟩
@[simp] def a13 (x0 x1:Nat):AStep:=⟨some x0,none,.op (.nilc (.t x1))⟩
@[simp] def a14 (x0 x1 x2:Nat):AStep:=⟨some x0,none,.op (.load true x1 (.t x2))⟩
@[simp] def a15 (x0 x1 x2 x3:Nat):AStep:=⟨some x0,(some (x1,true)),.op (.load false x2 (.t x3))⟩
@[simp] def a16 (x0 x1 x2 x3:Nat):AStep:=⟨some x0,(some (x1,true)),.op (.fadr x2 (.t x3))⟩
@[simp] def a17 (x0:Nat):AStep:=⟨some x0,none,.op (.mov (.c (.s [])))⟩
@[simp] def a18 (x0 x1:Nat) (x2:Int):AStep:=⟨some x0,none,.op (.bin .eql (.t x1) (.c (.i .i64 x2)))⟩
@[simp] def a19 (x0 x1 x2:Nat):AStep:=⟨some x0,(some (x1,false)),.op (.mov (.t x2))⟩
@[simp] def a1a (x0 x1:Nat):AStep:=⟨some x0,none,.op (.boxf (.t x1))⟩
@[simp] def a1b (x0 x1:Nat):AStep:=⟨some x0,none,.op (.len true (.t x1))⟩
@[simp] def a1c (x0 x1:Nat) (x2:Int):AStep:=⟨some x0,none,.op (.bin .neq (.t x1) (.c (.i .i64 x2)))⟩
@[simp] def a1d (x0 x1:Nat):AStep:=⟨some x0,none,.op (.un .not (.t x1))⟩
@[simp] def a1e (x0 x1:Nat) (x2:Int):AStep:=⟨some x0,none,.op (.bin .gtr (.t x1) (.c (.i .i64 x2)))⟩
@[simp] def a1f (x0 x1 x2:Nat):AStep:=⟨some x0,none,.op (.bin .add (.t x1) (.t x2))⟩
@[simp] def a1g (x0:Nat):AStep:=⟨some x0,none,.op (.mov (.c (.b true)))⟩
@[simp] def a1h (x0 x1 x2 x3:Nat):AStep:=⟨some x0,(some (x1,true)),.op (.load true x2 (.t x3))⟩
@[simp] def a1i (x0 x1 x2:Nat) (x3:Int):AStep:=⟨some x0,(some (x1,false)),.op (.bin .gtr (.t x2) (.c (.i .i64 x3)))⟩
@[simp] def a1j (x0 x1 x2 x3:Nat):AStep:=⟨some x0,(some (x1,false)),.op (.pick (.t x2) (.t x3) (.c (.b false)))⟩
@[simp] def a1k (x0 x1:Nat) (x2:Int):AStep:=⟨some x0,none,.op (.bin .geq (.t x1) (.c (.i .i64 x2)))⟩
@[simp] def a1l (x0 x1 x2:Nat):AStep:=⟨some x0,none,.callv (.t x1) [.t x2]⟩
@[simp] def a1m (x0:Nat) (x1 x2 x3 x4:Int):AStep:=⟨some x0,none,.op (.new [.i .i64 x1,.s [],.i .i64 x2,.s [],.i .i64 x3,.i .i64 x4])⟩
@[simp] def a1n (x0 x1 x2 x3:Nat):AStep:=⟨some x0,(some (x1,true)),.op (.pick (.t x2) (.c (.b true)) (.t x3))⟩
@[simp] def a1o (x0 x1 x2:Nat):AStep:=⟨some x0,(some (x1,false)),.op (.len false (.t x2))⟩
@[simp] def a1p (x0 x1 x2:Nat):AStep:=⟨some x0,none,.op (.mov (.c (.sl none x1 x2)))⟩
@[simp] def a1q (x0 x1 x2:Nat) (x3:Int):AStep:=⟨some x0,(some (x1,true)),.op (.bin .eql (.t x2) (.c (.i .i64 x3)))⟩
@[simp] def a1r (x0 x1 x2 x3 x4:Nat):AStep:=⟨some x0,(some (x1,true)),.op (.iad x2 (.t x3) (.t x4))⟩
@[simp] def a1s (x0 x1 x2:Nat) (x3:Int):AStep:=⟨some x0,(some (x1,false)),.op (.bin .eql (.t x2) (.c (.i .i64 x3)))⟩
@[simp] def a1t (x0 x1 x2:Nat):AStep:=⟨some x0,(some (x1,false)),.op (.len true (.t x2))⟩
@[simp] def a1u (x0 x1 x2:Nat):AStep:=⟨some x0,(some (x1,true)),.op (.len true (.t x2))⟩
@[simp] def a1v (x0 x1:Nat):AStep:=⟨some x0,none,.op (.box (.t x1))⟩
@[simp] def a1w (x0 x1 x2 x3 x4:Nat):AStep:=⟨some x0,none,.op (.app x1 x2 (.t x3) (.t x4))⟩
@[simp] def a1x (x0 x1 x2:Nat):AStep:=⟨some x0,none,.op (.idx (.t x1) (.t x2))⟩
@[simp] def a1y (x0 x1 x2:Nat):AStep:=⟨some x0,(some (x1,true)),.op (.un .not (.t x2))⟩
@[simp] def a1z (x0 x1 x2:Nat):AStep:=⟨some x0,(some (x1,false)),.op (.un .not (.t x2))⟩
@[simp] def a23 (x0 x1 x2:Nat):AStep:=⟨some x0,none,.op (.bin .neq (.t x1) (.t x2))⟩
@[simp] def a24 (x0 x1 x2:Nat):AStep:=⟨some x0,none,.op (.sls (.t x1) none (some (.t x2)))⟩
@[simp] def a25 (x0 x1:Nat):AStep:=⟨some x0,none,.op (.bin .neq (.t x1) (.c (.s [])))⟩
@[simp] def a26 (x0 x1 x2:Nat) (x3:Int):AStep:=⟨some x0,(some (x1,true)),.op (.bin .leq (.t x2) (.c (.i .i64 x3)))⟩
@[simp] def a27 (x0 x1:Nat) (x2:Int):AStep:=⟨some x0,none,.op (.bin .lss (.t x1) (.c (.i .i64 x2)))⟩
@[simp] def a28 (x0:Nat):AStep:=⟨some x0,none,.op (.mov (.c (.p none)))⟩
@[simp] def a29 (x0 x1:Nat) (x2:Int):AStep:=⟨some x0,none,.op (.bin .eql (.t x1) (.c (.i .u8 x2)))⟩
@[simp] def a2a (x0 x1:Nat):AStep:=⟨some x0,none,.op (.bin .eql (.t x1) (.c (.s [])))⟩
@[simp] def a2b (x0 x1 x2:Nat) (x3:Int):AStep:=⟨some x0,(some (x1,false)),.op (.bin .neq (.t x2) (.c (.i .i64 x3)))⟩
@[simp] def a2c (x0 x1 x2 x3:Nat):AStep:=⟨some x0,(some (x1,false)),.op (.load true x2 (.t x3))⟩
@[simp] def a2d (x0 x1 x2:Nat):AStep:=⟨some x0,none,.op (.sls (.t x1) (some (.t x2)) none)⟩
@[simp] def a2e (x0 x1 x2:Nat) (x3:Int):AStep:=⟨some x0,(some (x1,true)),.op (.bin .sub (.t x2) (.c (.i .i64 x3)))⟩
@[simp] def a2f (x0 x1 x2 x3:Nat):AStep:=⟨some x0,(some (x1,false)),.op (.bin .neq (.t x2) (.t x3))⟩
@[simp] def a2g (x0 x1 x2:Nat):AStep:=⟨some x0,none,.op (.bin .eql (.t x1) (.t x2))⟩
@[simp] def a2h (x0 x1:Nat) (x2:UInt8):AStep:=⟨some x0,none,.op (.bin .add (.t x1) (.c (.s [x2])))⟩
@[simp] def a2i (x0 x1 x2 x3 x4 x5 x6 x7 x8 x9 x10 x11 x12:Nat):AStep:=⟨some x0,none,.op (.new [.s [],.sl none x1 x2,.sl none x3 x4,.sl none x5 x6,.sl none x7 x8,.sl none x9 x10,.sl none x11 x12])⟩
@[simp] def a2j (x0 x1 x2:Nat):AStep:=⟨some x0,none,.op (.bin .gtr (.t x1) (.t x2))⟩
@[simp] def a2k (x0 x1 x2:Nat) (x3:Int):AStep:=⟨some x0,(some (x1,true)),.op (.bin .leq (.t x2) (.c (.i .u8 x3)))⟩
@[simp] def a2l (x0 x1 x2:Nat) (x3:Int):AStep:=⟨some x0,(some (x1,false)),.op (.bin .geq (.t x2) (.c (.i .i64 x3)))⟩
@[simp] def a2m (x0 x1 x2:Nat) (x3:UInt8):AStep:=⟨some x0,(some (x1,true)),.op (.bin .neq (.t x2) (.c (.s [x3])))⟩
@[simp] def a2n (x0 x1 x2 x3:Nat):AStep:=⟨some x0,(some (x1,true)),.op (.bin .eql (.t x2) (.t x3))⟩
@[simp] def a2o (x0 x1:Nat):AStep:=⟨some x0,none,.op (.conv .u8 (.t x1))⟩
@[simp] def a2p (x0 x1 x2 x3:Nat):AStep:=⟨some x0,(some (x1,true)),.op (.idx (.t x2) (.t x3))⟩
@[simp] def a2q (x0 x1 x2 x3:Nat):AStep:=⟨some x0,(some (x1,true)),.op (.bin .lss (.t x2) (.t x3))⟩
@[simp] def a2r (x0 x1:Nat):AStep:=⟨some x0,none,.callv (.t x1) []⟩
@[simp] def a2s (x0:Nat) (x1 x2:Int) (x3 x4:Nat):AStep:=⟨some x0,none,.op (.new [.i .i64 x1,.s [],.s [],.i .i64 x2,.s [],.sl none x3 x4])⟩
@[simp] def a2t (x0 x1:Nat) (x2:Int):AStep:=⟨some x0,none,.op (.bin .geq (.t x1) (.c (.i .u8 x2)))⟩
@[simp] def a2u (x0 x1:Nat) (x2:Int):AStep:=⟨some x0,none,.op (.idx (.t x1) (.c (.i .i64 x2)))⟩
@[simp] def a2v (x0 x1 x2:Nat) (x3:Int):AStep:=⟨some x0,(some (x1,true)),.op (.idx (.t x2) (.c (.i .i64 x3)))⟩
@[simp] def a2w (x0 x1 x2:Nat) (x3:Int):AStep:=⟨some x0,(some (x1,true)),.op (.bin .geq (.t x2) (.c (.i .i64 x3)))⟩
@[simp] def a2x (x0 x1:Nat) (x2:Int):AStep:=⟨none,none,.op (.store x0 (.t x1) (.c (.i .i64 x2)))⟩
@[simp] def a2y (x0 x1:Nat) (x2:Int):AStep:=⟨some x0,none,.op (.sls (.t x1) (some (.c (.i .i64 x2))) none)⟩
@[simp] def a2z (x0 x1 x2:Nat) (x3:Int):AStep:=⟨some x0,(some (x1,false)),.op (.bin .lss (.t x2) (.c (.i .i64 x3)))⟩
@[simp] def a30 (x0 x1:Nat) (x2:Int):AStep:=⟨some x0,none,.op (.bin .sub (.t x1) (.c (.i .i64 x2)))⟩
@[simp] def a31 (x0 x1 x2 x3 x4 x5:Nat):AStep:=⟨some x0,none,.op (.bfz x1 x2 [.s []] [(x3,x4,.t x5)])⟩
@[simp] def a32 (x0 x1:Nat) (x2:Int):AStep:=⟨some x0,none,.op (.bin .shr (.t x1) (.c (.i .u64 x2)))⟩
@[simp] def a33 (x0 x1 x2:Nat):AStep:=⟨some x0,(some (x1,true)),.op (.len false (.t x2))⟩
@[simp] def a34 (x0 x1 x2 x3 x4 x5 x6 x7 x8 x9 x10 x11 x12:Nat):AStep:=⟨some x0,none,.op (.build [.s [],.sl none x1 x2,.sl none x3 x4,.sl none x5 x6,.sl none x7 x8,.sl none x9 x10,.sl none x11 x12] [])⟩
@[simp] def a35 (x0:Nat) (x1:Int) (x2:Nat):AStep:=⟨some x0,none,.op (.bin .mul (.c (.i .i64 x1)) (.t x2))⟩
@[simp] def a36 (x0 x1 x2 x3 x4:Nat):AStep:=⟨some x0,(some (x1,false)),.op (.iad x2 (.t x3) (.t x4))⟩
@[simp] def a38 (x0 x1 x2:Nat):AStep:=⟨some x0,none,.op (.new [.s [],.s [],.sl none x1 x2])⟩
@[simp] def a39 (x0 x1 x2 x3 x4:Nat):AStep:=⟨some x0,(some (x1,true)),.callv (.t x2) [.t x3,.t x4]⟩
@[simp] def a3a (x0 x1 x2:Nat) (x3:Int):AStep:=⟨some x0,(some (x1,true)),.op (.bin .gtr (.t x2) (.c (.i .i64 x3)))⟩
@[simp] def a3b (x0 x1:Nat) (x2:UInt8):AStep:=⟨some x0,none,.op (.bin .eql (.t x1) (.c (.s [x2])))⟩
@[simp] def a3c (x0 x1 x2 x3 x4 x5 x6 x7 x8 x9:Nat):AStep:=⟨some x0,(some (x1,true)),.op (.eqa false [x2,x3,x4,x5,x6,x7] (.t x8) (.t x9))⟩
@[simp] def a3d (x0 x1 x2:Nat):AStep:=⟨some x0,none,.op (.bin .geq (.t x1) (.t x2))⟩
@[simp] def a3e (x0:Nat) (x1:Int):AStep:=⟨some x0,none,.op (.new [.i .i64 x1,.s []])⟩
@[simp] def a3f (x0:Nat):AStep:=⟨some x0,none,.op (.new [.s [],.s [],.s []])⟩
@[simp] def a3g (x0 x1:Nat):AStep:=⟨some x0,none,.op (.conv .u64 (.t x1))⟩
@[simp] def a3h (x0 x1:Nat):AStep:=⟨some x0,none,.op (.conv .i64 (.t x1))⟩
@[simp] def a3i (x0:Nat):AStep:=⟨some x0,none,.op (.mov (.c (.nifc)))⟩
@[simp] def a3j (x0 x1 x2:Nat):AStep:=⟨some x0,(some (x1,true)),.op (.nilc (.t x2))⟩
@[simp] def a3k (x0 x1 x2:Nat) (x3:Int):AStep:=⟨some x0,(some (x1,true)),.op (.bin .lss (.t x2) (.c (.i .i64 x3)))⟩
@[simp] def a3l (x0 x1 x2:Nat):AStep:=⟨some x0,(some (x1,true)),.op (.bin .eql (.t x2) (.c (.s [])))⟩
@[simp] def a3m (x0 x1 x2 x3:Nat):AStep:=⟨some x0,(some (x1,true)),.op (.bin .leq (.t x2) (.t x3))⟩
@[simp] def a3n (x0 x1 x2:Nat):AStep:=⟨some x0,(some (x1,false)),.op (.bin .neq (.t x2) (.c (.s [])))⟩
@[simp] def a3o (x0 x1 x2 x3:Nat):AStep:=⟨some x0,none,.op (.boxT x1 x2 (.t x3))⟩
@[simp] def a3p (x0 x1:Nat) (x2:Int):AStep:=⟨some x0,none,.op (.bin .xor (.t x1) (.c (.i .u32 x2)))⟩
@[simp] def a3q (x0 x1:Nat):AStep:=⟨some x0,none,.op (.b2s (.t x1))⟩
@[simp] def a3r (x0 x1 x2:Nat) (x3:Int):AStep:=⟨some x0,(some (x1,true)),.op (.bin .neq (.t x2) (.c (.i .i64 x3)))⟩
@[simp] def a3s (x0:Nat) (x1 x2 x3 x4:Int) (x5 x6:Nat) (x7:Int) (x8 x9 x10 x11 x12 x13 x14 x15 x16 x17 x18:Nat) (x19:Int):AStep:=⟨some x0,none,.op (.build [.i .i64 x1,.s [],.i .i64 x2,.s [],.i .i64 x3,.i .i64 x4] [(x5,x6,.c (.i .i64 x7)),(x8,x9,.t x10),(x11,x12,.t x13),(x14,x15,.t x16),(x17,x18,.c (.i .i64 x19))])⟩
def yaz:FuncId:=17
def y77:FuncId:=18
def y8u:FuncId:=19
def y9a:FuncId:=7
def y8s:FuncId:=114
def yg7:FuncId:=167
def y9u:FuncId:=113
def y9f:FuncId:=57
def y94:FuncId:=115
def yc7:FuncId:=201
def yjf:FuncId:=230
def ydt:FuncId:=220
def y9t:FuncId:=202
def yeg:FuncId:=177
def y7a:FuncId:=203
def yai:FuncId:=178
def yg8:FuncId:=179
def y96:FuncId:=128
def yfc:FuncId:=196
def y71:FuncId:=168
def y9c:FuncId:=169
def y61:FuncId:=197
def y57:FuncId:=170
def y93:FuncId:=116
def y6k:FuncId:=198
def y51:FuncId:=171
def y9s:FuncId:=117
def y9m:FuncId:=118
def y8a:FuncId:=119
def yac:FuncId:=120
def y95:FuncId:=121
def y7m:FuncId:=70
def ycs:FuncId:=172
def y8w:FuncId:=228
def y7f:FuncId:=218
def ydq:FuncId:=199
def yab:FuncId:=173
def yba:FuncId:=122
def yak:FuncId:=200
def y9g:FuncId:=175
def y6f:FuncId:=176
def yeh:FuncId:=174
def y8q:FuncId:=123
def yct:FuncId:=58
def y8j:FuncId:=61
def y5t:FuncId:=124
def y5k:FuncId:=60
def y8i:FuncId:=63
def y63:FuncId:=125
def y5q:FuncId:=62
def y59:FuncId:=59
def yad:FuncId:=64
def y9e:FuncId:=66
def y62:FuncId:=126
def y4v:FuncId:=65
def y6s:FuncId:=127
def y6b:FuncId:=68
def y9d:FuncId:=67
def yb0:FuncId:=69
def yae:FuncId:=20
def y60:FuncId:=71
def y7k:FuncId:=77
def yb2:FuncId:=222
def y7n:FuncId:=223
def y5r:FuncId:=205
def yah:FuncId:=180
def y80:FuncId:=181
def y9b:FuncId:=142
def yc5:FuncId:=75
def y72:FuncId:=143
def y73:FuncId:=76
def y5b:FuncId:=24
def y40:FuncId:=135
def y35:FuncId:=129
def y5x:FuncId:=130
def y5v:FuncId:=134
def yan:FuncId:=133
def y6e:FuncId:=132
def ybb:FuncId:=131
def y6d:FuncId:=137
def ybn:FuncId:=136
def y6c:FuncId:=139
def ybc:FuncId:=138
def y6t:FuncId:=72
def y6p:FuncId:=207
def y4w:FuncId:=206
def y74:FuncId:=182
def ydr:FuncId:=183
def y7p:FuncId:=140
def y78:FuncId:=185
def y5l:FuncId:=184
def y6u:FuncId:=141
def y7b:FuncId:=73
def yb6:FuncId:=21
def yil:FuncId:=22
def y6o:FuncId:=74
def ydd:FuncId:=80
def y7x:FuncId:=27
def ycv:FuncId:=23
def ybr:FuncId:=78
def y6n:FuncId:=79
def y7w:FuncId:=26
def yb1:FuncId:=25
def yaj:FuncId:=145
def yc9:FuncId:=144
def yks:FuncId:=81
def yf0:FuncId:=28
def y7j:FuncId:=8
def y6i:FuncId:=99
def y87:FuncId:=100
def y8p:FuncId:=40
def y88:FuncId:=189
def y8o:FuncId:=162
def yaw:FuncId:=161
def y86:FuncId:=210
def yax:FuncId:=190
def y99:FuncId:=211
def y5z:FuncId:=191
def ybk:FuncId:=163
def y6m:FuncId:=104
def y85:FuncId:=158
def ya9:FuncId:=101
def y9k:FuncId:=102
def y7i:FuncId:=45
def yau:FuncId:=159
def yc3:FuncId:=188
def ybi:FuncId:=160
def yc4:FuncId:=103
def y8m:FuncId:=156
def y6x:FuncId:=157
def y8g:FuncId:=98
def yav:FuncId:=41
def y98:FuncId:=42
def yas:FuncId:=43
def yaa:FuncId:=44
def yat:FuncId:=13
def ygx:FuncId:=34
def y64:FuncId:=165
def y65:FuncId:=110
def y9z:FuncId:=53
def yck:FuncId:=54
def y9l:FuncId:=166
def y7y:FuncId:=111
def y89:FuncId:=112
def y3f:FuncId:=55
def y4g:FuncId:=85
def y5j:FuncId:=88
def yc6:FuncId:=56
def ybd:FuncId:=149
def y8v:FuncId:=151
def y7z:FuncId:=87
def yfn:FuncId:=150
def yfo:FuncId:=86
def ycu:FuncId:=35
def y5a:FuncId:=152
def ycw:FuncId:=153
def y2v:FuncId:=89
def y67:FuncId:=90
def y81:FuncId:=155
def ya2:FuncId:=154
def y79:FuncId:=92
def yaf:FuncId:=91
def y6j:FuncId:=94
def yam:FuncId:=93
def y8k:FuncId:=96
def yag:FuncId:=95
def yds:FuncId:=36
def yc8:FuncId:=37
def y8r:FuncId:=11
def yay:FuncId:=10
def y8n:FuncId:=38
def y9y:FuncId:=97
def ybj:FuncId:=39
def y8l:FuncId:=12
def y8h:FuncId:=4
def y0.r0:jI:=[a1a 2 0,ap 4]
def y0.r1:jI:=[ah 12 0 2,ae 13 1 12,av 14 13,ab 15 1,a2j 16 14 15,ab 17 16,a12 18 17 1 2,a11 19 17 1 18,a1o 20 17 19,a19 21 17 1,⟨some 22,(some (17,false)),.op (.bin .gtr (.t 20) (.t 21))⟩,az 23 17 22,ab 24 23,a12 25 24 2 2,a11 26 24 1 25,a1o 27 24 26,a19 28 24 1,⟨some 29,(some (24,false)),.op (.bin .gtr (.t 27) (.t 28))⟩,az 30 24 29]
def y0.r2:jI:=[a1g 4]
def y0.r3:jI:=[ai 5 0]
def y0.r4:jI:=[ai 6 0]
def y0.r5:jI:=[ab 31 6,ah 32 0 2,ae 33 1 32,av 34 33,ax 35 31 34]
def y0.r6:jI:=[ab 38 5,ah 39 0 2,ae 40 1 39,ab 41 6,a10 42 3 40 41,ah 43 0 42,ae 44 1 43,a1b 45 44,a1f 46 38 45,ah 47 0 2,ae 48 1 47,ab 49 6,a10 50 3 48 49,ah 51 1 50,ae 52 1 51,a1b 53 52,a1f 54 46 53,ah 55 0 2,ae 56 1 55,ab 57 6,a10 58 3 56 57,ah 59 2 58,ae 60 1 59,av 61 60,a35 62 10 61,a1f 63 54 62,ab 5 63]
def y0.r7:jI:=[ai 7 0]
def y0.r8:jI:=[ab 64 7,ah 65 0 2,ae 66 1 65,ab 67 6,a10 68 3 66 67,ah 69 2 68,ae 70 1 69,av 71 70,ax 72 64 71,ab 73 72,am 74 73 7,a3k 75 73 74 100,aq 76 73 75]
def y0.r9:jI:=[ab 79 5,ah 80 0 2,ae 81 1 80,ab 82 6,a10 83 3 81 82,ah 84 2 83,ae 85 1 84,ab 86 7,a10 87 2 85 86,ah 88 1 87,ae 89 1 88,a1b 90 89,a1f 91 79 90,ab 5 91]
def y0.r10:jI:=[ab 77 7,ay 78 77 1,ab 7 78]
def y0.l1:ACode:=.seq (jJ [2,5,6,7,76] y0.r8 (.post [2,5,6,7] (.cond (.t 76) (.skip) (.exit 2)))) (.seq (.post [2,5,6,7] (.block 3 (jK [2,5,6,7] y0.r9))) (jK [2,5,6,7] y0.r10))
def y0.r11:jI:=[ab 92 5,a1e 93 92 30000]
def y0.r12:jI:=[a1g 4]
def y0.r13:jI:=[ab 36 6,ay 37 36 1,ab 6 37]
def y0.l0:ACode:=.seq (jJ [2,5,6,35] y0.r5 (.post [2,5,6] (.cond (.t 35) (.skip) (.exit 0)))) (.seq (.post [2,5,6] (.block 1 (.seq (.post [2,5,6] (.draw [0,0,2,0,14,30,62,126,255,0,512,0,3584,7680,15872,32256,65535,0,131072,0,917504,1966080,4063232,8257536,16646144,33554431,67108863] y0.r6)) (.seq (jJ [2,5,6,7] y0.r7 (.post [2,5,6] (.block 2 (.loop y0.l1)))) (jJ [2,5,6,93] y0.r11 (.post [2,5,6] (.cond (.t 93) (jJ [4] y0.r12 (.ret)) (.skip)))))))) (jK [2,5,6] y0.r13))
def y0.r14:jI:=[ai 8 0]
def y0.r15:jI:=[ab 94 8,ah 95 1 2,ae 96 1 95,av 97 96,ax 98 94 97]
def y0.r16:jI:=[ab 101 5,ah 102 1 2,ae 103 1 102,ab 104 8,a10 105 3 103 104,ah 106 0 105,ae 107 1 106,a1b 108 107,a1f 109 101 108,ah 110 1 2,ae 111 1 110,ab 112 8,a10 113 3 111 112,ah 114 1 113,ae 115 1 114,a1b 116 115,a1f 117 109 116,ah 118 1 2,ae 119 1 118,ab 120 8,a10 121 3 119 120,ah 122 2 121,ae 123 1 122,a1b 124 123,a1f 125 117 124,ab 5 125]
def y0.r17:jI:=[ab 126 5,a1e 127 126 30000]
def y0.r18:jI:=[a1g 4]
def y0.r19:jI:=[ab 99 8,ay 100 99 1,ab 8 100]
def y0.l2:ACode:=.seq (jJ [2,5,8,98] y0.r15 (.post [2,5,8] (.cond (.t 98) (.skip) (.exit 4)))) (.seq (.post [2,5,8] (.block 5 (.seq (.post [2,5,8] (.draw [0,0,2,0,14,30,62,126,255,0,512,0,3584,7680,15872,32256,65535,0,131072,0,917504,1966080,4063232,8257536,16777215,33554431] y0.r16)) (jJ [2,5,8,127] y0.r17 (.post [2,5,8] (.cond (.t 127) (jJ [4] y0.r18 (.ret)) (.skip))))))) (jK [2,5,8] y0.r19))
def y0.r20:jI:=[ai 9 0]
def y0.r21:jI:=[ab 128 9,ah 129 2 2,ae 130 1 129,av 131 130,ax 132 128 131]
def y0.r22:jI:=[ah 135 2 2,ae 136 1 135,ab 137 9,a10 138 6 136 137,a14 139 6 138,a2s 10 0 0 0 0,ar 6 10 139]
def y0.r23:jI:=[ab 140 5,ah 141 1 10,ae 142 1 141,a1b 143 142,a1f 144 140 143,ah 145 2 10,ae 146 1 145,a1b 147 146,a1f 148 144 147,ah 149 4 10,ae 150 1 149,a1b 151 150,a1f 152 148 151,ah 153 5 10,ae 154 1 153,av 155 154,a35 156 10 155,a1f 157 152 156,ab 5 157]
def y0.r24:jI:=[ai 11 0]
def y0.r25:jI:=[ab 158 11,ah 159 5 10,ae 160 1 159,av 161 160,ax 162 158 161,ab 163 162,am 164 163 11,a3k 165 163 164 100,aq 166 163 165]
def y0.r26:jI:=[ab 169 5,ah 170 5 10,ae 171 1 170,ab 172 11,a10 173 1 171 172,ae 174 1 173,a1b 175 174,a1f 176 169 175,ab 5 176]
def y0.r27:jI:=[ab 167 11,ay 168 167 1,ab 11 168]
def y0.l4:ACode:=.seq (jJ [2,5,9,10,11,166] y0.r25 (.post [2,5,9,10,11] (.cond (.t 166) (.skip) (.exit 8)))) (.seq (.post [2,5,9,10,11] (.block 9 (jK [2,5,9,10,11] y0.r26))) (jK [2,5,9,10,11] y0.r27))
def y0.r28:jI:=[ab 177 5,a1e 178 177 60000]
def y0.r29:jI:=[a1g 4]
def y0.r30:jI:=[ab 133 9,ay 134 133 1,ab 9 134]
def y0.l3:ACode:=.seq (jJ [2,5,9,132] y0.r21 (.post [2,5,9] (.cond (.t 132) (.skip) (.exit 6)))) (.seq (.post [2,5,9] (.block 7 (jJ [2,5,9,10] y0.r22 (jJ [2,5,9,10] y0.r23 (.seq (jJ [2,5,9,10,11] y0.r24 (.post [2,5,9] (.block 8 (.loop y0.l4)))) (jJ [2,5,9,178] y0.r28 (.post [2,5,9] (.cond (.t 178) (jJ [4] y0.r29 (.ret)) (.skip))))))))) (jK [2,5,9] y0.r30))
def y0.r31:jI:=[ap 4]
def y0:AFunc:=⟨179,[.t 4],jJ [1,2] y0.r0 (.seq (jJ [2,30] y0.r1 (.post [2] (.cond (.t 30) (jJ [4] y0.r2 (.ret)) (.skip)))) (jJ [2,5] y0.r3 (.seq (jJ [2,5,6] y0.r4 (.post [2,5] (.block 0 (.loop y0.l0)))) (.seq (jJ [2,5,8] y0.r14 (.post [2,5] (.block 4 (.loop y0.l2)))) (.seq (jJ [2,5,9] y0.r20 (.post [] (.block 6 (.loop y0.l3)))) (jJ [4] y0.r31 (.ret)))))))⟩
theorem y0.ok:y1x Tryz.prog Tryz.f17 y0=true:=by kernel_rfl
theorem y0.at:Tryz.prog.funcs[yaz]?=some Tryz.f17:=Tryz.func17
def y1k.r0:jI:=[ap 2]
def y1k.r1:jI:=[ai 3 0]
def y1k.r2:jI:=[ab 4 3,ab 5 0,av 6 5,ax 7 4 6]
def y1k.r3:jI:=[ab 10 3,a1k 11 10 60,ab 12 11,a19 13 12 0,a19 14 12 3,a36 15 12 1 13 14,a11 16 12 1 15,a1t 17 12 16,a1i 18 12 17 100,az 19 12 18]
def y1k.r4:jI:=[a1g 2]
def y1k.r5:jI:=[ab 8 3,ay 9 8 1,ab 3 9]
def y1k.l0:ACode:=.seq (jJ [0,3,7] y1k.r2 (.post [0,3] (.cond (.t 7) (.skip) (.exit 0)))) (.seq (.post [0,3] (.block 1 (jJ [0,3,19] y1k.r3 (.post [0,3] (.cond (.t 19) (jJ [2] y1k.r4 (.ret)) (.skip)))))) (jK [0,3] y1k.r5))
def y1k.r6:jI:=[ap 2]
def y1k:AFunc:=⟨20,[.t 2],jJ [0] y1k.r0 (.seq (jJ [0,3] y1k.r1 (.post [] (.block 0 (.loop y1k.l0)))) (jJ [2] y1k.r6 (.ret)))⟩
theorem y1k.ok:y1x Tryz.prog Tryz.f18 y1k=true:=by kernel_rfl
theorem y1k.at:Tryz.prog.funcs[y77]?=some Tryz.f18:=Tryz.func18
def y1n.r0:jI:=[ap 2]
def y1n.r1:jI:=[ai 3 0]
def y1n.r2:jI:=[ab 4 3,ab 5 0,av 6 5,ax 7 4 6]
def y1n.r3:jI:=[ab 10 0,ab 11 3,a10 12 1 10 11,ae 13 1 12,a1b 14 13,a1e 15 14 100]
def y1n.r4:jI:=[a1g 2]
def y1n.r5:jI:=[ab 8 3,ay 9 8 1,ab 3 9]
def y1n.l0:ACode:=.seq (jJ [0,3,7] y1n.r2 (.post [0,3] (.cond (.t 7) (.skip) (.exit 0)))) (.seq (.post [0,3] (.block 1 (jJ [0,3,15] y1n.r3 (.post [0,3] (.cond (.t 15) (jJ [2] y1n.r4 (.ret)) (.skip)))))) (jK [0,3] y1n.r5))
def y1n.r6:jI:=[ap 2]
def y1n:AFunc:=⟨16,[.t 2],jJ [0] y1n.r0 (.seq (jJ [0,3] y1n.r1 (.post [] (.block 0 (.loop y1n.l0)))) (jJ [2] y1n.r6 (.ret)))⟩
theorem y1n.ok:y1x Tryz.prog Tryz.f19 y1n=true:=by kernel_rfl
theorem y1n.at:Tryz.prog.funcs[y8u]?=some Tryz.f19:=Tryz.func19
def y4a.r0:jI:=[a1a 1 0,ap 2]
def y4a.r1:jI:=[ah 3 0 1,ae 4 1 3,a1b 5 4,a1e 6 5 100,ab 7 6,a12 8 7 4 1,a2c 9 7 3 8,⟨some 10,(some (7,false)),.call yaz [.t 9,.c (.i .i64 80)]⟩,az 11 7 10,ab 12 11,a12 13 12 1 1,a11 14 12 1 13,⟨some 15,(some (12,false)),.call y77 [.t 14]⟩,az 16 12 15,ab 17 16,a12 18 17 2 1,a11 19 17 1 18,⟨some 20,(some (17,false)),.call y77 [.t 19]⟩,az 21 17 20,ab 22 21,a12 23 22 3 1,a11 24 22 1 23,a1o 25 22 24,a1i 26 22 25 200,az 27 22 26,ab 28 27,a12 29 28 3 1,a11 30 28 1 29,⟨some 31,(some (28,false)),.call y8u [.t 30]⟩,az 32 28 31,ab 2 32]
def y4a:AFunc:=⟨33,[.t 2],jJ [1] y4a.r0 (jJ [2] y4a.r1 (.ret))⟩
theorem y4a.ok:y1x Tryz.prog Tryz.f7 y4a=true:=by kernel_rfl
theorem y4a.at:Tryz.prog.funcs[y9a]?=some Tryz.f7:=Tryz.func7
def y2j.r0:jI:=[ai 2 0]
def y2j.r1:jI:=[ai 3 2]
def y2j.r2:jI:=[ab 5 0,a2t 6 5 48,ab 7 6,am 8 7 0,a2k 9 7 8 57,aq 10 7 9,ab 4 10]
def y2j.r3:jI:=[ab 12 0,a2t 13 12 65,ab 14 13,am 15 14 0,a2k 16 14 15 90,aq 17 14 16,ab 11 17]
def y2j.r4:jI:=[ab 18 0,a2t 19 18 97,ab 20 19,am 21 20 0,a2k 22 20 21 122,aq 23 20 22,ab 11 23]
def y2j.r5:jI:=[ab 24 0,a29 25 24 95,ab 11 25]
def y2j.r6:jI:=[ai 3 1]
def y2j.r7:jI:=[ab 26 3,ab 2 26]
def y2j.r8:jI:=[ai 2 0]
def y2j:AFunc:=⟨27,[.t 2],jJ [0] y2j.r0 (jJ [0,3] y2j.r1 (.seq (.post [] (.block 0 (.seq (.post [3] (.block 2 (.seq (.post [] (.block 1 (.seq (.seq (jJ [0,3,4] y2j.r2 (.post [0,3] (.cond (.t 4) (.exit 1) (.skip)))) (.seq (jJ [0,3,11] y2j.r3 (.post [3,11] (.cond (.t 11) (.skip) (jJ [0,3,11] y2j.r4 (.post [3,11] (.cond (.t 11) (.skip) (jK [3,11] y2j.r5))))))) (.post [] (.cond (.t 11) (.exit 2) (.skip))))) (.exit 0)))) (jK [3] y2j.r6)))) (.seq (jJ [2] y2j.r7 (.ret)) (.exit 0))))) (jJ [2] y2j.r8 (.ret))))⟩
theorem y2j.ok:y1x Tryz.prog Tryz.f114 y2j=true:=by kernel_rfl
theorem y2j.at:Tryz.prog.funcs[y8s]?=some Tryz.f114:=Tryz.func114
def y1m.r0:jI:=[a17 2,a17 3]
def y1m.r1:jI:=[ab 7 0,a2a 8 7]
def y1m.r2:jI:=[a17 2,a17 3]
def y1m.r3:jI:=[ai 4 1]
def y1m.r4:jI:=[ab 9 0,a2u 10 9 0,⟨some 11,none,.call y8s [.t 10]⟩,a1c 12 11 2]
def y1m.r5:jI:=[ab 13 0,⟨some 14,none,.call yg7 [.t 13,.c (.s [48,49,50,51,52,53,54,55,56,57])]⟩,ab 5 14]
def y1m.r6:jI:=[ab 15 0,ab 16 0,a1b 17 16,ab 18 5,a1b 19 18,⟨some 20,none,.op (.bin .sub (.t 17) (.t 19))⟩,a24 21 15 20,ab 22 5,ab 2 21,ab 3 22]
def y1m.r7:jI:=[ab 23 0,a1b 24 23,ai 25 0]
def y1m.r8:jI:=[ax 26 25 24]
def y1m.r9:jI:=[ab 27 25,ab 6 27]
def y1m.r10:jI:=[ab 28 0,ab 29 6,a1x 30 28 29,⟨some 31,none,.call y8s [.t 30]⟩,ab 32 4,ax 33 31 32]
def y1m.r11:jI:=[ab 34 0,ab 35 6,a24 36 34 35,ab 37 0,ab 38 6,a2d 39 37 38,ab 2 36,ab 3 39]
def y1m.r12:jI:=[ay 40 25 1,ab 25 40]
def y1m.l0:ACode:=jJ [0,4,24,25,26] y1m.r8 (.seq (.post [0,4,24,25] (.cond (.t 26) (.skip) (.exit 0))) (.seq (.post [0,4,24,25] (.block 1 (jJ [0,4,6,24,25] y1m.r9 (jJ [0,4,6,24,25,33] y1m.r10 (.post [0,4,24,25] (.cond (.t 33) (.seq (.post [2,3] (.draw [0,0,3,0,0,24,7,127] y1m.r11)) (.ret)) (.skip))))))) (jK [0,4,24,25] y1m.r12)))
def y1m.r13:jI:=[ab 41 0,ab 2 41,a17 3]
def y1m:AFunc:=⟨42,[.t 2,.t 3],jJ [0] y1m.r0 (.seq (jJ [0,8] y1m.r1 (.post [0] (.cond (.t 8) (jJ [2,3] y1m.r2 (.ret)) (.skip)))) (jJ [0,4] y1m.r3 (.seq (jJ [0,4,12] y1m.r4 (.post [0,4] (.cond (.t 12) (jJ [0,5] y1m.r5 (jJ [2,3] y1m.r6 (.ret))) (.skip)))) (.seq (jJ [0,4,24,25] y1m.r7 (.post [0] (.block 0 (.loop y1m.l0)))) (jJ [2,3] y1m.r13 (.ret))))))⟩
theorem y1m.ok:y1x Tryz.prog Tryz.f113 y1m=true:=by kernel_rfl
theorem y1m.at:Tryz.prog.funcs[y9u]?=some Tryz.f113:=Tryz.func113
def y48.r0:jI:=[ap 2]
def y48.r1:jI:=[ab 6 0,⟨some 7,none,.call y9u [.t 6]⟩,ab 5 7,aj 8 0 5,aj 9 1 5,ab 3 8,ab 4 9]
def y48.r2:jI:=[ab 10 3,a25 11 10,ab 12 11,am 13 12 4,a3l 14 12 13,aq 15 12 14,ab 16 15,am 17 16 0,a1u 18 16 17,a26 19 16 18 16,aq 20 16 19,ab 21 20,am 22 21 0,a2v 23 21 22 0,⟨some 24,(some (21,true)),.call y8s [.t 23]⟩,a1q 25 21 24 2,aq 26 21 25,ab 2 26]
def y48:AFunc:=⟨27,[.t 2],jJ [0] y48.r0 (jJ [0,3,4] y48.r1 (jJ [2] y48.r2 (.ret)))⟩
theorem y48.ok:y1x Tryz.prog Tryz.f57 y48=true:=by kernel_rfl
theorem y48.at:Tryz.prog.funcs[y9f]?=some Tryz.f57:=Tryz.func57
def yw.r0:jI:=[ai 6 0]
def yw.r1:jI:=[ab 10 0,av 11 10,ai 12 0]
def yw.r2:jI:=[ax 13 12 11]
def yw.r3:jI:=[ab 14 12,a10 15 3 10 12,a14 16 3 15,a38 8 0 0,ab 7 14,ar 3 8 16]
def yw.r4:jI:=[ab 17 1,a14 18 3 8,a1l 19 17 18,ab 9 19]
def yw.r5:jI:=[ab 20 9,a1c 21 20 0]
def yw.r6:jI:=[ab 22 9,ab 6 22]
def yw.r7:jI:=[ab 23 7,a1e 24 23 0,ab 25 24,am 26 25 2,am 27 25 0,am 28 25 7,a2e 29 25 28 1,a1r 30 25 3 27 29,a1h 31 25 3 30,a1h 32 25 3 8,a39 33 25 26 31 32,a2w 34 25 33 0,aq 35 25 34]
def yw.r8:jI:=[ai 6 13]
def yw.r9:jI:=[ay 36 12 1,ab 12 36]
def yw.l0:ACode:=jJ [0,1,2,10,11,12,13] yw.r2 (.seq (.post [0,1,2,10,11,12] (.cond (.t 13) (.skip) (.exit 0))) (.seq (.post [0,1,2,10,11,12] (.block 1 (jJ [0,1,2,7,8,10,11,12] yw.r3 (.seq (jJ [0,1,2,7,8,9,10,11,12] yw.r4 (jJ [0,1,2,7,8,9,10,11,12,21] yw.r5 (.post [0,1,2,7,8,10,11,12] (.cond (.t 21) (jJ [6] yw.r6 (.ret)) (.skip))))) (.seq (.post [0,1,2,10,11,12,35] (.draw [0,1,3,7,7,7,39,119,247,7,1023,2047,4095] yw.r7)) (.post [0,1,2,10,11,12] (.cond (.t 35) (jJ [6] yw.r8 (.ret)) (.skip)))))))) (jK [0,1,2,10,11,12] yw.r9)))
def yw.r10:jI:=[ai 6 0]
def yw:AFunc:=⟨37,[.t 6],jJ [0,1,2] yw.r0 (.seq (jJ [0,1,2,10,11,12] yw.r1 (.post [] (.block 0 (.loop yw.l0)))) (jJ [6] yw.r10 (.ret)))⟩
theorem yw.ok:y1x Tryz.prog Tryz.f115 yw=true:=by kernel_rfl
theorem yw.at:Tryz.prog.funcs[y94]?=some Tryz.f115:=Tryz.func115
def y1e.r0:jI:=[ai 2 0,ai 3 0]
def y1e.r1:jI:=[ab 7 0,a2a 8 7]
def y1e.r2:jI:=[ai 2 0,ai 3 1]
def y1e.r3:jI:=[ab 9 0,a1b 10 9,ai 11 0]
def y1e.r4:jI:=[ax 12 11 10]
def y1e.r5:jI:=[ab 13 11,ab 4 13]
def y1e.r6:jI:=[ab 14 0,ab 15 4,a1x 16 14 15,⟨some 17,none,.call y8s [.t 16]⟩,a1c 18 17 1]
def y1e.r7:jI:=[ai 2 0,ai 3 3]
def y1e.r8:jI:=[ay 19 11 1,ab 11 19]
def y1e.l0:ACode:=jJ [0,10,11,12] y1e.r4 (.seq (.post [0,10,11] (.cond (.t 12) (.skip) (.exit 0))) (.seq (.post [0,10,11] (.block 1 (jJ [0,4,10,11] y1e.r5 (jJ [0,10,11,18] y1e.r6 (.post [0,10,11] (.cond (.t 18) (jJ [2,3] y1e.r7 (.ret)) (.skip))))))) (jK [0,10,11] y1e.r8)))
def y1e.r9:jI:=[ab 21 0,a2u 22 21 0,a29 23 22 48,ab 24 23,am 25 24 0,a1u 26 24 25,a3a 27 24 26 1,aq 28 24 27,ab 20 28]
def y1e.r10:jI:=[ai 2 0,ai 3 3]
def y1e.r11:jI:=[ab 30 0,a1b 31 30,a1e 32 31 9,ab 29 32]
def y1e.r12:jI:=[ai 2 0,ai 3 2]
def y1e.r13:jI:=[ab 34 0,⟨some 35,none,.call yjf [.t 34]⟩,ab 33 35,aj 36 0 33,aj 37 1 33,ab 5 36,ab 6 37]
def y1e.r14:jI:=[ab 38 6,⟨some 39,none,.op (.eqk .ifn true (.t 38) (.c (.nifc)))⟩,ab 40 39,a19 41 40 5,a1i 42 40 41 268435456,az 43 40 42]
def y1e.r15:jI:=[ai 2 0,ai 3 2]
def y1e.r16:jI:=[ab 44 5,ab 2 44,ai 3 0]
def y1e:AFunc:=⟨45,[.t 2,.t 3],jJ [0] y1e.r0 (.seq (jJ [0,8] y1e.r1 (.post [0] (.cond (.t 8) (jJ [2,3] y1e.r2 (.ret)) (.skip)))) (.seq (jJ [0,10,11] y1e.r3 (.post [0] (.block 0 (.loop y1e.l0)))) (.seq (.post [0] (.block 2 (jJ [0,20] y1e.r9 (.post [0] (.cond (.t 20) (jJ [2,3] y1e.r10 (.ret)) (jJ [0,29] y1e.r11 (.post [0] (.cond (.t 29) (jJ [2,3] y1e.r12 (.ret)) (.skip))))))))) (jJ [5,6] y1e.r13 (.seq (jJ [5,43] y1e.r14 (.post [5] (.cond (.t 43) (jJ [2,3] y1e.r15 (.ret)) (.skip)))) (jJ [2,3] y1e.r16 (.ret)))))))⟩
theorem y1e.ok:y1x Tryz.prog Tryz.f220 y1e=true:=by kernel_rfl
theorem y1e.at:Tryz.prog.funcs[ydt]?=some Tryz.f220:=Tryz.func220
def y4u.r0:jI:=[ai 2 0,ap 3]
def y4u.r1:jI:=[ab 7 0,⟨some 8,none,.call ydt [.t 7]⟩,ab 6 8,aj 9 0 6,aj 10 1 6,ab 4 9,ab 5 10]
def y4u.r2:jI:=[ab 11 4,ab 12 5,a18 13 12 0,ab 2 11,ab 3 13]
def y4u:AFunc:=⟨14,[.t 2,.t 3],jJ [0] y4u.r0 (jJ [4,5] y4u.r1 (jJ [2,3] y4u.r2 (.ret)))⟩
theorem y4u.ok:y1x Tryz.prog Tryz.f202 y4u=true:=by kernel_rfl
theorem y4u.at:Tryz.prog.funcs[y9t]?=some Tryz.f202:=Tryz.func202
def yf.r0:jI:=[a1m 2 0 0 0 0,ap 3]
def yf.r1:jI:=[⟨some 9,none,.op (.build [.i .i64 0,.s [],.i .i64 0,.s [],.i .i64 0,.i .i64 0] [(5,1,.c (.i .i64 (-1)))])⟩,a1m 4 0 0 0 0,ar 6 4 9]
def yf.r2:jI:=[a1g 5]
def yf.r3:jI:=[ab 10 0,⟨some 11,none,.call yc7 [.t 10,.c (.i .u8 43)]⟩,ab 6 11]
def yf.r4:jI:=[ab 12 6,a1k 13 12 0]
def yf.r5:jI:=[ab 15 0,ab 16 6,ay 17 16 1,a2d 18 15 17,⟨some 19,none,.call y9t [.t 18]⟩,ab 14 19,aj 20 0 14,aj 21 1 14,ah 22 5 4,ar 1 22 20,ab 5 21]
def yf.r6:jI:=[ab 23 5,a1d 24 23]
def yf.r7:jI:=[a14 25 6 4,ar 6 2 25,ap 3]
def yf.r8:jI:=[ab 26 0,ab 27 6,a24 28 26 27,ab 0 28]
def yf.r9:jI:=[ab 30 0,⟨some 31,none,.call y9u [.t 30]⟩,ab 29 31,aj 32 0 29,aj 33 1 29,ab 7 32,ab 8 33]
def yf.r10:jI:=[ab 34 8,a2a 35 34]
def yf.r11:jI:=[ab 36 7,ah 37 0 4,a2x 1 37 5,ah 38 3 4,ar 1 38 36]
def yf.r12:jI:=[a14 39 6 4,ar 6 2 39,a1g 3]
def yf.r13:jI:=[ab 40 7,ah 41 1 4,ar 1 41 40]
def yf.r14:jI:=[ab 42 8,a2u 43 42 0,a29 44 43 126]
def yf.r15:jI:=[ab 46 8,a2y 47 46 1,⟨some 48,none,.call y9u [.t 47]⟩,ab 45 48,aj 49 0 45,aj 50 1 45,ab 7 49,ab 8 50]
def yf.r16:jI:=[ab 52 7,⟨some 53,none,.call y9t [.t 52]⟩,ab 51 53,aj 54 0 51,aj 55 1 51,ah 56 2 4,ar 1 56 54,ab 5 55]
def yf.r17:jI:=[ab 57 5,a1d 58 57,ab 59 58,a19 60 59 8,⟨some 61,(some (59,false)),.op (.bin .eql (.t 60) (.c (.s [])))⟩,az 62 59 61]
def yf.r18:jI:=[a14 63 6 4,ar 6 2 63,ap 3]
def yf.r19:jI:=[ab 64 8,a2u 65 64 0,⟨some 66,none,.call yc7 [.c (.s [32,46,36,64,40,32,37,35]),.t 65]⟩,ah 67 0 4,ar 1 67 66]
def yf.r20:jI:=[ab 68 8,a2y 69 68 1,ab 8 69]
def yf.r21:jI:=[ah 70 0 4,ae 71 1 70]
def yf.r22:jI:=[a18 73 71 1,ab 72 73]
def yf.r23:jI:=[a18 74 71 6,ab 72 74]
def yf.r24:jI:=[ab 75 8,ah 76 3 4,ar 1 76 75]
def yf.r25:jI:=[a18 78 71 4,ab 77 78]
def yf.r26:jI:=[a14 79 6 4,ab 80 8,a3b 81 80 41,ar 6 2 79,ab 3 81]
def yf.r27:jI:=[a18 83 71 2,ab 82 83]
def yf.r28:jI:=[a18 84 71 3,ab 82 84]
def yf.r29:jI:=[a18 85 71 7,ab 82 85]
def yf.r30:jI:=[ab 87 8,⟨some 88,none,.call y9t [.t 87]⟩,ab 86 88,aj 89 0 86,aj 90 1 86,ah 91 4 4,ar 1 91 89,ab 5 90]
def yf.r31:jI:=[ap 5]
def yf.r32:jI:=[a14 92 6 4,ab 93 5,ar 6 2 92,ab 3 93]
def yf:AFunc:=⟨94,[.cell 2 true 6,.t 3],jJ [0,2] yf.r0 (jJ [0,2,4] yf.r1 (jJ [0,2,4,5] yf.r2 (.seq (jJ [0,2,4,5,6] yf.r3 (jJ [0,2,4,5,6,13] yf.r4 (.post [0,2,4,5] (.cond (.t 13) (.seq (jJ [0,2,4,5,6] yf.r5 (jJ [0,2,4,5,6,24] yf.r6 (.post [0,2,4,5,6] (.cond (.t 24) (jJ [2,3] yf.r7 (.ret)) (.skip))))) (jK [0,2,4,5] yf.r8)) (.skip))))) (jJ [2,4,5,7,8] yf.r9 (.seq (jJ [2,4,5,7,8,35] yf.r10 (.post [2,4,5,7,8] (.cond (.t 35) (jJ [2,4] yf.r11 (jJ [2,3] yf.r12 (.ret))) (.skip)))) (jJ [2,4,5,8] yf.r13 (.seq (jJ [2,4,5,8,44] yf.r14 (.post [2,4,5,8] (.cond (.t 44) (jJ [2,4,7,8] yf.r15 (jJ [2,4,5,8] yf.r16 (jJ [2,4,5,8,62] yf.r17 (.post [2,4,5,8] (.cond (.t 62) (jJ [2,3] yf.r18 (.ret)) (.skip)))))) (.skip)))) (jJ [2,4,5,8] yf.r19 (.seq (jJ [2,4,5,8] yf.r20 (jJ [2,4,5,8,71] yf.r21 (.post [2,4,5] (.block 0 (.seq (jJ [2,4,5,8,71,72] yf.r22 (.post [2,4,5,8,71,72] (.cond (.t 72) (.skip) (jK [2,4,5,8,71,72] yf.r23)))) (.post [2,4,5] (.cond (.t 72) (jK [2,4,5] yf.r24) (jJ [2,4,8,71,77] yf.r25 (.post [2,4,5] (.cond (.t 77) (jJ [2,3] yf.r26 (.ret)) (.seq (jJ [2,4,8,71,82] yf.r27 (.post [2,4,8,82] (.cond (.t 82) (.skip) (jJ [2,4,8,71,82] yf.r28 (.post [2,4,8,82] (.cond (.t 82) (.skip) (jK [2,4,8,82] yf.r29))))))) (.post [2,4,5] (.cond (.t 82) (jK [2,4,5] yf.r30) (jK [2,4,5] yf.r31)))))))))))))) (jJ [2,3] yf.r32 (.ret)))))))))))⟩
theorem yf.ok:y1x Tryz.prog Tryz.f177 yf=true:=by kernel_rfl
theorem yf.at:Tryz.prog.funcs[yeg]?=some Tryz.f177:=Tryz.func177
def y3l.r0:jI:=[a1a 1 0,ap 2]
def y3l.r1:jI:=[ah 3 5 1,ae 4 1 3,a1k 5 4 (-1),ab 6 5,a16 7 6 5 1,a15 8 6 1 7,a26 9 6 8 268435456,aq 10 6 9,ab 2 10]
def y3l:AFunc:=⟨11,[.t 2],jJ [1] y3l.r0 (jJ [2] y3l.r1 (.ret))⟩
theorem y3l.ok:y1x Tryz.prog Tryz.f203 y3l=true:=by kernel_rfl
theorem y3l.at:Tryz.prog.funcs[y7a]?=some Tryz.f203:=Tryz.func203
def y4.r0:jI:=[a1a 1 0,ap 2]
def y4.r1:jI:=[a14 5 6 1,a1m 3 0 0 0 0,ar 6 3 5]
def y4.r2:jI:=[ah 6 0 3,a2x 1 6 0,ah 7 1 3,⟨none,none,.op (.store 1 (.t 7) (.c (.s [])))⟩,ah 8 2 3,a2x 1 8 0]
def y4.r3:jI:=[ah 9 0 1,ae 10 1 9,a1c 11 10 5,ab 12 11,a16 13 12 1 1,a15 14 12 1 13,⟨some 15,(some (12,true)),.call y9f [.t 14]⟩,a1y 16 12 15,am 17 12 16,a12 18 17 2 1,a11 19 17 1 18,a2z 20 17 19 0,a1n 21 12 17 20,am 22 12 21,a12 23 22 2 1,a11 24 22 1 23,a1i 25 22 24 268435456,a1n 26 12 22 25,aq 27 12 26]
def y4.r4:jI:=[ap 2]
def y4.r5:jI:=[ai 4 0]
def y4.r6:jI:=[ah 28 0 1,ae 29 1 28]
def y4.r7:jI:=[a18 31 29 5,ab 30 31]
def y4.r8:jI:=[a18 33 29 6,ab 32 33]
def y4.r9:jI:=[a18 35 29 1,ab 34 35]
def y4.r10:jI:=[a18 37 29 7,ab 36 37]
def y4.r11:jI:=[a18 39 29 4,ab 38 39]
def y4.r12:jI:=[a18 41 29 3,ab 40 41]
def y4.r13:jI:=[a18 43 29 2,ab 42 43]
def y4.r14:jI:=[ah 44 1 1,ae 45 1 44,a25 46 45,ab 47 46,a12 48 47 2 1,a11 49 47 1 48,a2b 50 47 49 0,az 51 47 50]
def y4.r15:jI:=[ap 2]
def y4.r16:jI:=[ah 52 3 1,ae 53 1 52,⟨some 54,none,.call y9f [.t 53]⟩,ab 55 54,a1h 56 55 6 3,a16 57 55 3 1,a15 58 55 1 57,a16 59 55 5 1,a15 60 55 1 59,⟨some 61,(some (55,true)),.op (.build [.i .i64 0,.s [],.i .i64 0,.s [],.i .i64 0,.i .i64 0] [(3,1,.t 58),(5,1,.t 60)])⟩,a3c 62 55 0 1 0 1 0 0 56 61,aq 63 55 62,ab 64 63,a1h 65 64 6 1,⟨some 66,(some (64,true)),.call y7a [.t 65]⟩,aq 67 64 66,ab 2 67]
def y4.r17:jI:=[ah 68 3 1,ae 69 1 68,⟨some 70,none,.call y9f [.t 69]⟩,ab 71 70,a1h 72 71 6 3,a16 73 71 3 1,a15 74 71 1 73,⟨some 75,(some (71,true)),.op (.build [.i .i64 0,.s [],.i .i64 0,.s [],.i .i64 0,.i .i64 0] [(3,1,.t 74),(5,1,.c (.i .i64 (-1)))])⟩,a3c 76 71 0 1 0 1 0 0 72 75,aq 77 71 76,ab 2 77]
def y4.r18:jI:=[ah 78 4 1,ae 79 1 78,a1k 80 79 1,ab 81 80,a16 82 81 4 1,a15 83 81 1 82,a26 84 81 83 268435456,aq 85 81 84,ab 86 85,a1h 87 86 6 3,a16 88 86 4 1,a15 89 86 1 88,a16 90 86 5 1,a15 91 86 1 90,⟨some 92,(some (86,true)),.op (.build [.i .i64 0,.s [],.i .i64 0,.s [],.i .i64 0,.i .i64 0] [(4,1,.t 89),(5,1,.t 91)])⟩,a3c 93 86 0 1 0 1 0 0 87 92,aq 94 86 93,ab 95 94,a1h 96 95 6 1,⟨some 97,(some (95,true)),.call y7a [.t 96]⟩,aq 98 95 97,ab 2 98]
def y4.r19:jI:=[a14 99 6 3,⟨some 100,none,.op (.build [.i .i64 0,.s [],.i .i64 0,.s [],.i .i64 0,.i .i64 0] [(5,1,.c (.i .i64 (-1)))])⟩,⟨some 101,none,.op (.eqa false [0,1,0,1,0,0] (.t 99) (.t 100))⟩,ab 2 101]
def y4.r20:jI:=[ai 4 1]
def y4.r21:jI:=[ah 102 4 1,ae 103 1 102,ab 104 4,a3d 105 103 104,ab 106 105,a16 107 106 4 1,a15 108 106 1 107,a26 109 106 108 268435456,aq 110 106 109,ab 111 110,a1h 112 111 6 3,a16 113 111 4 1,a15 114 111 1 113,⟨some 115,(some (111,true)),.op (.build [.i .i64 0,.s [],.i .i64 0,.s [],.i .i64 0,.i .i64 0] [(4,1,.t 114),(5,1,.c (.i .i64 (-1)))])⟩,a3c 116 111 0 1 0 1 0 0 112 115,aq 117 111 116,ab 2 117]
def y4.r22:jI:=[ap 2]
def y4:AFunc:=⟨118,[.t 2],jJ [1] y4.r0 (jJ [1,3] y4.r1 (jJ [1,3] y4.r2 (.seq (jJ [1,3,27] y4.r3 (.post [1,3] (.cond (.t 27) (jJ [2] y4.r4 (.ret)) (.skip)))) (jJ [1,3,4] y4.r5 (.seq (jJ [1,3,4,29] y4.r6 (.post [] (.block 0 (.seq (.post [1,3,4] (.block 7 (.seq (.post [1,3] (.block 6 (.seq (.post [3] (.block 5 (.seq (.post [1,3] (.block 4 (.seq (.post [1,3] (.block 3 (.seq (.post [1,3] (.block 2 (.seq (.post [1,3] (.block 1 (.seq (.seq (jJ [1,3,4,29,30] y4.r7 (.post [1,3,4,29] (.cond (.t 30) (.exit 1) (.skip)))) (.seq (jJ [1,3,4,29,32] y4.r8 (.post [1,3,4,29] (.cond (.t 32) (.exit 2) (.skip)))) (.seq (jJ [1,3,4,29,34] y4.r9 (.post [1,3,4,29] (.cond (.t 34) (.exit 3) (.skip)))) (.seq (jJ [1,3,4,29,36] y4.r10 (.post [1,3,4,29] (.cond (.t 36) (.exit 4) (.skip)))) (.seq (jJ [1,3,4,29,38] y4.r11 (.post [1,3,4,29] (.cond (.t 38) (.exit 5) (.skip)))) (.seq (jJ [1,3,4,29,40] y4.r12 (.post [1,3,4,29] (.cond (.t 40) (.exit 6) (.skip)))) (jJ [1,3,4,42] y4.r13 (.post [] (.cond (.t 42) (.exit 7) (.skip)))))))))) (.exit 0)))) (jJ [1,3,51] y4.r14 (.post [1,3] (.cond (.t 51) (jJ [2] y4.r15 (.ret)) (.skip))))))) (.seq (jJ [2] y4.r16 (.ret)) (.exit 0))))) (.seq (jJ [2] y4.r17 (.ret)) (.exit 0))))) (.seq (jJ [2] y4.r18 (.ret)) (.exit 0))))) (.seq (jJ [2] y4.r19 (.ret)) (.exit 0))))) (jK [1,3,4] y4.r20)))) (.seq (jJ [2] y4.r21 (.ret)) (.exit 0)))))) (jJ [2] y4.r22 (.ret)))))))⟩
theorem y4.ok:y1x Tryz.prog Tryz.f178 y4=true:=by kernel_rfl
theorem y4.at:Tryz.prog.funcs[yai]?=some Tryz.f178:=Tryz.func178
def y3z.r0:jI:=[a1m 2 0 0 0 0,ai 3 0]
def y3z.r1:jI:=[ab 7 0,⟨some 8,none,.call yeg [.t 7]⟩,ab 6 8,aj 9 0 6,aj 10 1 6,a1m 4 0 0 0 0,ar 6 4 9,ab 5 10]
def y3z.r2:jI:=[ab 11 5,a1d 12 11,ab 13 12,a2c 14 13 6 4,⟨some 15,(some (13,false)),.call yai [.t 14]⟩,a1z 16 13 15,az 17 13 16,ab 18 17,a2c 19 18 6 4,⟨some 20,(some (18,false)),.call yg8 [.t 19]⟩,a19 21 18 0,a2f 22 18 20 21,az 23 18 22]
def y3z.r3:jI:=[⟨some 24,none,.op (.build [.i .i64 0,.s [],.i .i64 0,.s [],.i .i64 0,.i .i64 0] [])⟩,ar 6 2 24,ai 3 11]
def y3z.r4:jI:=[a14 25 6 4,ar 6 2 25,ai 3 0]
def y3z:AFunc:=⟨26,[.cell 2 true 6,.t 3],jJ [0,2] y3z.r0 (jJ [0,2,4,5] y3z.r1 (.seq (jJ [2,4,23] y3z.r2 (.post [2,4] (.cond (.t 23) (jJ [2,3] y3z.r3 (.ret)) (.skip)))) (jJ [2,3] y3z.r4 (.ret))))⟩
theorem y3z.ok:y1x Tryz.prog Tryz.f128 y3z=true:=by kernel_rfl
theorem y3z.at:Tryz.prog.funcs[y96]?=some Tryz.f128:=Tryz.func128
def y44.r0:jI:=[ap 4]
def y44.r1:jI:=[ab 5 0,⟨some 6,none,.call yfc [.t 5,.c (.s [105,112])]⟩,a2a 7 6,ab 8 7,am 9 8 0,a1u 10 8 9,am 11 8 1,a3m 12 8 10 11,aq 13 8 12,ab 4 13]
def y44:AFunc:=⟨14,[.t 4],jJ [0,1] y44.r0 (jJ [4] y44.r1 (.ret))⟩
theorem y44.ok:y1x Tryz.prog Tryz.f168 y44=true:=by kernel_rfl
theorem y44.at:Tryz.prog.funcs[y71]?=some Tryz.f168:=Tryz.func168
def y4b.r0:jI:=[ap 2]
def y4b.r1:jI:=[ab 3 0,a25 4 3,ab 5 4,am 6 5 0,a1u 7 5 6,a26 8 5 7 60,aq 9 5 8,ab 2 9]
def y4b:AFunc:=⟨10,[.t 2],jJ [0] y4b.r0 (jJ [2] y4b.r1 (.ret))⟩
theorem y4b.ok:y1x Tryz.prog Tryz.f169 y4b=true:=by kernel_rfl
theorem y4b.at:Tryz.prog.funcs[y9c]?=some Tryz.f169:=Tryz.func169
def ym.r0:jI:=[a1a 3 1,ai 4 0]
def ym.r1:jI:=[ab 6 0,av 7 6,ai 8 0]
def ym.r2:jI:=[ax 9 8 7]
def ym.r3:jI:=[ab 10 8,ab 5 10]
def ym.r4:jI:=[a14 11 2 3,ab 12 0,ab 13 5,a10 14 2 12 13,a14 15 2 14,⟨some 16,none,.op (.eqa false [0,1] (.t 11) (.t 15))⟩]
def ym.r5:jI:=[ab 17 5,ab 4 17]
def ym.r6:jI:=[ay 18 8 1,ab 8 18]
def ym.l0:ACode:=jJ [0,3,7,8,9] ym.r2 (.seq (.post [0,3,7,8] (.cond (.t 9) (.skip) (.exit 0))) (.seq (.post [0,3,7,8] (.block 1 (jJ [0,3,5,7,8] ym.r3 (.seq (.post [0,3,5,7,8,16] (.draw [0,0,0,6,14,31] ym.r4)) (.post [0,3,7,8] (.cond (.t 16) (jJ [4] ym.r5 (.ret)) (.skip))))))) (jK [0,3,7,8] ym.r6)))
def ym.r7:jI:=[ai 4 (-1)]
def ym:AFunc:=⟨19,[.t 4],jJ [0,3] ym.r0 (.seq (jJ [0,3,7,8] ym.r1 (.post [] (.block 0 (.loop ym.l0)))) (jJ [4] ym.r7 (.ret)))⟩
theorem ym.ok:y1x Tryz.prog Tryz.f197 ym=true:=by kernel_rfl
theorem ym.at:Tryz.prog.funcs[y61]?=some Tryz.f197:=Tryz.func197
def y2f.r0:jI:=[a1a 3 1,ap 4]
def y2f.r1:jI:=[ab 5 0,a14 6 2 3,⟨some 7,none,.call y61 [.t 5,.t 6]⟩,a1k 8 7 0,ab 4 8]
def y2f:AFunc:=⟨9,[.t 4],jJ [0,3] y2f.r0 (jJ [4] y2f.r1 (.ret))⟩
theorem y2f.ok:y1x Tryz.prog Tryz.f170 y2f=true:=by kernel_rfl
theorem y2f.at:Tryz.prog.funcs[y57]?=some Tryz.f170:=Tryz.func170
def y14.r0:jI:=[a1a 1 0,ai 2 0]
def y14.r1:jI:=[ah 9 0 1,ae 10 1 9,⟨some 11,none,.call y96 [.t 10]⟩,ab 8 11,aj 12 0 8,aj 13 1 8,a1m 3 0 0 0 0,ar 6 3 12,ab 4 13]
def y14.r2:jI:=[ab 15 4,a1c 16 15 0,ab 17 16,a12 18 17 0 3,a11 19 17 1 18,a2z 20 17 19 5,az 21 17 20,ab 22 21,a12 23 22 5 3,a11 24 22 1 23,a2l 25 22 24 0,az 26 22 25,ab 14 26]
def y14.r3:jI:=[ai 2 11]
def y14.r4:jI:=[ah 28 1 1,ae 29 1 28,a2a 30 29,ab 31 30,a12 32 31 1 1,a11 33 31 1 32,⟨some 34,(some (31,false)),.call y71 [.t 33,.c (.i .i64 64)]⟩,a1z 35 31 34,az 36 31 35,ab 27 36]
def y14.r5:jI:=[ai 2 5]
def y14.r6:jI:=[ai 5 0]
def y14.r7:jI:=[ah 37 2 1,ae 38 1 37,av 39 38,ai 40 0]
def y14.r8:jI:=[ax 41 40 39]
def y14.r9:jI:=[ab 42 40,a10 43 2 38 40,a14 44 2 43,a3e 7 0,ab 6 42,ar 2 7 44]
def y14.r10:jI:=[ah 45 0 7,ae 46 1 45,ab 47 5,ax 48 46 47,ab 49 48,a12 50 49 0 7,a11 51 49 1 50,a12 52 49 1 1,a11 53 49 1 52,a1t 54 49 53,⟨some 55,(some (49,false)),.op (.bin .geq (.t 51) (.t 54))⟩,az 56 49 55,ab 57 56,a12 58 57 1 7,a11 59 57 1 58,⟨some 60,(some (57,false)),.call y9c [.t 59]⟩,a1z 61 57 60,az 62 57 61,ab 63 62,a12 64 63 2 1,a11 65 63 1 64,a19 66 63 6,⟨some 67,(some (63,false)),.op (.slc 2 (.t 65) none (some (.t 66)))⟩,a2c 68 63 2 7,⟨some 69,(some (63,false)),.call y57 [.t 67,.t 68]⟩,az 70 63 69]
def y14.r11:jI:=[ai 2 3]
def y14.r12:jI:=[ah 71 0 7,ae 72 1 71,ab 5 72]
def y14.r13:jI:=[ay 73 40 1,ab 40 73]
def y14.l0:ACode:=jJ [1,5,38,39,40,41] y14.r8 (.seq (.post [1,5,38,39,40] (.cond (.t 41) (.skip) (.exit 1))) (.seq (.post [1,5,38,39,40] (.block 2 (jJ [1,5,6,7,38,39,40] y14.r9 (.seq (.seq (.post [1,7,38,39,40,70] (.draw [0,1,0,7,15,31,63,31,159,415,1023,2047,4095,8191,16383,32767,65535,131071,262143,524287,1048575,524287,4194303,524287,16777215,33554431] y14.r10)) (.post [1,7,38,39,40] (.cond (.t 70) (jJ [2] y14.r11 (.ret)) (.skip)))) (jK [1,5,38,39,40] y14.r12))))) (jK [1,5,38,39,40] y14.r13)))
def y14.r14:jI:=[ai 2 0]
def y14:AFunc:=⟨74,[.t 2],jJ [1] y14.r0 (jJ [1,3,4] y14.r1 (.seq (.post [1] (.block 0 (jJ [1,14] y14.r2 (.post [1] (.cond (.t 14) (jJ [2] y14.r3 (.ret)) (jJ [1,27] y14.r4 (.post [1] (.cond (.t 27) (jJ [2] y14.r5 (.ret)) (.skip))))))))) (jJ [1,5] y14.r6 (.seq (jJ [1,5,38,39,40] y14.r7 (.post [] (.block 1 (.loop y14.l0)))) (jJ [2] y14.r14 (.ret))))))⟩
theorem y14.ok:y1x Tryz.prog Tryz.f116 y14=true:=by kernel_rfl
theorem y14.at:Tryz.prog.funcs[y93]?=some Tryz.f116:=Tryz.func116
def y4e.r0:jI:=[ap 2]
def y4e.r1:jI:=[ab 3 0,ab 4 0,a23 5 3 4,ab 2 5]
def y4e:AFunc:=⟨6,[.t 2],jJ [0] y4e.r0 (jJ [2] y4e.r1 (.ret))⟩
theorem y4e.ok:y1x Tryz.prog Tryz.f198 y4e=true:=by kernel_rfl
theorem y4e.at:Tryz.prog.funcs[y6k]?=some Tryz.f198:=Tryz.func198
def yz.r0:jI:=[ai 4 0]
def yz.r1:jI:=[ab 7 0,⟨some 8,none,.call y6k [.t 7]⟩,ab 5 8]
def yz.r2:jI:=[ab 9 1,⟨some 10,none,.call y6k [.t 9]⟩,ab 6 10]
def yz.r3:jI:=[ab 11 5]
def yz.r4:jI:=[ab 12 6]
def yz.r5:jI:=[ai 4 0]
def yz.r6:jI:=[ai 4 (-1)]
def yz.r7:jI:=[ab 13 6]
def yz.r8:jI:=[ai 4 1]
def yz.r9:jI:=[ab 14 0,ab 15 1,ax 16 14 15]
def yz.r10:jI:=[ai 4 (-1)]
def yz.r11:jI:=[ab 17 0,ab 18 1,a2j 19 17 18]
def yz.r12:jI:=[ai 4 1]
def yz.r13:jI:=[ai 4 0]
def yz:AFunc:=⟨20,[.t 4],jJ [0,1] yz.r0 (jJ [0,1,5] yz.r1 (jJ [0,1,5,6] yz.r2 (.seq (jJ [0,1,6,11] yz.r3 (.post [0,1,6] (.cond (.t 11) (.seq (jJ [12] yz.r4 (.post [] (.cond (.t 12) (jJ [4] yz.r5 (.ret)) (.skip)))) (jJ [4] yz.r6 (.ret))) (.skip)))) (.seq (jJ [0,1,13] yz.r7 (.post [0,1] (.cond (.t 13) (jJ [4] yz.r8 (.ret)) (.skip)))) (.seq (jJ [0,1,16] yz.r9 (.post [0,1] (.cond (.t 16) (jJ [4] yz.r10 (.ret)) (.skip)))) (.seq (jJ [19] yz.r11 (.post [] (.cond (.t 19) (jJ [4] yz.r12 (.ret)) (.skip)))) (jJ [4] yz.r13 (.ret))))))))⟩
theorem yz.ok:y1x Tryz.prog Tryz.f171 yz=true:=by kernel_rfl
theorem yz.at:Tryz.prog.funcs[y51]?=some Tryz.f171:=Tryz.func171
def y58.r0:jI:=[a1a 2 0,a1a 3 1,ai 4 0]
def y58.r1:jI:=[ah 5 0 2,ae 6 1 5,ah 7 0 3,ae 8 1 7,⟨some 9,none,.call y51 [.t 6,.t 8]⟩,ab 4 9]
def y58:AFunc:=⟨10,[.t 4],jJ [2,3] y58.r0 (jJ [4] y58.r1 (.ret))⟩
theorem y58.ok:y1x Tryz.prog Tryz.f117 y58=true:=by kernel_rfl
theorem y58.at:Tryz.prog.funcs[y9s]?=some Tryz.f117:=Tryz.func117
def y11.r0:jI:=[ai 6 0]
def y11.r1:jI:=[ab 10 0,av 11 10,ai 12 0]
def y11.r2:jI:=[ax 13 12 11]
def y11.r3:jI:=[ab 14 12,a10 15 3 10 12,a14 16 3 15,a3f 8,ab 7 14,ar 3 8 16]
def y11.r4:jI:=[ab 17 1,a14 18 3 8,a1l 19 17 18,ab 9 19]
def y11.r5:jI:=[ab 20 9,a1c 21 20 0]
def y11.r6:jI:=[ab 22 9,ab 6 22]
def y11.r7:jI:=[ab 23 7,a1e 24 23 0,ab 25 24,am 26 25 2,am 27 25 0,am 28 25 7,a2e 29 25 28 1,a1r 30 25 3 27 29,a1h 31 25 3 30,a1h 32 25 3 8,a39 33 25 26 31 32,a2w 34 25 33 0,aq 35 25 34]
def y11.r8:jI:=[ai 6 13]
def y11.r9:jI:=[ay 36 12 1,ab 12 36]
def y11.l0:ACode:=jJ [0,1,2,10,11,12,13] y11.r2 (.seq (.post [0,1,2,10,11,12] (.cond (.t 13) (.skip) (.exit 0))) (.seq (.post [0,1,2,10,11,12] (.block 1 (jJ [0,1,2,7,8,10,11,12] y11.r3 (.seq (jJ [0,1,2,7,8,9,10,11,12] y11.r4 (jJ [0,1,2,7,8,9,10,11,12,21] y11.r5 (.post [0,1,2,7,8,10,11,12] (.cond (.t 21) (jJ [6] y11.r6 (.ret)) (.skip))))) (.seq (.post [0,1,2,10,11,12,35] (.draw [0,1,3,7,7,7,39,119,247,7,1023,2047,4095] y11.r7)) (.post [0,1,2,10,11,12] (.cond (.t 35) (jJ [6] y11.r8 (.ret)) (.skip)))))))) (jK [0,1,2,10,11,12] y11.r9)))
def y11.r10:jI:=[ai 6 0]
def y11:AFunc:=⟨37,[.t 6],jJ [0,1,2] y11.r0 (.seq (jJ [0,1,2,10,11,12] y11.r1 (.post [] (.block 0 (.loop y11.l0)))) (jJ [6] y11.r10 (.ret)))⟩
theorem y11.ok:y1x Tryz.prog Tryz.f118 y11=true:=by kernel_rfl
theorem y11.at:Tryz.prog.funcs[y9m]?=some Tryz.f118:=Tryz.func118
def y22.r0:jI:=[a1a 1 0,ai 2 0]
def y22.r1:jI:=[ah 6 0 1,ae 7 1 6,⟨some 8,none,.call y96 [.t 7]⟩,ab 5 8,aj 9 0 5,aj 10 1 5,a1m 3 0 0 0 0,ar 6 3 9,ab 4 10]
def y22.r2:jI:=[ab 12 4,a1c 13 12 0,ab 14 13,a12 15 14 0 3,a11 16 14 1 15,a2b 17 14 16 4,az 18 14 17,ab 11 18]
def y22.r3:jI:=[ai 2 11]
def y22.r4:jI:=[ah 20 1 1,ae 21 1 20,⟨some 22,none,.call y71 [.t 21,.c (.i .i64 6)]⟩,a1d 23 22,ab 24 23,a12 25 24 2 1,a11 26 24 1 25,⟨some 27,(some (24,false)),.op (.bin .neq (.t 26) (.c (.s [105])))⟩,a19 28 24 27,a16 29 28 2 1,a15 30 28 1 29,a2m 31 28 30 112,a1j 32 24 28 31,a19 33 24 32,a16 34 33 2 1,a15 35 33 1 34,a2m 36 33 35 118,a1j 37 24 33 36,az 38 24 37,ab 19 38]
def y22.r5:jI:=[ai 2 5]
def y22.r6:jI:=[ai 2 0]
def y22:AFunc:=⟨39,[.t 2],jJ [1] y22.r0 (jJ [1,3,4] y22.r1 (.seq (.post [] (.block 0 (jJ [1,11] y22.r2 (.post [] (.cond (.t 11) (jJ [2] y22.r3 (.ret)) (jJ [19] y22.r4 (.post [] (.cond (.t 19) (jJ [2] y22.r5 (.ret)) (.skip))))))))) (jJ [2] y22.r6 (.ret))))⟩
theorem y22.ok:y1x Tryz.prog Tryz.f119 y22=true:=by kernel_rfl
theorem y22.at:Tryz.prog.funcs[y8a]?=some Tryz.f119:=Tryz.func119
def y5e.r0:jI:=[a1a 2 0,a1a 3 1,ai 4 0]
def y5e.r1:jI:=[ah 5 0 2,ae 6 1 5,ah 7 0 3,ae 8 1 7,⟨some 9,none,.call y51 [.t 6,.t 8]⟩,ab 4 9]
def y5e:AFunc:=⟨10,[.t 4],jJ [2,3] y5e.r0 (jJ [4] y5e.r1 (.ret))⟩
theorem y5e.ok:y1x Tryz.prog Tryz.f120 y5e=true:=by kernel_rfl
theorem y5e.at:Tryz.prog.funcs[yac]?=some Tryz.f120:=Tryz.func120
def yx.r0:jI:=[ai 6 0]
def yx.r1:jI:=[ab 10 0,av 11 10,ai 12 0]
def yx.r2:jI:=[ax 13 12 11]
def yx.r3:jI:=[ab 14 12,a10 15 6 10 12,a14 16 6 15,a2s 8 0 0 0 0,ab 7 14,ar 6 8 16]
def yx.r4:jI:=[ab 17 1,a14 18 6 8,a1l 19 17 18,ab 9 19]
def yx.r5:jI:=[ab 20 9,a1c 21 20 0]
def yx.r6:jI:=[ab 22 9,ab 6 22]
def yx.r7:jI:=[ab 23 7,a1e 24 23 0,ab 25 24,am 26 25 2,am 27 25 0,am 28 25 7,a2e 29 25 28 1,a1r 30 25 6 27 29,a1h 31 25 6 30,a1h 32 25 6 8,a39 33 25 26 31 32,a2w 34 25 33 0,aq 35 25 34]
def yx.r8:jI:=[ai 6 13]
def yx.r9:jI:=[ay 36 12 1,ab 12 36]
def yx.l0:ACode:=jJ [0,1,2,10,11,12,13] yx.r2 (.seq (.post [0,1,2,10,11,12] (.cond (.t 13) (.skip) (.exit 0))) (.seq (.post [0,1,2,10,11,12] (.block 1 (jJ [0,1,2,7,8,10,11,12] yx.r3 (.seq (jJ [0,1,2,7,8,9,10,11,12] yx.r4 (jJ [0,1,2,7,8,9,10,11,12,21] yx.r5 (.post [0,1,2,7,8,10,11,12] (.cond (.t 21) (jJ [6] yx.r6 (.ret)) (.skip))))) (.seq (.post [0,1,2,10,11,12,35] (.draw [0,1,3,7,7,7,39,119,247,7,1023,2047,4095] yx.r7)) (.post [0,1,2,10,11,12] (.cond (.t 35) (jJ [6] yx.r8 (.ret)) (.skip)))))))) (jK [0,1,2,10,11,12] yx.r9)))
def yx.r10:jI:=[ai 6 0]
def yx:AFunc:=⟨37,[.t 6],jJ [0,1,2] yx.r0 (.seq (jJ [0,1,2,10,11,12] yx.r1 (.post [] (.block 0 (.loop yx.l0)))) (jJ [6] yx.r10 (.ret)))⟩
theorem yx.ok:y1x Tryz.prog Tryz.f121 yx=true:=by kernel_rfl
theorem yx.at:Tryz.prog.funcs[y95]?=some Tryz.f121:=Tryz.func121
def y4i.r0:jI:=[ap 2]
def y4i.r1:jI:=[ab 6 0,⟨some 7,none,.call y96 [.t 6]⟩,ab 5 7,aj 8 0 5,aj 9 1 5,a1m 3 0 0 0 0,ar 6 3 8,ab 4 9]
def y4i.r2:jI:=[ab 10 4,a18 11 10 0,ab 12 11,a16 13 12 0 3,a15 14 12 1 13,a26 15 12 14 3,am 16 12 15,a12 17 16 5 3,a11 18 16 1 17,a2l 19 16 18 0,a1n 20 12 16 19,aq 21 12 20,ab 2 21]
def y4i:AFunc:=⟨22,[.t 2],jJ [0] y4i.r0 (jJ [3,4] y4i.r1 (jJ [2] y4i.r2 (.ret)))⟩
theorem y4i.ok:y1x Tryz.prog Tryz.f70 y4i=true:=by kernel_rfl
theorem y4i.at:Tryz.prog.funcs[y7m]?=some Tryz.f70:=Tryz.func70
def y49.r0:jI:=[ap 2]
def y49.r1:jI:=[ab 6 0,⟨some 7,none,.call y96 [.t 6]⟩,ab 5 7,aj 8 0 5,aj 9 1 5,a1m 3 0 0 0 0,ar 6 3 8,ab 4 9]
def y49.r2:jI:=[ab 10 4,a18 11 10 0,ab 12 11,a16 13 12 0 3,a15 14 12 1 13,a1q 15 12 14 4,am 16 12 15,a12 17 16 5 3,a11 18 16 1 17,a2l 19 16 18 0,a1n 20 12 16 19,aq 21 12 20,ab 2 21]
def y49:AFunc:=⟨22,[.t 2],jJ [0] y49.r0 (jJ [3,4] y49.r1 (jJ [2] y49.r2 (.ret)))⟩
theorem y49.ok:y1x Tryz.prog Tryz.f172 y49=true:=by kernel_rfl
theorem y49.at:Tryz.prog.funcs[ycs]?=some Tryz.f172:=Tryz.func172
def y1w.r0:jI:=[a17 4,a17 5,ap 6]
def y1w.r1:jI:=[ab 8 0,ab 9 1,⟨some 10,none,.call y8w [.t 8,.t 9]⟩,ab 7 10]
def y1w.r2:jI:=[ab 11 7,a1k 12 11 0]
def y1w.r3:jI:=[ab 13 0,ab 14 7,a24 15 13 14,ab 16 0,ab 17 7,ab 18 1,a1b 19 18,a1f 20 17 19,a2d 21 16 20,ab 4 15,ab 5 21,a1g 6]
def y1w.r4:jI:=[ab 22 0,ab 4 22,a17 5,ap 6]
def y1w:AFunc:=⟨23,[.t 4,.t 5,.t 6],jJ [0,1] y1w.r0 (.seq (jJ [0,1,7] y1w.r1 (jJ [0,1,7,12] y1w.r2 (.post [0] (.cond (.t 12) (.seq (.post [4,5,6] (.draw [0,0,3,0,0,0,32,112,248,7,1023,2047] y1w.r3)) (.ret)) (.skip))))) (jJ [4,5,6] y1w.r4 (.ret)))⟩
theorem y1w.ok:y1x Tryz.prog Tryz.f218 y1w=true:=by kernel_rfl
theorem y1w.at:Tryz.prog.funcs[y7f]?=some Tryz.f218:=Tryz.func218
def y5f.r0:jI:=[a17 4,a17 5,ap 6]
def y5f.r1:jI:=[ab 7 0,ab 8 1,⟨some 9,none,.call y7f [.t 7,.t 8]⟩,aj 10 0 9,aj 11 1 9,aj 12 2 9,ab 4 10,ab 5 11,ab 6 12]
def y5f:AFunc:=⟨13,[.t 4,.t 5,.t 6],jJ [0,1] y5f.r0 (jJ [4,5,6] y5f.r1 (.ret))⟩
theorem y5f.ok:y1x Tryz.prog Tryz.f199 y5f=true:=by kernel_rfl
theorem y5f.at:Tryz.prog.funcs[ydq]?=some Tryz.f199:=Tryz.func199
def y15.r0:jI:=[a1a 1 0,ap 2]
def y15.r1:jI:=[ah 10 4 1,ae 11 1 10,⟨some 12,none,.call ydq [.t 11,.c (.s [62])]⟩,ab 9 12,aj 13 0 9,aj 14 1 9,aj 15 2 9,ab 3 13,ab 4 14,ab 5 15]
def y15.r2:jI:=[ab 16 5,a1d 17 16,ab 18 17,a12 19 18 3 1,a11 20 18 1 19,a2b 21 18 20 0,az 22 18 21,ab 23 22,a19 24 23 3,⟨some 25,(some (23,false)),.call y71 [.t 24,.c (.i .i64 6)]⟩,a1z 26 23 25,az 27 23 26,ab 28 27,a19 29 28 4,a3n 30 28 29,a19 31 28 30,am 32 31 4,a2m 33 31 32 105,a1j 34 28 31 33,a19 35 28 34,am 36 35 4,a2m 37 35 36 112,a1j 38 28 35 37,az 39 28 38,ab 40 39,a12 41 40 5 1,a11 42 40 1 41,a1o 43 40 42,a19 44 40 3,a1t 45 40 44,⟨some 46,(some (40,false)),.op (.bin .add (.t 45) (.c (.i .i64 1)))⟩,a2f 47 40 43 46,az 48 40 47]
def y15.r3:jI:=[ap 2]
def y15.r4:jI:=[ah 49 5 1,ae 50 1 49,av 51 50,ai 52 0]
def y15.r5:jI:=[ax 53 52 51]
def y15.r6:jI:=[ab 54 52,a10 55 1 50 52,ae 56 1 55,ab 6 54,ab 7 56]
def y15.r7:jI:=[ab 57 4,a3b 58 57 112,ab 8 58]
def y15.r8:jI:=[ab 59 6,a1e 60 59 0]
def y15.r9:jI:=[ab 61 3,ab 62 6,a30 63 62 1,a1x 64 61 63,a29 65 64 112,ab 8 65]
def y15.r10:jI:=[ab 66 7,a25 67 66,ab 68 67,am 69 68 8,a1y 70 68 69,am 71 68 70,a19 72 71 7,⟨some 73,(some (71,false)),.call y7m [.t 72]⟩,a1z 74 71 73,a1n 75 68 71 74,aq 76 68 75]
def y15.r11:jI:=[ap 2]
def y15.r12:jI:=[ay 77 52 1,ab 52 77]
def y15.l0:ACode:=jJ [3,4,50,51,52,53] y15.r5 (.seq (.post [3,4,50,51,52] (.cond (.t 53) (.skip) (.exit 0))) (.seq (.post [3,4,50,51,52] (.block 1 (jJ [3,4,6,7,50,51,52] y15.r6 (jJ [3,4,6,7,8,50,51,52] y15.r7 (.seq (jJ [3,4,6,7,8,50,51,52,60] y15.r8 (.post [3,4,7,8,50,51,52] (.cond (.t 60) (jK [3,4,7,8,50,51,52] y15.r9) (.skip)))) (jJ [3,4,50,51,52,76] y15.r10 (.post [3,4,50,51,52] (.cond (.t 76) (jJ [2] y15.r11 (.ret)) (.skip))))))))) (jK [3,4,50,51,52] y15.r12)))
def y15.r13:jI:=[a1g 2]
def y15:AFunc:=⟨78,[.t 2],jJ [1] y15.r0 (jJ [1,3,4,5] y15.r1 (.seq (jJ [1,3,4,48] y15.r2 (.post [1,3,4] (.cond (.t 48) (jJ [2] y15.r3 (.ret)) (.skip)))) (.seq (jJ [3,4,50,51,52] y15.r4 (.post [] (.block 0 (.loop y15.l0)))) (jJ [2] y15.r13 (.ret)))))⟩
theorem y15.ok:y1x Tryz.prog Tryz.f173 y15=true:=by kernel_rfl
theorem y15.at:Tryz.prog.funcs[yab]?=some Tryz.f173:=Tryz.func173
def yk.r0:jI:=[a1a 1 0,ai 2 0]
def yk.r1:jI:=[ap 3]
def yk.r2:jI:=[ah 6 0 1,ae 7 1 6]
def yk.r3:jI:=[a18 9 7 1,ab 8 9]
def yk.r4:jI:=[ah 10 1 1,ae 11 1 10,⟨some 12,none,.call y7m [.t 11]⟩,ab 13 12,a16 14 13 2 1,a15 15 13 1 14,⟨some 16,(some (13,true)),.call ycs [.t 15]⟩,aq 17 13 16,ab 3 17]
def yk.r5:jI:=[a18 19 7 2,ab 18 19]
def yk.r6:jI:=[a18 20 7 3,ab 18 20]
def yk.r7:jI:=[a18 21 7 4,ab 18 21]
def yk.r8:jI:=[a18 22 7 5,ab 18 22]
def yk.r9:jI:=[ah 23 1 1,ae 24 1 23,⟨some 25,none,.call y7m [.t 24]⟩,ab 26 25,a16 27 26 2 1,a15 28 26 1 27,⟨some 29,(some (26,true)),.call y7m [.t 28]⟩,aq 30 26 29,ab 3 30]
def yk.r10:jI:=[a18 32 7 6,ab 31 32]
def yk.r11:jI:=[ah 34 1 1,ae 35 1 34,⟨some 36,none,.call y96 [.t 35]⟩,ab 33 36,aj 37 0 33,aj 38 1 33,a1m 4 0 0 0 0,ar 6 4 37,ab 5 38]
def yk.r12:jI:=[ab 39 5,a18 40 39 0,ab 41 40,a16 42 41 0 4,a15 43 41 1 42,a1q 44 41 43 3,aq 45 41 44,ab 46 45,a16 47 46 2 1,a15 48 46 1 47,⟨some 49,(some (46,true)),.call y7m [.t 48]⟩,aq 50 46 49,ab 3 50]
def yk.r13:jI:=[ai 2 5]
def yk.r14:jI:=[ab 51 3,a1d 52 51]
def yk.r15:jI:=[ai 2 11]
def yk.r16:jI:=[ah 53 0 1,ae 54 1 53]
def yk.r17:jI:=[a18 70 54 6,ab 69 70]
def yk.r18:jI:=[a14 71 6 1,⟨some 72,none,.call yab [.t 71]⟩,ab 3 72]
def yk.r19:jI:=[a18 74 54 5,ab 73 74]
def yk.r20:jI:=[ah 75 5 1,ae 76 1 75,av 77 76,a18 78 77 0,ab 79 78,a16 80 79 3 1,a15 81 79 1 80,a2w 82 79 81 0,aq 83 79 82,ab 84 83,a16 85 84 3 1,a15 86 84 1 85,a26 87 84 86 64,aq 88 84 87,ab 89 88,a16 90 89 4 1,a15 91 89 1 90,⟨some 92,(some (89,true)),.call y9c [.t 91]⟩,aq 93 89 92,ab 3 93]
def yk.r21:jI:=[ah 55 5 1,ae 56 1 55,av 57 56,a18 58 57 0,ab 59 58,a16 60 59 3 1,a15 61 59 1 60,a1q 62 59 61 0,aq 63 59 62,ab 64 63,a16 65 64 4 1,a15 66 64 1 65,a3l 67 64 66,aq 68 64 67,ab 3 68]
def yk.r22:jI:=[ab 94 3,a1d 95 94]
def yk.r23:jI:=[ai 2 3]
def yk.r24:jI:=[ai 2 0]
def yk:AFunc:=⟨96,[.t 2],jJ [1] yk.r0 (jJ [1] yk.r1 (.seq (jJ [1,7] yk.r2 (.post [1,3] (.block 0 (jJ [1,7,8] yk.r3 (.post [1,3] (.cond (.t 8) (jK [1,3] yk.r4) (.seq (jJ [1,7,18] yk.r5 (.post [1,7,18] (.cond (.t 18) (.skip) (jJ [1,7,18] yk.r6 (.post [1,7,18] (.cond (.t 18) (.skip) (jJ [1,7,18] yk.r7 (.post [1,7,18] (.cond (.t 18) (.skip) (jK [1,7,18] yk.r8)))))))))) (.post [1,3] (.cond (.t 18) (jK [1,3] yk.r9) (jJ [1,31] yk.r10 (.post [1,3] (.cond (.t 31) (jJ [1,4,5] yk.r11 (jK [1,3] yk.r12)) (jJ [2] yk.r13 (.ret)))))))))))))) (.seq (jJ [1,52] yk.r14 (.post [1] (.cond (.t 52) (jJ [2] yk.r15 (.ret)) (.skip)))) (.seq (jJ [1,54] yk.r16 (.post [3] (.block 1 (jJ [1,54,69] yk.r17 (.post [3] (.cond (.t 69) (jK [3] yk.r18) (jJ [1,73] yk.r19 (.post [3] (.cond (.t 73) (jK [3] yk.r20) (jK [3] yk.r21)))))))))) (.seq (jJ [95] yk.r22 (.post [] (.cond (.t 95) (jJ [2] yk.r23 (.ret)) (.skip)))) (jJ [2] yk.r24 (.ret)))))))⟩
theorem yk.ok:y1x Tryz.prog Tryz.f122 yk=true:=by kernel_rfl
theorem yk.at:Tryz.prog.funcs[yba]?=some Tryz.f122:=Tryz.func122
def y55.r0:jI:=[ap 2]
def y55.r1:jI:=[ab 3 0,ab 4 0,a23 5 3 4,ab 2 5]
def y55:AFunc:=⟨6,[.t 2],jJ [0] y55.r0 (jJ [2] y55.r1 (.ret))⟩
theorem y55.ok:y1x Tryz.prog Tryz.f200 y55=true:=by kernel_rfl
theorem y55.at:Tryz.prog.funcs[yak]?=some Tryz.f200:=Tryz.func200
def y1c.r0:jI:=[ai 4 0]
def y1c.r1:jI:=[ab 7 0,⟨some 8,none,.call yak [.t 7]⟩,ab 5 8]
def y1c.r2:jI:=[ab 9 1,⟨some 10,none,.call yak [.t 9]⟩,ab 6 10]
def y1c.r3:jI:=[ab 11 5]
def y1c.r4:jI:=[ab 12 6]
def y1c.r5:jI:=[ai 4 0]
def y1c.r6:jI:=[ai 4 (-1)]
def y1c.r7:jI:=[ab 13 6]
def y1c.r8:jI:=[ai 4 1]
def y1c.r9:jI:=[ab 14 0,ab 15 1,ax 16 14 15]
def y1c.r10:jI:=[ai 4 (-1)]
def y1c.r11:jI:=[ab 17 0,ab 18 1,a2j 19 17 18]
def y1c.r12:jI:=[ai 4 1]
def y1c.r13:jI:=[ai 4 0]
def y1c:AFunc:=⟨20,[.t 4],jJ [0,1] y1c.r0 (jJ [0,1,5] y1c.r1 (jJ [0,1,5,6] y1c.r2 (.seq (jJ [0,1,6,11] y1c.r3 (.post [0,1,6] (.cond (.t 11) (.seq (jJ [12] y1c.r4 (.post [] (.cond (.t 12) (jJ [4] y1c.r5 (.ret)) (.skip)))) (jJ [4] y1c.r6 (.ret))) (.skip)))) (.seq (jJ [0,1,13] y1c.r7 (.post [0,1] (.cond (.t 13) (jJ [4] y1c.r8 (.ret)) (.skip)))) (.seq (jJ [0,1,16] y1c.r9 (.post [0,1] (.cond (.t 16) (jJ [4] y1c.r10 (.ret)) (.skip)))) (.seq (jJ [19] y1c.r11 (.post [] (.cond (.t 19) (jJ [4] y1c.r12 (.ret)) (.skip)))) (jJ [4] y1c.r13 (.ret))))))))⟩
theorem y1c.ok:y1x Tryz.prog Tryz.f175 y1c=true:=by kernel_rfl
theorem y1c.at:Tryz.prog.funcs[y9g]?=some Tryz.f175:=Tryz.func175
def y9.r0:jI:=[ai 4 0]
def y9.r1:jI:=[ab 9 0,av 10 9,ai 11 0]
def y9.r2:jI:=[ax 12 11 10]
def y9.r3:jI:=[ab 13 11,a10 14 1 9 11,ae 15 1 14,ab 5 13,ab 6 15]
def y9.r4:jI:=[ab 16 5,ab 17 1,av 18 17,a3d 19 16 18]
def y9.r5:jI:=[ai 4 1]
def y9.r6:jI:=[ab 20 1,ab 21 5,a10 22 1 20 21,ae 23 1 22,ab 7 23]
def y9.r7:jI:=[ab 24 6,ab 25 7,⟨some 26,none,.call y51 [.t 24,.t 25]⟩,ab 8 26]
def y9.r8:jI:=[ab 27 8,a1c 28 27 0]
def y9.r9:jI:=[ab 29 8,ab 4 29]
def y9.r10:jI:=[ay 30 11 1,ab 11 30]
def y9.l0:ACode:=jJ [0,1,9,10,11,12] y9.r2 (.seq (.post [0,1,9,10,11] (.cond (.t 12) (.skip) (.exit 0))) (.seq (.post [0,1,9,10,11] (.block 1 (jJ [0,1,5,6,9,10,11] y9.r3 (.seq (jJ [0,1,5,6,9,10,11,19] y9.r4 (.post [0,1,5,6,9,10,11] (.cond (.t 19) (jJ [4] y9.r5 (.ret)) (.skip)))) (jJ [0,1,6,7,9,10,11] y9.r6 (jJ [0,1,8,9,10,11] y9.r7 (jJ [0,1,8,9,10,11,28] y9.r8 (.post [0,1,9,10,11] (.cond (.t 28) (jJ [4] y9.r9 (.ret)) (.skip)))))))))) (jK [0,1,9,10,11] y9.r10)))
def y9.r11:jI:=[ab 31 0,av 32 31,ab 33 1,av 34 33,ax 35 32 34]
def y9.r12:jI:=[ai 4 (-1)]
def y9.r13:jI:=[ai 4 0]
def y9:AFunc:=⟨36,[.t 4],jJ [0,1] y9.r0 (.seq (jJ [0,1,9,10,11] y9.r1 (.post [0,1] (.block 0 (.loop y9.l0)))) (.seq (jJ [35] y9.r11 (.post [] (.cond (.t 35) (jJ [4] y9.r12 (.ret)) (.skip)))) (jJ [4] y9.r13 (.ret))))⟩
theorem y9.ok:y1x Tryz.prog Tryz.f176 y9=true:=by kernel_rfl
theorem y9.at:Tryz.prog.funcs[y6f]?=some Tryz.f176:=Tryz.func176
def y2s.r0:jI:=[ai 2 0]
def y2s.r1:jI:=[ai 3 0]
def y2s.r2:jI:=[ab 6 0,av 7 6,ai 8 0]
def y2s.r3:jI:=[ax 9 8 7]
def y2s.r4:jI:=[a10 10 1 6 8,ae 11 1 10,ab 5 11]
def y2s.r5:jI:=[ab 12 5,ab 13 3,a23 14 12 13]
def y2s.r6:jI:=[ab 15 5,ab 2 15]
def y2s.r7:jI:=[ay 16 8 1,ab 8 16]
def y2s.l0:ACode:=jJ [3,6,7,8,9] y2s.r3 (.seq (.post [3,6,7,8] (.cond (.t 9) (.skip) (.exit 0))) (.seq (.post [3,6,7,8] (.block 1 (jJ [3,5,6,7,8] y2s.r4 (jJ [3,5,6,7,8,14] y2s.r5 (.post [3,6,7,8] (.cond (.t 14) (jJ [2] y2s.r6 (.ret)) (.skip))))))) (jK [3,6,7,8] y2s.r7)))
def y2s.r8:jI:=[ab 17 3,ab 2 17]
def y2s:AFunc:=⟨18,[.t 2],jJ [0] y2s.r0 (jJ [0,3] y2s.r1 (.seq (jJ [3,6,7,8] y2s.r2 (.post [3] (.block 0 (.loop y2s.l0)))) (jJ [2] y2s.r8 (.ret))))⟩
theorem y2s.ok:y1x Tryz.prog Tryz.f174 y2s=true:=by kernel_rfl
theorem y2s.at:Tryz.prog.funcs[yeh]?=some Tryz.f174:=Tryz.func174
def y4x.r0:jI:=[a1a 2 0,a1a 3 1,ai 4 0]
def y4x.r1:jI:=[ah 5 0 2,ae 6 1 5,ah 7 0 3,ae 8 1 7,⟨some 9,none,.call y9g [.t 6,.t 8]⟩,ah 10 1 2,ae 11 1 10,ah 12 1 3,ae 13 1 12,⟨some 14,none,.call y51 [.t 11,.t 13]⟩,ah 15 2 2,ae 16 1 15,ah 17 2 3,ae 18 1 17,⟨some 19,none,.call y51 [.t 16,.t 18]⟩,ah 20 3 2,ae 21 1 20,ah 22 3 3,ae 23 1 22,⟨some 24,none,.call y9g [.t 21,.t 23]⟩,ah 25 4 2,ae 26 1 25,ah 27 4 3,ae 28 1 27,⟨some 29,none,.call y51 [.t 26,.t 28]⟩,ah 30 5 2,ae 31 1 30,ah 32 5 3,ae 33 1 32,⟨some 34,none,.call y6f [.t 31,.t 33]⟩,⟨some 35,none,.op (.bfz 6 1 [.i .i64 0] [(0,1,.t 9),(1,1,.t 14),(2,1,.t 19),(3,1,.t 24),(4,1,.t 29),(5,1,.t 34)])⟩,⟨some 36,none,.call yeh [.t 35]⟩,ab 4 36]
def y4x:AFunc:=⟨37,[.t 4],jJ [2,3] y4x.r0 (.seq (.post [4] (.draw [0,1,0,4,15,0,32,0,128,511,0,1024,0,4096,16383,0,32768,0,131072,524287,0,1048576,0,4194304,16777215,0,33554432,0,134217728,536870911,1073741823,2147483647,4294967295] y4x.r1)) (.ret))⟩
theorem y4x.ok:y1x Tryz.prog Tryz.f123 y4x=true:=by kernel_rfl
theorem y4x.at:Tryz.prog.funcs[y8q]?=some Tryz.f123:=Tryz.func123
def y27.r0:jI:=[a1a 1 0,ai 2 0]
def y27.r1:jI:=[ah 5 0 1,ae 6 1 5,av 7 6,a1e 8 7 600,ab 9 8,a12 10 9 1 1,a11 11 9 1 10,a1o 12 9 11,a1i 13 9 12 600,az 14 9 13,ab 15 14,a12 16 15 2 1,a11 17 15 1 16,a1o 18 15 17,a1i 19 15 18 6000,az 20 15 19]
def y27.r2:jI:=[ai 2 4]
def y27.r3:jI:=[ah 21 0 1,ae 22 1 21,⟨some 23,none,.call y94 [.t 22,.c (.fn 116 []),.c (.fn 117 [])]⟩,ab 3 23]
def y27.r4:jI:=[ab 24 3,a1c 25 24 0]
def y27.r5:jI:=[ab 26 3,ab 2 26]
def y27.r6:jI:=[ah 27 1 1,ae 28 1 27,⟨some 29,none,.call y9m [.t 28,.c (.fn 119 []),.c (.fn 120 [])]⟩,ab 4 29]
def y27.r7:jI:=[ab 30 4,a1c 31 30 0]
def y27.r8:jI:=[ab 32 4,ab 2 32]
def y27.r9:jI:=[ah 33 2 1,ae 34 1 33,⟨some 35,none,.call y95 [.t 34,.c (.fn 122 []),.c (.fn 123 [])]⟩,ab 2 35]
def y27:AFunc:=⟨36,[.t 2],jJ [1] y27.r0 (.seq (jJ [1,20] y27.r1 (.post [1] (.cond (.t 20) (jJ [2] y27.r2 (.ret)) (.skip)))) (.seq (jJ [1,3] y27.r3 (jJ [1,3,25] y27.r4 (.post [1] (.cond (.t 25) (jJ [2] y27.r5 (.ret)) (.skip))))) (.seq (jJ [1,4] y27.r6 (jJ [1,4,31] y27.r7 (.post [1] (.cond (.t 31) (jJ [2] y27.r8 (.ret)) (.skip))))) (jJ [2] y27.r9 (.ret)))))⟩
theorem y27.ok:y1x Tryz.prog Tryz.f58 y27=true:=by kernel_rfl
theorem y27.at:Tryz.prog.funcs[yct]?=some Tryz.f58:=Tryz.func58
def y46.r0:jI:=[a1a 2 0,ap 3]
def y46.r1:jI:=[ah 4 0 2,ae 5 1 4,ae 6 1 1,a2g 7 5 6,ab 3 7]
def y46:AFunc:=⟨8,[.t 3],jJ [1,2] y46.r0 (jJ [3] y46.r1 (.ret))⟩
theorem y46.ok:y1x Tryz.prog Tryz.f61 y46=true:=by kernel_rfl
theorem y46.at:Tryz.prog.funcs[y8j]?=some Tryz.f61:=Tryz.func61
def y1d.r0:jI:=[ai 4 0]
def y1d.r1:jI:=[ab 6 0,av 7 6,ai 8 0]
def y1d.r2:jI:=[ax 9 8 7]
def y1d.r3:jI:=[ab 10 8,ab 5 10]
def y1d.r4:jI:=[ab 11 1,ab 12 0,ab 13 5,a10 14 3 12 13,a14 15 3 14,a1l 16 11 15]
def y1d.r5:jI:=[ab 17 5,ab 4 17]
def y1d.r6:jI:=[ay 18 8 1,ab 8 18]
def y1d.l0:ACode:=jJ [0,1,7,8,9] y1d.r2 (.seq (.post [0,1,7,8] (.cond (.t 9) (.skip) (.exit 0))) (.seq (.post [0,1,7,8] (.block 1 (jJ [0,1,5,7,8] y1d.r3 (jJ [0,1,5,7,8,16] y1d.r4 (.post [0,1,7,8] (.cond (.t 16) (jJ [4] y1d.r5 (.ret)) (.skip))))))) (jK [0,1,7,8] y1d.r6)))
def y1d.r7:jI:=[ai 4 (-1)]
def y1d:AFunc:=⟨19,[.t 4],jJ [0,1] y1d.r0 (.seq (jJ [0,1,7,8] y1d.r1 (.post [] (.block 0 (.loop y1d.l0)))) (jJ [4] y1d.r7 (.ret)))⟩
theorem y1d.at:Tryz.prog.funcs[y5t]?=some Tryz.f124:=Tryz.func124
def y3r.r0:jI:=[ap 4]
def y3r.r1:jI:=[ab 5 0,ab 6 1,⟨some 7,none,.call y5t [.t 5,.t 6]⟩,a1k 8 7 0,ab 4 8]
def y3r:AFunc:=⟨9,[.t 4],jJ [0,1] y3r.r0 (jJ [4] y3r.r1 (.ret))⟩
theorem y3r.at:Tryz.prog.funcs[y5k]?=some Tryz.f60:=Tryz.func60
def y45.r0:jI:=[a1a 2 0,ap 3]
def y45.r1:jI:=[ah 4 0 2,ae 5 1 4,ae 6 1 1,a2g 7 5 6,ab 3 7]
def y45:AFunc:=⟨8,[.t 3],jJ [1,2] y45.r0 (jJ [3] y45.r1 (.ret))⟩
theorem y45.ok:y1x Tryz.prog Tryz.f63 y45=true:=by kernel_rfl
theorem y45.at:Tryz.prog.funcs[y8i]?=some Tryz.f63:=Tryz.func63
def y1l.r0:jI:=[ai 4 0]
def y1l.r1:jI:=[ab 6 0,av 7 6,ai 8 0]
def y1l.r2:jI:=[ax 9 8 7]
def y1l.r3:jI:=[ab 10 8,ab 5 10]
def y1l.r4:jI:=[ab 11 1,ab 12 0,ab 13 5,a10 14 3 12 13,a14 15 3 14,a1l 16 11 15]
def y1l.r5:jI:=[ab 17 5,ab 4 17]
def y1l.r6:jI:=[ay 18 8 1,ab 8 18]
def y1l.l0:ACode:=jJ [0,1,7,8,9] y1l.r2 (.seq (.post [0,1,7,8] (.cond (.t 9) (.skip) (.exit 0))) (.seq (.post [0,1,7,8] (.block 1 (jJ [0,1,5,7,8] y1l.r3 (jJ [0,1,5,7,8,16] y1l.r4 (.post [0,1,7,8] (.cond (.t 16) (jJ [4] y1l.r5 (.ret)) (.skip))))))) (jK [0,1,7,8] y1l.r6)))
def y1l.r7:jI:=[ai 4 (-1)]
def y1l:AFunc:=⟨19,[.t 4],jJ [0,1] y1l.r0 (.seq (jJ [0,1,7,8] y1l.r1 (.post [] (.block 0 (.loop y1l.l0)))) (jJ [4] y1l.r7 (.ret)))⟩
theorem y1l.at:Tryz.prog.funcs[y63]?=some Tryz.f125:=Tryz.func125
def y3x.r0:jI:=[ap 4]
def y3x.r1:jI:=[ab 5 0,ab 6 1,⟨some 7,none,.call y63 [.t 5,.t 6]⟩,a1k 8 7 0,ab 4 8]
def y3x:AFunc:=⟨9,[.t 4],jJ [0,1] y3x.r0 (jJ [4] y3x.r1 (.ret))⟩
theorem y3x.at:Tryz.prog.funcs[y5q]?=some Tryz.f62:=Tryz.func62
def y4p.r0:jI:=[a1v 2 0,ap 3]
def y4p.r1:jI:=[ah 4 4 1,ah 5 0 4,ae 6 1 5,⟨some 7,none,.op (.mkfn y8j [.t 2])⟩,⟨some 8,none,.call y5k [.t 6,.t 7]⟩,ab 9 8,a12 10 9 4 1,a12 11 9 1 10,a11 12 9 1 11,⟨some 13,(some (9,false)),.op (.mkfn y8i [.t 2])⟩,⟨some 14,(some (9,false)),.call y5q [.t 12,.t 13]⟩,az 15 9 14,ab 3 15]
def y4p:AFunc:=⟨16,[.t 3],jJ [1,2] y4p.r0 (jJ [3] y4p.r1 (.ret))⟩
theorem y4p.ok:y1x Tryz.prog Tryz.f59 y4p=true:=by kernel_rfl
theorem y4p.at:Tryz.prog.funcs[y59]?=some Tryz.f59:=Tryz.func59
def y2e.r0:jI:=[ap 2]
def y2e.r1:jI:=[ai 3 1]
def y2e.r2:jI:=[ab 4 3,ab 5 0,av 6 5,ax 7 4 6]
def y2e.r3:jI:=[ab 10 0,ab 11 3,a10 12 1 10 11,ae 13 1 12,ab 14 0,ab 15 3,a30 16 15 1,a10 17 1 14 16,ae 18 1 17,⟨some 19,none,.op (.bin .leq (.t 13) (.t 18))⟩]
def y2e.r4:jI:=[ap 2]
def y2e.r5:jI:=[ab 8 3,ay 9 8 1,ab 3 9]
def y2e.l0:ACode:=.seq (jJ [0,3,7] y2e.r2 (.post [0,3] (.cond (.t 7) (.skip) (.exit 0)))) (.seq (.post [0,3] (.block 1 (.seq (.post [0,3,19] (.draw [0,0,3,7,0,0,32,112,240,511] y2e.r3)) (.post [0,3] (.cond (.t 19) (jJ [2] y2e.r4 (.ret)) (.skip)))))) (jK [0,3] y2e.r5))
def y2e.r6:jI:=[a1g 2]
def y2e:AFunc:=⟨20,[.t 2],jJ [0] y2e.r0 (.seq (jJ [0,3] y2e.r1 (.post [] (.block 0 (.loop y2e.l0)))) (jJ [2] y2e.r6 (.ret)))⟩
theorem y2e.ok:y1x Tryz.prog Tryz.f64 y2e=true:=by kernel_rfl
theorem y2e.at:Tryz.prog.funcs[yad]?=some Tryz.f64:=Tryz.func64
def y4o.r0:jI:=[ap 3]
def y4o.r1:jI:=[ae 4 1 1,ab 5 0,a1l 6 4 5,a1d 7 6,ab 3 7]
def y4o:AFunc:=⟨8,[.t 3],jJ [0,1] y4o.r0 (jJ [3] y4o.r1 (.ret))⟩
theorem y4o.ok:y1x Tryz.prog Tryz.f66 y4o=true:=by kernel_rfl
theorem y4o.at:Tryz.prog.funcs[y9e]?=some Tryz.f66:=Tryz.func66
def yn.r0:jI:=[ai 4 0]
def yn.r1:jI:=[ab 6 0,av 7 6,ai 8 0]
def yn.r2:jI:=[ax 9 8 7]
def yn.r3:jI:=[ab 10 8,ab 5 10]
def yn.r4:jI:=[ab 11 1,ab 12 0,ab 13 5,a10 14 1 12 13,ae 15 1 14,a1l 16 11 15]
def yn.r5:jI:=[ab 17 5,ab 4 17]
def yn.r6:jI:=[ay 18 8 1,ab 8 18]
def yn.l0:ACode:=jJ [0,1,7,8,9] yn.r2 (.seq (.post [0,1,7,8] (.cond (.t 9) (.skip) (.exit 0))) (.seq (.post [0,1,7,8] (.block 1 (jJ [0,1,5,7,8] yn.r3 (jJ [0,1,5,7,8,16] yn.r4 (.post [0,1,7,8] (.cond (.t 16) (jJ [4] yn.r5 (.ret)) (.skip))))))) (jK [0,1,7,8] yn.r6)))
def yn.r7:jI:=[ai 4 (-1)]
def yn:AFunc:=⟨19,[.t 4],jJ [0,1] yn.r0 (.seq (jJ [0,1,7,8] yn.r1 (.post [] (.block 0 (.loop yn.l0)))) (jJ [4] yn.r7 (.ret)))⟩
theorem yn.ok:y1x Tryz.prog Tryz.f126 yn=true:=by kernel_rfl
theorem yn.at:Tryz.prog.funcs[y62]?=some Tryz.f126:=Tryz.func126
def y2g.r0:jI:=[ap 4]
def y2g.r1:jI:=[ab 5 0,ab 6 1,⟨some 7,none,.call y62 [.t 5,.t 6]⟩,a1k 8 7 0,ab 4 8]
def y2g:AFunc:=⟨9,[.t 4],jJ [0,1] y2g.r0 (jJ [4] y2g.r1 (.ret))⟩
theorem y2g.ok:y1x Tryz.prog Tryz.f65 y2g=true:=by kernel_rfl
theorem y2g.at:Tryz.prog.funcs[y4v]?=some Tryz.f65:=Tryz.func65
def yt.r0:jI:=[ai 4 0]
def yt.r1:jI:=[ab 6 0,av 7 6,ai 8 0]
def yt.r2:jI:=[ax 9 8 7]
def yt.r3:jI:=[ab 10 8,ab 5 10]
def yt.r4:jI:=[ab 11 1,ab 12 0,ab 13 5,a10 14 1 12 13,ae 15 1 14,a2g 16 11 15]
def yt.r5:jI:=[ab 17 5,ab 4 17]
def yt.r6:jI:=[ay 18 8 1,ab 8 18]
def yt.l0:ACode:=jJ [0,1,7,8,9] yt.r2 (.seq (.post [0,1,7,8] (.cond (.t 9) (.skip) (.exit 0))) (.seq (.post [0,1,7,8] (.block 1 (jJ [0,1,5,7,8] yt.r3 (jJ [0,1,5,7,8,16] yt.r4 (.post [0,1,7,8] (.cond (.t 16) (jJ [4] yt.r5 (.ret)) (.skip))))))) (jK [0,1,7,8] yt.r6)))
def yt.r7:jI:=[ai 4 (-1)]
def yt:AFunc:=⟨19,[.t 4],jJ [0,1] yt.r0 (.seq (jJ [0,1,7,8] yt.r1 (.post [] (.block 0 (.loop yt.l0)))) (jJ [4] yt.r7 (.ret)))⟩
theorem yt.ok:y1x Tryz.prog Tryz.f127 yt=true:=by kernel_rfl
theorem yt.at:Tryz.prog.funcs[y6s]?=some Tryz.f127:=Tryz.func127
def y2q.r0:jI:=[ap 4]
def y2q.r1:jI:=[ab 5 0,ab 6 1,⟨some 7,none,.call y6s [.t 5,.t 6]⟩,a1k 8 7 0,ab 4 8]
def y2q:AFunc:=⟨9,[.t 4],jJ [0,1] y2q.r0 (jJ [4] y2q.r1 (.ret))⟩
theorem y2q.ok:y1x Tryz.prog Tryz.f68 y2q=true:=by kernel_rfl
theorem y2q.at:Tryz.prog.funcs[y6b]?=some Tryz.f68:=Tryz.func68
def y4n.r0:jI:=[ap 3]
def y4n.r1:jI:=[ah 4 2 1,ae 5 1 4,ab 6 0,⟨some 7,none,.call y6b [.t 5,.t 6]⟩,ab 3 7]
def y4n:AFunc:=⟨8,[.t 3],jJ [0,1] y4n.r0 (jJ [3] y4n.r1 (.ret))⟩
theorem y4n.ok:y1x Tryz.prog Tryz.f67 y4n=true:=by kernel_rfl
theorem y4n.at:Tryz.prog.funcs[y9d]?=some Tryz.f67:=Tryz.func67
def y4m.r0:jI:=[ap 2]
def y4m.r1:jI:=[ab 3 0,⟨some 4,none,.call y7m [.t 3]⟩,a1d 5 4,ab 2 5]
def y4m:AFunc:=⟨6,[.t 2],jJ [0] y4m.r0 (jJ [2] y4m.r1 (.ret))⟩
theorem y4m.ok:y1x Tryz.prog Tryz.f69 y4m=true:=by kernel_rfl
theorem y4m.at:Tryz.prog.funcs[yb0]?=some Tryz.f69:=Tryz.func69
def yg.r0:jI:=[a1v 1 0,ai 2 0]
def yg.r1:jI:=[ah 7 0 1,ae 8 1 7,⟨some 9,none,.call y9f [.t 8]⟩,a1d 10 9]
def yg.r2:jI:=[ai 2 11]
def yg.r3:jI:=[ah 11 4 1,a14 12 3 11,⟨some 13,none,.call yct [.t 12]⟩,ab 3 13]
def yg.r4:jI:=[ab 14 3,a1c 15 14 0]
def yg.r5:jI:=[ab 16 3,ab 2 16]
def yg.r6:jI:=[⟨some 17,none,.op (.mkfn y59 [.t 1])⟩,⟨some 4,none,.op (.new [.nf])⟩,ar 1 4 17]
def yg.r7:jI:=[ah 18 1 1,ae 19 1 18,ah 20 2 1,ae 21 1 20,⟨some 22,none,.op (.bfz 2 1 [.sl none 0 0] [(0,1,.t 19),(1,1,.t 21)])⟩,av 23 22,ai 24 0]
def yg.r8:jI:=[ax 25 24 23]
def yg.r9:jI:=[a10 26 1 22 24,ae 27 1 26,ab 6 27]
def yg.r10:jI:=[ab 29 6,⟨some 30,none,.call yad [.t 29]⟩,a1d 31 30,ab 28 31]
def yg.r11:jI:=[ai 2 13]
def yg.r12:jI:=[ab 33 6,⟨some 34,none,.op (.mkfn y9e [.t 4])⟩,⟨some 35,none,.call y4v [.t 33,.t 34]⟩,ab 32 35]
def yg.r13:jI:=[ai 2 7]
def yg.r14:jI:=[ay 36 24 1,ab 24 36]
def yg.l0:ACode:=jJ [1,4,22,23,24,25] yg.r8 (.seq (.post [1,4,22,23,24] (.cond (.t 25) (.skip) (.exit 0))) (.seq (.post [1,4,22,23,24] (.block 1 (jJ [1,4,6,22,23,24] yg.r9 (.post [1,4,22,23,24] (.block 2 (jJ [1,4,6,22,23,24,28] yg.r10 (.post [1,4,22,23,24] (.cond (.t 28) (jJ [2] yg.r11 (.ret)) (jJ [1,4,22,23,24,32] yg.r12 (.post [1,4,22,23,24] (.cond (.t 32) (jJ [2] yg.r13 (.ret)) (.skip)))))))))))) (jK [1,4,22,23,24] yg.r14)))
def yg.r15:jI:=[ah 38 1 1,ae 39 1 38,⟨some 40,none,.op (.mkfn y9d [.t 1])⟩,⟨some 41,none,.call y4v [.t 39,.t 40]⟩,ab 37 41]
def yg.r16:jI:=[ai 2 8]
def yg.r17:jI:=[ah 43 3 1,ae 44 1 43,av 45 44,a1e 46 45 6000,ab 42 46]
def yg.r18:jI:=[ai 2 4]
def yg.r19:jI:=[ah 48 3 1,ae 49 1 48,⟨some 50,none,.call yad [.t 49]⟩,a1d 51 50,ab 47 51]
def yg.r20:jI:=[ai 2 13]
def yg.r21:jI:=[ah 53 3 1,ae 54 1 53,⟨some 55,none,.call y4v [.t 54,.c (.fn 69 [])]⟩,ab 52 55]
def yg.r22:jI:=[ai 2 11]
def yg.r23:jI:=[ai 2 0]
def yg:AFunc:=⟨56,[.t 2],jJ [1] yg.r0 (.seq (jJ [1,10] yg.r1 (.post [1] (.cond (.t 10) (jJ [2] yg.r2 (.ret)) (.skip)))) (.seq (jJ [1,3] yg.r3 (jJ [1,3,15] yg.r4 (.post [1] (.cond (.t 15) (jJ [2] yg.r5 (.ret)) (.skip))))) (jJ [1,4] yg.r6 (.seq (jJ [1,4,22,23,24] yg.r7 (.post [1] (.block 0 (.loop yg.l0)))) (.seq (.post [] (.block 3 (jJ [1,37] yg.r15 (.post [] (.cond (.t 37) (jJ [2] yg.r16 (.ret)) (jJ [1,42] yg.r17 (.post [] (.cond (.t 42) (jJ [2] yg.r18 (.ret)) (jJ [1,47] yg.r19 (.post [] (.cond (.t 47) (jJ [2] yg.r20 (.ret)) (jJ [52] yg.r21 (.post [] (.cond (.t 52) (jJ [2] yg.r22 (.ret)) (.skip))))))))))))))) (jJ [2] yg.r23 (.ret)))))))⟩
theorem yg.ok:y1x Tryz.prog Tryz.f20 yg=true:=by kernel_rfl
theorem yg.at:Tryz.prog.funcs[yae]?=some Tryz.f20:=Tryz.func20
def y5g.r0:jI:=[ae 3 1 1,ab 4 0,a31 5 1 1 0 1 4,a1w 6 1 16 3 5,ar 1 1 6]
def y5g:AFunc:=⟨7,[],jK [] y5g.r0⟩
theorem y5g.ok:y1x Tryz.prog Tryz.f71 y5g=true:=by kernel_rfl
theorem y5g.at:Tryz.prog.funcs[y60]?=some Tryz.f71:=Tryz.func71
def y3a.r0:jI:=[a1p 2 0 0]
def y3a.r1:jI:=[ab 3 0,⟨some 4,none,.op (.eqk .ptr false (.t 3) (.c (.p none)))⟩]
def y3a.r2:jI:=[a1p 2 0 0]
def y3a.r3:jI:=[ab 5 0,a13 6 5,ah 7 0 6,ae 8 1 7,ab 2 8]
def y3a:AFunc:=⟨9,[.t 2],jJ [0] y3a.r0 (.seq (jJ [0,4] y3a.r1 (.post [0] (.cond (.t 4) (jJ [2] y3a.r2 (.ret)) (.skip)))) (jJ [2] y3a.r3 (.ret)))⟩
theorem y3a.ok:y1x Tryz.prog Tryz.f77 y3a=true:=by kernel_rfl
theorem y3a.at:Tryz.prog.funcs[y7k]?=some Tryz.f77:=Tryz.func77
def y4s.r0:jI:=[ap 4]
def y4s.r1:jI:=[ab 5 0,⟨some 6,none,.call y6k [.t 5]⟩,ab 7 6,am 8 7 1,⟨some 9,(some (7,true)),.call y6k [.t 8]⟩,a1y 10 7 9,aq 11 7 10,ab 12 11,a19 13 12 0,a19 14 12 1,⟨some 15,(some (12,false)),.op (.bin .lss (.t 13) (.t 14))⟩,az 16 12 15,ab 4 16]
def y4s:AFunc:=⟨17,[.t 4],jJ [0,1] y4s.r0 (jJ [4] y4s.r1 (.ret))⟩
theorem y4s.ok:y1x Tryz.prog Tryz.f222 y4s=true:=by kernel_rfl
theorem y4s.at:Tryz.prog.funcs[yb2]?=some Tryz.f222:=Tryz.func222
def y3p.r0:jI:=[ap 2]
def y3p.r1:jI:=[ab 3 0,ab 4 0,a23 5 3 4,ab 2 5]
def y3p:AFunc:=⟨6,[.t 2],jJ [0] y3p.r0 (jJ [2] y3p.r1 (.ret))⟩
theorem y3p.ok:y1x Tryz.prog Tryz.f223 y3p=true:=by kernel_rfl
theorem y3p.at:Tryz.prog.funcs[y7n]?=some Tryz.f223:=Tryz.func223
def yc.r0:jI:=[ai 4 0,ap 5]
def yc.r1:jI:=[ab 10 0,av 11 10,ab 6 11]
def yc.r2:jI:=[ab 12 6,ai 7 0,ab 8 12]
def yc.r3:jI:=[ab 13 7,ab 14 8,ax 15 13 14]
def yc.r4:jI:=[ab 16 7,ab 17 8,a1f 18 16 17,a3g 19 18,a32 20 19 1,a3h 21 20,ab 9 21]
def yc.r5:jI:=[ab 22 0,ab 23 9,a10 24 1 22 23,ae 25 1 24,ab 26 1,⟨some 27,none,.call yb2 [.t 25,.t 26]⟩]
def yc.r6:jI:=[ab 28 9,ay 29 28 1,ab 7 29]
def yc.r7:jI:=[ab 30 9,ab 8 30]
def yc.l0:ACode:=.seq (jJ [0,1,6,7,8,15] yc.r3 (.post [0,1,6,7,8] (.cond (.t 15) (.skip) (.exit 0)))) (.post [0,1,6,7,8] (.block 1 (jJ [0,1,6,7,8,9] yc.r4 (jJ [0,1,6,7,8,9,27] yc.r5 (.post [0,1,6,7,8] (.cond (.t 27) (jK [0,1,6,7,8] yc.r6) (jK [0,1,6,7,8] yc.r7)))))))
def yc.r8:jI:=[ab 31 7,ab 32 7,ab 33 6,ax 34 32 33,ab 35 34,am 36 35 0,am 37 35 7,a1r 38 35 1 36 37,a15 39 35 1 38,am 40 35 1,a2n 41 35 39 40,am 42 35 41,a19 43 42 0,a19 44 42 7,a36 45 42 1 43 44,a11 46 42 1 45,⟨some 47,(some (42,false)),.call y7n [.t 46]⟩,a19 48 42 47,am 49 48 1,⟨some 50,(some (48,true)),.call y7n [.t 49]⟩,a1j 51 42 48 50,a1n 52 35 42 51,aq 53 35 52,ab 4 31,ab 5 53]
def yc:AFunc:=⟨54,[.t 4,.t 5],jJ [0,1] yc.r0 (jJ [0,1,6] yc.r1 (jJ [0,1,6,7,8] yc.r2 (.seq (.post [0,1,6,7] (.block 0 (.loop yc.l0))) (jJ [4,5] yc.r8 (.ret)))))⟩
theorem yc.ok:y1x Tryz.prog Tryz.f205 yc=true:=by kernel_rfl
theorem yc.at:Tryz.prog.funcs[y5r]?=some Tryz.f205:=Tryz.func205
def y2w.r0:jI:=[ai 4 0,ap 5]
def y2w.r1:jI:=[ab 9 0,⟨some 10,none,.call y7k [.t 9]⟩,ab 11 1,⟨some 12,none,.call y5r [.t 10,.t 11]⟩,ab 8 12,aj 13 0 8,aj 14 1 8,ab 6 13,ab 7 14]
def y2w.r2:jI:=[ab 15 7,a1d 16 15]
def y2w.r3:jI:=[ai 4 0,ap 5]
def y2w.r4:jI:=[ab 17 6,ab 4 17,a1g 5]
def y2w:AFunc:=⟨18,[.t 4,.t 5],jJ [0,1] y2w.r0 (jJ [6,7] y2w.r1 (.seq (jJ [6,16] y2w.r2 (.post [6] (.cond (.t 16) (jJ [4,5] y2w.r3 (.ret)) (.skip)))) (jJ [4,5] y2w.r4 (.ret))))⟩
theorem y2w.ok:y1x Tryz.prog Tryz.f180 y2w=true:=by kernel_rfl
theorem y2w.at:Tryz.prog.funcs[yah]?=some Tryz.f180:=Tryz.func180
def y3w.r0:jI:=[ab 4 0,a13 5 4,ah 6 5 5,ae 7 1 6,a18 8 7 0]
def y3w.r1:jI:=[ab 9 0,ab 10 1,a13 11 9,ah 12 5 11,ar 1 12 10]
def y3w:AFunc:=⟨13,[],jJ [0,1,8] y3w.r0 (.post [] (.cond (.t 8) (jK [] y3w.r1) (.skip)))⟩
theorem y3w.ok:y1x Tryz.prog Tryz.f181 y3w=true:=by kernel_rfl
theorem y3w.at:Tryz.prog.funcs[y80]?=some Tryz.f181:=Tryz.func181
def y2z.r0:jI:=[ae 3 1 1,a1e 4 3 127,ab 5 4,am 6 5 0,a15 7 5 1 1,⟨some 8,(some (5,true)),.op (.bin .and (.t 7) (.c (.i .i64 127)))⟩,⟨some 9,(some (5,true)),.op (.bin .or (.t 8) (.c (.i .i64 128)))⟩,⟨some 10,(some (5,true)),.op (.conv .u8 (.t 9))⟩,⟨some 11,(some (5,true)),.callv (.t 6) [.t 10]⟩,aq 12 5 11]
def y2z.r1:jI:=[ae 13 1 1,a32 14 13 7,ar 1 1 14]
def y2z.l0:ACode:=.seq (jJ [0,1,12] y2z.r0 (.post [0,1] (.cond (.t 12) (.skip) (.exit 0)))) (.post [0,1] (.block 1 (jK [0,1] y2z.r1)))
def y2z.r2:jI:=[ae 15 1 1,⟨some 16,none,.op (.bin .leq (.t 15) (.c (.i .i64 127)))⟩]
def y2z.r3:jI:=[ab 17 0,ae 18 1 1,a2o 19 18,a1l 20 17 19]
def y2z:AFunc:=⟨21,[],.seq (.post [0,1] (.block 0 (.loop y2z.l0))) (jJ [0,1,16] y2z.r2 (.post [] (.cond (.t 16) (jK [] y2z.r3) (.skip))))⟩
theorem y2z.ok:y1x Tryz.prog Tryz.f142 y2z=true:=by kernel_rfl
theorem y2z.at:Tryz.prog.funcs[y9b]?=some Tryz.f142:=Tryz.func142
def y52.r0:jI:=[a1v 1 0,⟨some 2,none,.op (.mov (.c (.nf)))⟩]
def y52.r1:jI:=[⟨some 3,none,.op (.mkfn y9b [.t 1])⟩,ab 2 3]
def y52:AFunc:=⟨4,[.t 2],jJ [1] y52.r0 (jJ [2] y52.r1 (.ret))⟩
theorem y52.ok:y1x Tryz.prog Tryz.f75 y52=true:=by kernel_rfl
theorem y52.at:Tryz.prog.funcs[yc5]?=some Tryz.f75:=Tryz.func75
def y26.r0:jI:=[a3i 4]
def y26.r1:jI:=[ab 5 0,⟨some 6,none,.call y72 [.t 5]⟩]
def y26.r2:jI:=[ab 7 0,ab 8 0,a13 9 8,ah 10 1 9,ae 11 1 10,ab 12 1,⟨some 13,none,.op (.bfz 1 1 [.i .u8 0] [(0,1,.t 12)])⟩,⟨some 14,none,.op (.appT 5 1 1 (.t 11) (.t 13))⟩,a13 15 7,ah 16 1 15,ar 1 16 14]
def y26.r3:jI:=[a3i 4]
def y26:AFunc:=⟨17,[.t 4],jJ [0,1] y26.r0 (jJ [0,1] y26.r1 (jJ [] y26.r2 (jJ [4] y26.r3 (.ret))))⟩
theorem y26.ok:y1x Tryz.prog Tryz.f76 y26=true:=by kernel_rfl
theorem y26.at:Tryz.prog.funcs[y73]?=some Tryz.f76:=Tryz.func76
def y13.r0:jI:=[a1a 2 0]
def y13.r1:jI:=[ae 5 1 2,a13 6 5,ah 7 2 6,ae 8 1 7,a18 9 8 0,ab 10 9,am 11 10 1,a3k 12 10 11 0,am 13 10 12,a19 14 13 1,a1i 15 13 14 268435456,a1n 16 10 13 15,aq 17 10 16]
def y13.r2:jI:=[ae 18 1 2,a13 19 18,ah 20 2 19,a2x 1 20 2]
def y13.r3:jI:=[ae 21 1 2,a13 22 21,ah 23 2 22,ae 24 1 23,a1c 25 24 0]
def y13.r4:jI:=[ab 26 1,⟨some 27,none,.call yc5 [.t 26]⟩]
def y13.r5:jI:=[ab 4 28]
def y13.r6:jI:=[ae 29 1 2,a13 30 29,ah 31 0 30,ab 32 4,⟨some 33,none,.call y73 [.t 31,.t 32]⟩]
def y13.a0:ACode:=jK [2,4] y13.r5
def y13.b0:ACode:=.post [] (.block 1 (jK [] y13.r6))
def y13:AFunc:=⟨34,[],jJ [1,2] y13.r0 (.seq (jJ [1,2,17] y13.r1 (.post [1,2] (.cond (.t 17) (jK [1,2] y13.r2) (.skip)))) (.seq (jJ [1,2,25] y13.r3 (.post [1,2] (.cond (.t 25) (.ret) (.skip)))) (jJ [2,27] y13.r4 (.post [] (.block 0 (.post [] (.rangeFunc (.t 27) [28] y13.a0 y13.b0)))))))⟩
theorem y13.ok:y1x Tryz.prog Tryz.f24 y13=true:=by kernel_rfl
theorem y13.at:Tryz.prog.funcs[y5b]?=some Tryz.f24:=Tryz.func24
def y31.r0:jI:=[ab 4 1,a27 5 4 0,ab 6 5,a19 7 6 1,a1i 8 6 7 268435456,az 9 6 8]
def y31.r1:jI:=[ab 10 0,⟨some 11,none,.call y80 [.t 10,.c (.i .i64 2)]⟩]
def y31.r2:jI:=[ab 12 0,a13 13 12,ah 14 0 13,ab 15 1,⟨some 16,none,.call y5b [.t 14,.t 15]⟩]
def y31:AFunc:=⟨17,[],.seq (jJ [0,1,9] y31.r0 (.post [0,1] (.cond (.t 9) (jJ [] y31.r1 (.ret)) (.skip)))) (jK [] y31.r2)⟩
theorem y31.ok:y1x Tryz.prog Tryz.f135 y31=true:=by kernel_rfl
theorem y31.at:Tryz.prog.funcs[y40]?=some Tryz.f135:=Tryz.func135
def y2k.r0:jI:=[ab 6 0,a13 7 6,ah 8 4 7,ae 9 1 8,ab 10 1,a1l 11 9 10]
def y2k.r1:jI:=[ab 13 0,a13 14 13,ah 15 3 14,ae 16 1 15,ab 17 1,⟨some 18,none,.call yah [.t 16,.t 17]⟩,ab 12 18,aj 19 0 12,aj 20 1 12,ab 4 19,ab 5 20]
def y2k.r2:jI:=[ab 21 5,a1d 22 21]
def y2k.r3:jI:=[ab 23 0,⟨some 24,none,.call y80 [.t 23,.c (.i .i64 7)]⟩]
def y2k.r4:jI:=[ab 25 0,ab 26 4,⟨some 27,none,.call y40 [.t 25,.t 26]⟩]
def y2k:AFunc:=⟨28,[],jJ [0,1] y2k.r0 (jJ [0,4,5] y2k.r1 (.seq (jJ [0,4,22] y2k.r2 (.post [0,4] (.cond (.t 22) (jK [0,4] y2k.r3) (.skip)))) (jK [] y2k.r4)))⟩
theorem y2k.ok:y1x Tryz.prog Tryz.f129 y2k=true:=by kernel_rfl
theorem y2k.at:Tryz.prog.funcs[y35]?=some Tryz.f129:=Tryz.func129
def y1g.r0:jI:=[ab 8 0,ab 9 1,av 10 9,⟨some 11,none,.call y40 [.t 8,.t 10]⟩]
def y1g.r1:jI:=[ab 12 1,av 13 12,ai 14 0]
def y1g.r2:jI:=[ax 15 14 13]
def y1g.r3:jI:=[a10 16 1 12 14,ae 17 1 16,ab 7 17]
def y1g.r4:jI:=[ab 18 2,ab 19 7,a1l 20 18 19]
def y1g.r5:jI:=[ay 21 14 1,ab 14 21]
def y1g.l0:ACode:=jJ [2,12,13,14,15] y1g.r2 (.seq (.post [2,12,13,14] (.cond (.t 15) (.skip) (.exit 0))) (.seq (.post [2,12,13,14] (.block 1 (jJ [2,7,12,13,14] y1g.r3 (jK [2,12,13,14] y1g.r4)))) (jK [2,12,13,14] y1g.r5)))
def y1g:AFunc:=⟨22,[],jJ [1,2] y1g.r0 (jJ [2,12,13,14] y1g.r1 (.post [] (.block 0 (.loop y1g.l0))))⟩
theorem y1g.ok:y1x Tryz.prog Tryz.f130 y1g=true:=by kernel_rfl
theorem y1g.at:Tryz.prog.funcs[y5x]?=some Tryz.f130:=Tryz.func130
def y2l.r0:jI:=[a1a 2 0]
def y2l.r1:jI:=[ae 3 1 1,ah 4 0 2,ae 5 1 4,⟨some 6,none,.call y40 [.t 3,.t 5]⟩]
def y2l.r2:jI:=[ae 7 1 1,ah 8 1 2,ae 9 1 8,⟨some 10,none,.call y35 [.t 7,.t 9]⟩]
def y2l:AFunc:=⟨11,[],jJ [1,2] y2l.r0 (jJ [1,2] y2l.r1 (jK [] y2l.r2))⟩
theorem y2l.ok:y1x Tryz.prog Tryz.f134 y2l=true:=by kernel_rfl
theorem y2l.at:Tryz.prog.funcs[y5v]?=some Tryz.f134:=Tryz.func134
def y2m.r0:jI:=[ab 8 0,ab 9 1,av 10 9,⟨some 11,none,.call y40 [.t 8,.t 10]⟩]
def y2m.r1:jI:=[ab 12 1,av 13 12,ai 14 0]
def y2m.r2:jI:=[ax 15 14 13]
def y2m.r3:jI:=[a10 16 2 12 14,a14 17 2 16,a3e 7 0,ar 2 7 17]
def y2m.r4:jI:=[ab 18 2,a14 19 2 7,a1l 20 18 19]
def y2m.r5:jI:=[ay 21 14 1,ab 14 21]
def y2m.l0:ACode:=jJ [2,12,13,14,15] y2m.r2 (.seq (.post [2,12,13,14] (.cond (.t 15) (.skip) (.exit 0))) (.seq (.post [2,12,13,14] (.block 1 (jJ [2,7,12,13,14] y2m.r3 (jK [2,12,13,14] y2m.r4)))) (jK [2,12,13,14] y2m.r5)))
def y2m:AFunc:=⟨22,[],jJ [1,2] y2m.r0 (jJ [2,12,13,14] y2m.r1 (.post [] (.block 0 (.loop y2m.l0))))⟩
theorem y2m.ok:y1x Tryz.prog Tryz.f133 y2m=true:=by kernel_rfl
theorem y2m.at:Tryz.prog.funcs[yan]?=some Tryz.f133:=Tryz.func133
def y2d.r0:jI:=[a1a 2 0]
def y2d.r1:jI:=[ae 3 1 1,ah 4 0 2,ae 5 1 4,⟨some 6,none,.call y35 [.t 3,.t 5]⟩]
def y2d.r2:jI:=[ae 7 1 1,ah 8 1 2,ae 9 1 8,⟨some 10,none,.call y35 [.t 7,.t 9]⟩]
def y2d.r3:jI:=[ae 11 1 1,ah 12 2 2,ae 13 1 12,⟨some 14,none,.op (.mkfn y5v [.t 1])⟩,⟨some 15,none,.call yan [.t 11,.t 13,.t 14]⟩]
def y2d:AFunc:=⟨16,[],jJ [1,2] y2d.r0 (jJ [1,2] y2d.r1 (jJ [1,2] y2d.r2 (jK [] y2d.r3)))⟩
theorem y2d.ok:y1x Tryz.prog Tryz.f132 y2d=true:=by kernel_rfl
theorem y2d.at:Tryz.prog.funcs[y6e]?=some Tryz.f132:=Tryz.func132
def y2n.r0:jI:=[ab 8 0,ab 9 1,av 10 9,⟨some 11,none,.call y40 [.t 8,.t 10]⟩]
def y2n.r1:jI:=[ab 12 1,av 13 12,ai 14 0]
def y2n.r2:jI:=[ax 15 14 13]
def y2n.r3:jI:=[a10 16 3 12 14,a14 17 3 16,a38 7 0 0,ar 3 7 17]
def y2n.r4:jI:=[ab 18 2,a14 19 3 7,a1l 20 18 19]
def y2n.r5:jI:=[ay 21 14 1,ab 14 21]
def y2n.l0:ACode:=jJ [2,12,13,14,15] y2n.r2 (.seq (.post [2,12,13,14] (.cond (.t 15) (.skip) (.exit 0))) (.seq (.post [2,12,13,14] (.block 1 (jJ [2,7,12,13,14] y2n.r3 (jK [2,12,13,14] y2n.r4)))) (jK [2,12,13,14] y2n.r5)))
def y2n:AFunc:=⟨22,[],jJ [1,2] y2n.r0 (jJ [2,12,13,14] y2n.r1 (.post [] (.block 0 (.loop y2n.l0))))⟩
theorem y2n.ok:y1x Tryz.prog Tryz.f131 y2n=true:=by kernel_rfl
theorem y2n.at:Tryz.prog.funcs[ybb]?=some Tryz.f131:=Tryz.func131
def y2c.r0:jI:=[a1a 2 0]
def y2c.r1:jI:=[ae 3 1 1,ah 4 0 2,ae 5 1 4,⟨some 6,none,.call y35 [.t 3,.t 5]⟩]
def y2c.r2:jI:=[ae 7 1 1,ah 8 1 2,ae 9 1 8,⟨some 10,none,.call y35 [.t 7,.t 9]⟩]
def y2c.r3:jI:=[ae 11 1 1,ah 12 2 2,ae 13 1 12,⟨some 14,none,.call y35 [.t 11,.t 13]⟩]
def y2c:AFunc:=⟨15,[],jJ [1,2] y2c.r0 (jJ [1,2] y2c.r1 (jJ [1,2] y2c.r2 (jK [] y2c.r3)))⟩
theorem y2c.ok:y1x Tryz.prog Tryz.f137 y2c=true:=by kernel_rfl
theorem y2c.at:Tryz.prog.funcs[y6d]?=some Tryz.f137:=Tryz.func137
def y2u.r0:jI:=[ab 8 0,ab 9 1,av 10 9,⟨some 11,none,.call y40 [.t 8,.t 10]⟩]
def y2u.r1:jI:=[ab 12 1,av 13 12,ai 14 0]
def y2u.r2:jI:=[ax 15 14 13]
def y2u.r3:jI:=[a10 16 3 12 14,a14 17 3 16,a3f 7,ar 3 7 17]
def y2u.r4:jI:=[ab 18 2,a14 19 3 7,a1l 20 18 19]
def y2u.r5:jI:=[ay 21 14 1,ab 14 21]
def y2u.l0:ACode:=jJ [2,12,13,14,15] y2u.r2 (.seq (.post [2,12,13,14] (.cond (.t 15) (.skip) (.exit 0))) (.seq (.post [2,12,13,14] (.block 1 (jJ [2,7,12,13,14] y2u.r3 (jK [2,12,13,14] y2u.r4)))) (jK [2,12,13,14] y2u.r5)))
def y2u:AFunc:=⟨22,[],jJ [1,2] y2u.r0 (jJ [2,12,13,14] y2u.r1 (.post [] (.block 0 (.loop y2u.l0))))⟩
theorem y2u.ok:y1x Tryz.prog Tryz.f136 y2u=true:=by kernel_rfl
theorem y2u.at:Tryz.prog.funcs[ybn]?=some Tryz.f136:=Tryz.func136
def y1j.r0:jI:=[a1a 2 0]
def y1j.r1:jI:=[ae 3 1 1,ah 4 0 2,ae 5 1 4,⟨some 6,none,.call y40 [.t 3,.t 5]⟩]
def y1j.r2:jI:=[ae 7 1 1,ah 8 1 2,ae 9 1 8,⟨some 10,none,.call y35 [.t 7,.t 9]⟩]
def y1j.r3:jI:=[ae 11 1 1,ah 12 2 2,ae 13 1 12,⟨some 14,none,.call y35 [.t 11,.t 13]⟩]
def y1j.r4:jI:=[ae 15 1 1,ah 16 3 2,ae 17 1 16,⟨some 18,none,.call y40 [.t 15,.t 17]⟩]
def y1j.r5:jI:=[ae 19 1 1,ah 20 4 2,ae 21 1 20,⟨some 22,none,.call y35 [.t 19,.t 21]⟩]
def y1j.r6:jI:=[ae 23 1 1,ah 24 5 2,ae 25 1 24,ae 26 1 1,⟨some 27,none,.op (.mkfb y35 [.t 26])⟩,⟨some 28,none,.call y5x [.t 23,.t 25,.t 27]⟩]
def y1j:AFunc:=⟨29,[],jJ [1,2] y1j.r0 (jJ [1,2] y1j.r1 (jJ [1,2] y1j.r2 (jJ [1,2] y1j.r3 (jJ [1,2] y1j.r4 (jJ [1,2] y1j.r5 (jK [] y1j.r6))))))⟩
theorem y1j.ok:y1x Tryz.prog Tryz.f139 y1j=true:=by kernel_rfl
theorem y1j.at:Tryz.prog.funcs[y6c]?=some Tryz.f139:=Tryz.func139
def y2o.r0:jI:=[ab 8 0,ab 9 1,av 10 9,⟨some 11,none,.call y40 [.t 8,.t 10]⟩]
def y2o.r1:jI:=[ab 12 1,av 13 12,ai 14 0]
def y2o.r2:jI:=[ax 15 14 13]
def y2o.r3:jI:=[a10 16 6 12 14,a14 17 6 16,a2s 7 0 0 0 0,ar 6 7 17]
def y2o.r4:jI:=[ab 18 2,a14 19 6 7,a1l 20 18 19]
def y2o.r5:jI:=[ay 21 14 1,ab 14 21]
def y2o.l0:ACode:=jJ [2,12,13,14,15] y2o.r2 (.seq (.post [2,12,13,14] (.cond (.t 15) (.skip) (.exit 0))) (.seq (.post [2,12,13,14] (.block 1 (jJ [2,7,12,13,14] y2o.r3 (jK [2,12,13,14] y2o.r4)))) (jK [2,12,13,14] y2o.r5)))
def y2o:AFunc:=⟨22,[],jJ [1,2] y2o.r0 (jJ [2,12,13,14] y2o.r1 (.post [] (.block 0 (.loop y2o.l0))))⟩
theorem y2o.ok:y1x Tryz.prog Tryz.f138 y2o=true:=by kernel_rfl
theorem y2o.at:Tryz.prog.funcs[ybc]?=some Tryz.f138:=Tryz.func138
def y1f.r0:jI:=[a1v 2 0,a1a 3 1]
def y1f.r1:jI:=[ae 4 1 2,ah 5 0 3,ae 6 1 5,⟨some 7,none,.call y35 [.t 4,.t 6]⟩]
def y1f.r2:jI:=[ae 8 1 2,ah 9 1 3,ae 10 1 9,ae 11 1 2,⟨some 12,none,.op (.mkfb y35 [.t 11])⟩,⟨some 13,none,.call y5x [.t 8,.t 10,.t 12]⟩]
def y1f.r3:jI:=[ae 14 1 2,ah 15 2 3,ae 16 1 15,ae 17 1 2,⟨some 18,none,.op (.mkfb y35 [.t 17])⟩,⟨some 19,none,.call y5x [.t 14,.t 16,.t 18]⟩]
def y1f.r4:jI:=[ae 20 1 2,ah 21 3 3,ae 22 1 21,ae 23 1 2,⟨some 24,none,.op (.mkfb y35 [.t 23])⟩,⟨some 25,none,.call y5x [.t 20,.t 22,.t 24]⟩]
def y1f.r5:jI:=[ae 26 1 2,ah 27 4 3,ah 28 0 27,ae 29 1 28,⟨some 30,none,.op (.mkfn y6e [.t 2])⟩,⟨some 31,none,.call ybb [.t 26,.t 29,.t 30]⟩]
def y1f.r6:jI:=[ae 32 1 2,ah 33 4 3,ah 34 1 33,ae 35 1 34,⟨some 36,none,.op (.mkfn y6d [.t 2])⟩,⟨some 37,none,.call ybn [.t 32,.t 35,.t 36]⟩]
def y1f.r7:jI:=[ae 38 1 2,ah 39 4 3,ah 40 2 39,ae 41 1 40,⟨some 42,none,.op (.mkfn y6c [.t 2])⟩,⟨some 43,none,.call ybc [.t 38,.t 41,.t 42]⟩]
def y1f:AFunc:=⟨44,[],jJ [2,3] y1f.r0 (jJ [2,3] y1f.r1 (jJ [2,3] y1f.r2 (jJ [2,3] y1f.r3 (jJ [2,3] y1f.r4 (jJ [2,3] y1f.r5 (jJ [2,3] y1f.r6 (jK [] y1f.r7)))))))⟩
theorem y1f.ok:y1x Tryz.prog Tryz.f72 y1f=true:=by kernel_rfl
theorem y1f.at:Tryz.prog.funcs[y6t]?=some Tryz.f72:=Tryz.func72
def y2x.r0:jI:=[ai 5 0]
def y2x.r1:jI:=[ae 6 1 2,a13 7 6,ah 8 0 7,ae 9 1 8,ab 10 0,a10 11 1 9 10,ae 12 1 11,ab 13 1,⟨some 14,none,.call y51 [.t 12,.t 13]⟩,ab 5 14]
def y2x:AFunc:=⟨15,[.t 5],jJ [0,1,2] y2x.r0 (jJ [5] y2x.r1 (.ret))⟩
theorem y2x.ok:y1x Tryz.prog Tryz.f207 y2x=true:=by kernel_rfl
theorem y2x.at:Tryz.prog.funcs[y6p]?=some Tryz.f207:=Tryz.func207
def y5.r0:jI:=[ai 6 0,ap 7]
def y5.r1:jI:=[ab 12 0,av 13 12,ab 8 13]
def y5.r2:jI:=[ab 14 8,ai 9 0,ab 10 14]
def y5.r3:jI:=[ab 15 9,ab 16 10,ax 17 15 16]
def y5.r4:jI:=[ab 18 9,ab 19 10,a1f 20 18 19,a3g 21 20,a32 22 21 1,a3h 23 22,ab 11 23]
def y5.r5:jI:=[ab 24 2,ab 25 0,ab 26 11,a10 27 1 25 26,ae 28 1 27,ab 29 1,⟨some 30,none,.callv (.t 24) [.t 28,.t 29]⟩,a27 31 30 0]
def y5.r6:jI:=[ab 32 11,ay 33 32 1,ab 9 33]
def y5.r7:jI:=[ab 34 11,ab 10 34]
def y5.l0:ACode:=.seq (jJ [0,1,2,8,9,10,17] y5.r3 (.post [0,1,2,8,9,10] (.cond (.t 17) (.skip) (.exit 0)))) (.post [0,1,2,8,9,10] (.block 1 (jJ [0,1,2,8,9,10,11] y5.r4 (jJ [0,1,2,8,9,10,11,31] y5.r5 (.post [0,1,2,8,9,10] (.cond (.t 31) (jK [0,1,2,8,9,10] y5.r6) (jK [0,1,2,8,9,10] y5.r7)))))))
def y5.r8:jI:=[ab 35 9,ab 36 9,ab 37 8,ax 38 36 37,ab 39 38,am 40 39 2,am 41 39 0,am 42 39 9,a1r 43 39 1 41 42,a15 44 39 1 43,am 45 39 1,a39 46 39 40 44 45,a1q 47 39 46 0,aq 48 39 47,ab 6 35,ab 7 48]
def y5:AFunc:=⟨49,[.t 6,.t 7],jJ [0,1,2] y5.r0 (jJ [0,1,2,8] y5.r1 (jJ [0,1,2,8,9,10] y5.r2 (.seq (.post [0,1,2,8,9] (.block 0 (.loop y5.l0))) (jJ [6,7] y5.r8 (.ret)))))⟩
theorem y5.ok:y1x Tryz.prog Tryz.f206 y5=true:=by kernel_rfl
theorem y5.at:Tryz.prog.funcs[y4w]?=some Tryz.f206:=Tryz.func206
def y33.r0:jI:=[a1v 2 0,ai 4 0,ap 5]
def y33.r1:jI:=[ae 6 1 2,a13 7 6,ah 8 1 7,ae 9 1 8,ab 10 1,⟨some 11,none,.op (.mkfn y6p [.t 2])⟩,⟨some 12,none,.call y4w [.t 9,.t 10,.t 11]⟩,aj 13 0 12,aj 14 1 12,ab 4 13,ab 5 14]
def y33:AFunc:=⟨15,[.t 4,.t 5],jJ [1,2] y33.r0 (jJ [4,5] y33.r1 (.ret))⟩
theorem y33.ok:y1x Tryz.prog Tryz.f182 y33=true:=by kernel_rfl
theorem y33.at:Tryz.prog.funcs[y74]?=some Tryz.f182:=Tryz.func182
def y10.r0:jI:=[ai 4 0,ap 5]
def y10.r1:jI:=[ab 10 0,ab 11 1,⟨some 12,none,.call y74 [.t 10,.t 11]⟩,ab 9 12,aj 13 0 9,aj 14 1 9,ab 6 13,ab 7 14]
def y10.r2:jI:=[ab 15 7]
def y10.r3:jI:=[ab 16 0,a13 17 16,ah 18 1 17,ae 19 1 18,ab 20 6,a10 21 1 19 20,ae 22 1 21,ab 4 22,ap 5]
def y10.r4:jI:=[ab 23 0,a13 24 23,ah 25 0 24,ae 26 1 25,av 27 26,ab 8 27]
def y10.r5:jI:=[ab 28 0,ab 29 0,a13 30 29,ah 31 0 30,ae 32 1 31,ab 33 1,a31 34 1 1 0 1 33,a1w 35 1 16 32 34,a13 36 28,ah 37 0 36,ar 1 37 35]
def y10.r6:jI:=[ab 38 0,ab 39 0,a13 40 39,ah 41 1 40,ae 42 1 41,ab 43 6,ab 44 8,⟨some 45,none,.op (.bsl 1 [.i .i64 0] [(0,1,.t 44)])⟩,⟨some 46,none,.call ydr [.t 42,.t 43,.t 45]⟩,a13 47 38,ah 48 1 47,ar 1 48 46]
def y10.r7:jI:=[ab 49 8,ab 4 49,a1g 5]
def y10:AFunc:=⟨50,[.t 4,.t 5],jJ [0,1] y10.r0 (jJ [0,1,6,7] y10.r1 (.seq (jJ [0,1,6,15] y10.r2 (.post [0,1,6] (.cond (.t 15) (jJ [4,5] y10.r3 (.ret)) (.skip)))) (jJ [0,1,6,8] y10.r4 (jJ [0,6,8] y10.r5 (jJ [8] y10.r6 (jJ [4,5] y10.r7 (.ret)))))))⟩
theorem y10.ok:y1x Tryz.prog Tryz.f140 y10=true:=by kernel_rfl
theorem y10.at:Tryz.prog.funcs[y7p]?=some Tryz.f140:=Tryz.func140
def y18.r0:jI:=[ae 5 1 1,a13 6 5,ah 7 1 6,ae 8 1 7,⟨some 9,none,.call y78 [.t 8]⟩,av 10 9,ai 11 0]
def y18.r1:jI:=[ax 12 11 10]
def y18.r2:jI:=[a10 13 1 9 11,ae 14 1 13,ab 4 14]
def y18.r3:jI:=[ab 15 0,ae 16 1 1,a13 17 16,ah 18 0 17,ae 19 1 18,ab 20 4,a10 21 1 19 20,ae 22 1 21,ab 23 4,⟨some 24,none,.callv (.t 15) [.t 22,.t 23]⟩,a1d 25 24]
def y18.r4:jI:=[ay 26 11 1,ab 11 26]
def y18.l0:ACode:=jJ [0,1,9,10,11,12] y18.r1 (.seq (.post [0,1,9,10,11] (.cond (.t 12) (.skip) (.exit 0))) (.seq (.post [0,1,9,10,11] (.block 1 (jJ [0,1,4,9,10,11] y18.r2 (jJ [0,1,9,10,11,25] y18.r3 (.post [0,1,9,10,11] (.cond (.t 25) (.ret) (.skip))))))) (jK [0,1,9,10,11] y18.r4)))
def y18:AFunc:=⟨27,[],jJ [0,1,9,10,11] y18.r0 (.post [] (.block 0 (.loop y18.l0)))⟩
theorem y18.ok:y1x Tryz.prog Tryz.f184 y18=true:=by kernel_rfl
theorem y18.at:Tryz.prog.funcs[y5l]?=some Tryz.f184:=Tryz.func184
def y32.r0:jI:=[a1v 1 0,⟨some 2,none,.op (.mov (.c (.nf)))⟩]
def y32.r1:jI:=[⟨some 3,none,.op (.mkfn y5l [.t 1])⟩,ab 2 3]
def y32:AFunc:=⟨4,[.t 2],jJ [1] y32.r0 (jJ [2] y32.r1 (.ret))⟩
theorem y32.ok:y1x Tryz.prog Tryz.f141 y32=true:=by kernel_rfl
theorem y32.at:Tryz.prog.funcs[y6u]?=some Tryz.f141:=Tryz.func141
def yi.r0:jI:=[a1p 2 0 0]
def yi.r1:jI:=[⟨some 8,none,.op (.build [.sl none 0 0,.sl none 0 0] [])⟩,a1v 9 8,ab 3 9]
def yi.r2:jI:=[ab 10 0,av 11 10,ai 12 0]
def yi.r3:jI:=[ax 13 12 11]
def yi.r4:jI:=[a10 14 1 10 12,ae 15 1 14,ab 5 15]
def yi.r5:jI:=[ab 16 3,ab 17 5,⟨some 18,none,.call y7p [.t 16,.t 17]⟩]
def yi.r6:jI:=[ay 19 12 1,ab 12 19]
def yi.l0:ACode:=jJ [2,3,10,11,12,13] yi.r3 (.seq (.post [2,3,10,11,12] (.cond (.t 13) (.skip) (.exit 0))) (.seq (.post [2,3,10,11,12] (.block 1 (jJ [2,3,5,10,11,12] yi.r4 (jK [2,3,10,11,12] yi.r5)))) (jK [2,3,10,11,12] yi.r6)))
def yi.r7:jI:=[⟨some 6,none,.op (.new [.sl none 0 0])⟩]
def yi.r8:jI:=[ab 20 3,⟨some 21,none,.call y6u [.t 20]⟩]
def yi.r9:jI:=[ab 7 22]
def yi.r10:jI:=[ae 24 1 6,ab 25 7,a31 26 1 1 0 1 25,a1w 27 1 16 24 26,ar 1 6 27]
def yi.a1:ACode:=jK [6,7] yi.r9
def yi.b1:ACode:=.post [] (.block 3 (jK [] yi.r10))
def yi.r11:jI:=[ae 28 1 6,ab 2 28]
def yi:AFunc:=⟨29,[.t 2],jJ [0,2] yi.r0 (jJ [0,2,3] yi.r1 (.seq (jJ [2,3,10,11,12] yi.r2 (.post [2,3] (.block 0 (.loop yi.l0)))) (jJ [2,3,6] yi.r7 (.seq (jJ [2,6,21] yi.r8 (.post [6] (.block 2 (.post [6] (.rangeFunc (.t 21) [22,23] yi.a1 yi.b1))))) (jJ [2] yi.r11 (.ret))))))⟩
theorem yi.ok:y1x Tryz.prog Tryz.f73 yi=true:=by kernel_rfl
theorem yi.at:Tryz.prog.funcs[y7b]?=some Tryz.f73:=Tryz.func73
def y3i.r0:jI:=[a1a 1 0,a1p 2 0 0]
def y3i.r1:jI:=[⟨some 3,none,.op (.new [.sl none 0 0])⟩]
def y3i.r2:jI:=[⟨some 5,none,.op (.mkfn y60 [.t 3])⟩,⟨some 6,none,.op (.build [.p none,.sl none 0 0,.i .i64 0,.p none,.nf,.i .i64 0] [(4,1,.t 5)])⟩,a3o 7 109 0 6,ab 4 7]
def y3i.r3:jI:=[ab 8 4,a14 9 7 1,⟨some 10,none,.call y6t [.t 8,.t 9]⟩]
def y3i.r4:jI:=[ae 11 1 3,⟨some 12,none,.call y7b [.t 11]⟩,ab 2 12]
def y3i:AFunc:=⟨13,[.t 2],jJ [1] y3i.r0 (jJ [1,3] y3i.r1 (jJ [1,3,4] y3i.r2 (jJ [3] y3i.r3 (jJ [2] y3i.r4 (.ret)))))⟩
theorem y3i.ok:y1x Tryz.prog Tryz.f21 y3i=true:=by kernel_rfl
theorem y3i.at:Tryz.prog.funcs[yb6]?=some Tryz.f21:=Tryz.func21
def y7h.r0:jI:=[a28 2]
def y7h.r1:jI:=[ab 3 0,⟨some 4,none,.call y7b [.t 3]⟩,⟨some 5,none,.op (.build [.sl none 0 0] [(0,1,.t 4)])⟩,a1v 6 5,ab 2 6]
def y7h:AFunc:=⟨7,[.t 2],jJ [0] y7h.r0 (jJ [2] y7h.r1 (.ret))⟩
theorem y7h.ok:y1x Tryz.prog Tryz.f22 y7h=true:=by kernel_rfl
theorem y7h.at:Tryz.prog.funcs[yil]?=some Tryz.f22:=Tryz.func22
def y69:AFunc:=⟨2,[],.skip⟩
theorem y69.ok:y1x Tryz.prog Tryz.f74 y69=true:=by kernel_rfl
theorem y69.at:Tryz.prog.funcs[y6o]?=some Tryz.f74:=Tryz.func74
def y30.r0:jI:=[a17 2,ai 3 0]
def y30.r1:jI:=[ab 4 0,a13 5 4,ah 6 2 5,ae 7 1 6,a1c 8 7 0]
def y30.r2:jI:=[ab 9 0,a13 10 9,ah 11 2 10,ae 12 1 11,a17 2,ab 3 12]
def y30.r3:jI:=[ab 13 0,a13 14 13,ah 15 0 14,⟨some 16,none,.call ydd [.t 15]⟩,ab 2 16,ai 3 0]
def y30:AFunc:=⟨17,[.t 2,.t 3],jJ [0] y30.r0 (.seq (jJ [0,8] y30.r1 (.post [0] (.cond (.t 8) (.seq (.post [2,3] (.draw [0,1,3,7,0,31] y30.r2)) (.ret)) (.skip)))) (jJ [2,3] y30.r3 (.ret)))⟩
theorem y30.ok:y1x Tryz.prog Tryz.f27 y30=true:=by kernel_rfl
theorem y30.at:Tryz.prog.funcs[y7x]?=some Tryz.f27:=Tryz.func27
def y38.r0:jI:=[a1a 3 1,a17 4,ai 5 0]
def y38.r1:jI:=[ab 7 0,⟨some 8,none,.op (.build [.p none,.sl none 0 0,.i .i64 0,.p none,.nf,.i .i64 0] [(3,1,.t 7),(4,1,.c (.fn 74 []))])⟩,a3o 9 109 0 8,ab 6 9]
def y38.r2:jI:=[ab 10 6,a14 11 7 3,⟨some 12,none,.call y6t [.t 10,.t 11]⟩]
def y38.r3:jI:=[ab 13 6,a13 14 13,ah 15 5 14,ae 16 1 15,a1c 17 16 0]
def y38.r4:jI:=[ab 18 6,a13 19 18,ah 20 5 19,ae 21 1 20,a17 4,ab 5 21]
def y38.r5:jI:=[ab 22 6,a13 23 22,ah 24 0 23,⟨some 25,none,.call y7x [.t 24]⟩,aj 26 0 25,aj 27 1 25,ab 4 26,ab 5 27]
def y38:AFunc:=⟨28,[.t 4,.t 5],jJ [0,3] y38.r0 (jJ [3,6] y38.r1 (jJ [6] y38.r2 (.seq (jJ [6,17] y38.r3 (.post [6] (.cond (.t 17) (.seq (.post [4,5] (.draw [0,1,3,7,0,31] y38.r4)) (.ret)) (.skip)))) (jJ [4,5] y38.r5 (.ret)))))⟩
theorem y38.ok:y1x Tryz.prog Tryz.f23 y38=true:=by kernel_rfl
theorem y38.at:Tryz.prog.funcs[ycv]?=some Tryz.f23:=Tryz.func23
def y39.r0:jI:=[ai 4 0]
def y39.r1:jI:=[ai 5 0]
def y39.r2:jI:=[ab 6 5,ab 7 0,a1b 8 7,ab 9 1,a1b 10 9,⟨some 11,none,.op (.mn [.t 8,.t 10])⟩,ax 12 6 11,ab 13 12,am 14 13 0,am 15 13 5,a2p 16 13 14 15,am 17 13 1,am 18 13 5,a2p 19 13 17 18,a2n 20 13 16 19,aq 21 13 20]
def y39.r3:jI:=[ab 22 5,ay 23 22 1,ab 5 23]
def y39.l0:ACode:=.seq (.seq (.post [0,1,5,21] (.draw [0,0,2,0,8,30,63,127,255,255,1023,255,255,6399,16383,32767] y39.r2)) (.post [0,1,5] (.cond (.t 21) (.skip) (.exit 0)))) (.post [0,1,5] (.block 1 (jK [0,1,5] y39.r3)))
def y39.r4:jI:=[ab 24 5,ab 4 24]
def y39:AFunc:=⟨25,[.t 4],jJ [0,1] y39.r0 (jJ [0,1,5] y39.r1 (.seq (.post [5] (.block 0 (.loop y39.l0))) (jJ [4] y39.r4 (.ret))))⟩
theorem y39.ok:y1x Tryz.prog Tryz.f78 y39=true:=by kernel_rfl
theorem y39.at:Tryz.prog.funcs[ybr]?=some Tryz.f78:=Tryz.func78
def y21.r0:jI:=[ai 4 0,a3i 5]
def y21.r1:jI:=[ab 6 0,⟨some 7,none,.call y72 [.t 6]⟩]
def y21.r2:jI:=[ab 8 0,ab 9 0,a13 10 9,ah 11 1 10,ae 12 1 11,ab 13 1,⟨some 14,none,.op (.appT 5 1 1 (.t 12) (.t 13))⟩,a13 15 8,ah 16 1 15,ar 1 16 14]
def y21.r3:jI:=[ab 17 1,a1b 18 17,ab 4 18,a3i 5]
def y21:AFunc:=⟨19,[.t 4,.t 5],jJ [0,1] y21.r0 (jJ [0,1] y21.r1 (jJ [1] y21.r2 (jJ [4,5] y21.r3 (.ret))))⟩
theorem y21.ok:y1x Tryz.prog Tryz.f79 y21=true:=by kernel_rfl
theorem y21.at:Tryz.prog.funcs[y6n]?=some Tryz.f79:=Tryz.func79
def y29.r0:jI:=[ab 4 0,a13 5 4,ah 6 2 5,ae 7 1 6,a18 8 7 0,ab 9 8,am 10 9 1,a1u 11 9 10,a3a 12 9 11 200000,aq 13 9 12]
def y29.r1:jI:=[ab 14 0,a13 15 14,ah 16 2 15,a2x 1 16 9]
def y29.r2:jI:=[ab 17 0,a13 18 17,ah 19 2 18,ae 20 1 19,a18 21 20 0]
def y29.r3:jI:=[ab 22 0,ab 23 1,a1b 24 23,⟨some 25,none,.call y5b [.t 22,.t 24]⟩]
def y29.r4:jI:=[ab 26 0,a13 27 26,ah 28 0 27,ab 29 1,⟨some 30,none,.call y6n [.t 28,.t 29]⟩]
def y29:AFunc:=⟨31,[],.seq (jJ [0,1,13] y29.r0 (.post [0,1] (.cond (.t 13) (jK [0,1] y29.r1) (.skip)))) (jJ [0,1,21] y29.r2 (.post [] (.cond (.t 21) (jJ [0,1] y29.r3 (jK [] y29.r4)) (.skip))))⟩
theorem y29.ok:y1x Tryz.prog Tryz.f26 y29=true:=by kernel_rfl
theorem y29.at:Tryz.prog.funcs[y7w]?=some Tryz.f26:=Tryz.func26
def y1h.r0:jI:=[ab 9 0,⟨some 10,none,.call y7k [.t 9]⟩,ab 4 10]
def y1h.r1:jI:=[ab 11 1,ab 12 4,av 13 12,⟨some 14,none,.call y5b [.t 11,.t 13]⟩]
def y1h.r2:jI:=[a17 5]
def y1h.r3:jI:=[ab 15 4,av 16 15,ai 17 0]
def y1h.r4:jI:=[ax 18 17 16]
def y1h.r5:jI:=[a10 19 1 15 17,ae 20 1 19,ab 7 20]
def y1h.r6:jI:=[ab 21 5,ab 22 7,⟨some 23,none,.call ybr [.t 21,.t 22]⟩,ab 8 23]
def y1h.r7:jI:=[ab 24 1,ab 25 8,⟨some 26,none,.call y5b [.t 24,.t 25]⟩]
def y1h.r8:jI:=[ab 27 1,ab 28 7,ab 29 8,a2d 30 28 29,⟨some 31,none,.call y7w [.t 27,.t 30]⟩]
def y1h.r9:jI:=[ab 32 7,ab 5 32]
def y1h.r10:jI:=[ay 33 17 1,ab 17 33]
def y1h.l0:ACode:=jJ [1,5,15,16,17,18] y1h.r4 (.seq (.post [1,5,15,16,17] (.cond (.t 18) (.skip) (.exit 0))) (.seq (.post [1,5,15,16,17] (.block 1 (jJ [1,5,7,15,16,17] y1h.r5 (jJ [1,7,8,15,16,17] y1h.r6 (jJ [1,7,8,15,16,17] y1h.r7 (jJ [1,7,15,16,17] y1h.r8 (jK [1,5,15,16,17] y1h.r9))))))) (jK [1,5,15,16,17] y1h.r10)))
def y1h:AFunc:=⟨34,[],jJ [1,4] y1h.r0 (jJ [1,4] y1h.r1 (jJ [1,4,5] y1h.r2 (jJ [1,5,15,16,17] y1h.r3 (.post [] (.block 0 (.loop y1h.l0))))))⟩
theorem y1h.ok:y1x Tryz.prog Tryz.f25 y1h=true:=by kernel_rfl
theorem y1h.at:Tryz.prog.funcs[yb1]?=some Tryz.f25:=Tryz.func25
def y54.r0:jI:=[⟨some 2,none,.op (.mov (.c (.i .u32 0)))⟩]
def y54.r1:jI:=[ab 3 0,a13 4 3,ah 5 0 4,ae 6 1 5,a3p 7 6 11994318,ab 2 7]
def y54:AFunc:=⟨8,[.t 2],jJ [0] y54.r0 (jJ [2] y54.r1 (.ret))⟩
theorem y54.ok:y1x Tryz.prog Tryz.f145 y54=true:=by kernel_rfl
theorem y54.at:Tryz.prog.funcs[yaj]?=some Tryz.f145:=Tryz.func145
def y1a.r0:jI:=[ab 6 0,⟨some 7,none,.call yaj [.t 6]⟩,ab 4 7]
def y1a.r1:jI:=[ab 8 1,a1b 9 8,ai 10 0]
def y1a.r2:jI:=[ax 11 10 9]
def y1a.r3:jI:=[ab 12 10,ab 5 12]
def y1a.r4:jI:=[ab 13 4,ab 14 1,ab 15 5,a1x 16 14 15,⟨some 17,none,.op (.conv .u32 (.t 16))⟩,⟨some 18,none,.op (.bin .shl (.t 17) (.c (.i .u64 16)))⟩,⟨some 19,none,.op (.bin .xor (.t 13) (.t 18))⟩,ab 4 19]
def y1a.r5:jI:=[ai 20 0]
def y1a.r6:jI:=[a27 21 20 8]
def y1a.r7:jI:=[ab 22 4,⟨some 23,none,.op (.bin .shl (.t 22) (.c (.i .u64 1)))⟩,ab 4 23]
def y1a.r8:jI:=[ab 24 4,⟨some 25,none,.op (.bin .and (.t 24) (.c (.i .u32 16777216)))⟩,⟨some 26,none,.op (.bin .neq (.t 25) (.c (.i .u32 0)))⟩]
def y1a.r9:jI:=[ab 27 4,a3p 28 27 25578747,ab 4 28]
def y1a.r10:jI:=[ay 29 20 1,ab 20 29]
def y1a.l1:ACode:=jJ [0,1,4,9,10,20,21] y1a.r6 (.seq (.post [0,1,4,9,10,20] (.cond (.t 21) (.skip) (.exit 2))) (.seq (.post [0,1,4,9,10,20] (.block 3 (jJ [0,1,4,9,10,20] y1a.r7 (jJ [0,1,4,9,10,20,26] y1a.r8 (.post [0,1,4,9,10,20] (.cond (.t 26) (jK [0,1,4,9,10,20] y1a.r9) (.skip))))))) (jK [0,1,4,9,10,20] y1a.r10)))
def y1a.r11:jI:=[ay 30 10 1,ab 10 30]
def y1a.l0:ACode:=jJ [0,1,4,9,10,11] y1a.r2 (.seq (.post [0,1,4,9,10] (.cond (.t 11) (.skip) (.exit 0))) (.seq (.post [0,1,4,9,10] (.block 1 (jJ [0,1,4,5,9,10] y1a.r3 (jJ [0,1,4,9,10] y1a.r4 (jJ [0,1,4,9,10,20] y1a.r5 (.post [0,1,4,9,10] (.block 2 (.loop y1a.l1)))))))) (jK [0,1,4,9,10] y1a.r11)))
def y1a.r12:jI:=[ab 31 0,ab 32 4,a3p 33 32 11994318,a13 34 31,ah 35 0 34,ar 1 35 33]
def y1a:AFunc:=⟨36,[],jJ [0,1,4] y1a.r0 (.seq (jJ [0,1,4,9,10] y1a.r1 (.post [0,4] (.block 0 (.loop y1a.l0)))) (jK [] y1a.r12))⟩
theorem y1a.ok:y1x Tryz.prog Tryz.f144 y1a=true:=by kernel_rfl
theorem y1a.at:Tryz.prog.funcs[yc9]?=some Tryz.f144:=Tryz.func144
def y68.r0:jI:=[⟨some 2,none,.op (.mov (.c (.i .u32 0)))⟩]
def y68.r1:jI:=[⟨some 3,none,.op (.new [.i .u32 0])⟩]
def y68.r2:jI:=[ab 4 0,⟨some 5,none,.call yc9 [.t 3,.t 4]⟩]
def y68.r3:jI:=[⟨some 6,none,.call yaj [.t 3]⟩,ab 2 6]
def y68:AFunc:=⟨7,[.t 2],jJ [0] y68.r0 (jJ [0,3] y68.r1 (jJ [3] y68.r2 (jJ [2] y68.r3 (.ret))))⟩
theorem y68.ok:y1x Tryz.prog Tryz.f81 y68=true:=by kernel_rfl
theorem y68.at:Tryz.prog.funcs[yks]?=some Tryz.f81:=Tryz.func81
def y5s.r0:jI:=[a17 2]
def y5s.r1:jI:=[ab 4 0,⟨some 5,none,.call yks [.t 4]⟩,ab 3 5]
def y5s.r2:jI:=[ab 6 0,ab 7 3,a32 8 7 16,a2o 9 8,ab 10 3,a32 11 10 8,a2o 12 11,ab 13 3,a2o 14 13,⟨some 15,none,.op (.bsl 3 [.i .u8 0] [(0,1,.t 9),(1,1,.t 12),(2,1,.t 14)])⟩,a3q 16 15,a1f 17 6 16,ab 2 17]
def y5s:AFunc:=⟨18,[.t 2],jJ [0] y5s.r0 (jJ [0,3] y5s.r1 (jJ [2] y5s.r2 (.ret)))⟩
theorem y5s.ok:y1x Tryz.prog Tryz.f28 y5s=true:=by kernel_rfl
theorem y5s.at:Tryz.prog.funcs[yf0]?=some Tryz.f28:=Tryz.func28
def yb.r0:jI:=[a1a 1 0,a17 2,ai 3 0]
def yb.r1:jI:=[a14 14 7 1,⟨some 15,none,.call yae [.t 14]⟩,ab 4 15]
def yb.r2:jI:=[ab 16 4,a1c 17 16 0]
def yb.r3:jI:=[ab 18 4,a17 2,ab 3 18]
def yb.r4:jI:=[a14 19 7 1,⟨some 20,none,.call yb6 [.t 19]⟩,ab 5 20]
def yb.r5:jI:=[ab 21 5,av 22 21,a1e 23 22 6000]
def yb.r6:jI:=[a17 2,ai 3 4]
def yb.r7:jI:=[ab 24 5,av 25 24,ai 26 0]
def yb.r8:jI:=[ax 27 26 25]
def yb.r9:jI:=[a10 28 1 24 26,ae 29 1 28,ab 7 29]
def yb.r10:jI:=[ab 30 7,a1b 31 30,a1e 32 31 1000]
def yb.r11:jI:=[a17 2,ai 3 9]
def yb.r12:jI:=[ay 33 26 1,ab 26 33]
def yb.l0:ACode:=jJ [1,5,24,25,26,27] yb.r8 (.seq (.post [1,5,24,25,26] (.cond (.t 27) (.skip) (.exit 0))) (.seq (.post [1,5,24,25,26] (.block 1 (jJ [1,5,7,24,25,26] yb.r9 (jJ [1,5,24,25,26,32] yb.r10 (.post [1,5,24,25,26] (.cond (.t 32) (jJ [2,3] yb.r11 (.ret)) (.skip))))))) (jK [1,5,24,25,26] yb.r12)))
def yb.r13:jI:=[ab 34 5,⟨some 35,none,.call yil [.t 34]⟩,ab 8 35]
def yb.r14:jI:=[ab 37 8,a14 38 7 1,⟨some 39,none,.call ycv [.t 37,.t 38]⟩,ab 36 39,aj 40 0 36,aj 41 1 36,ab 9 40,ab 10 41]
def yb.r15:jI:=[ab 42 10,a1c 43 42 0]
def yb.r16:jI:=[ab 44 10,a17 2,ab 3 44]
def yb.r17:jI:=[⟨some 45,none,.op (.build [.p none,.sl none 0 0,.i .i64 0] [])⟩,a3o 46 58 0 45,ab 11 46]
def yb.r18:jI:=[ab 47 11,⟨some 48,none,.call y5b [.t 47,.c (.i .i64 1)]⟩]
def yb.r19:jI:=[ab 49 8,ab 50 11,⟨some 51,none,.call yb1 [.t 49,.t 50]⟩]
def yb.r20:jI:=[ab 52 11,ab 53 9,⟨some 54,none,.call y7w [.t 52,.t 53]⟩]
def yb.r21:jI:=[ab 56 11,⟨some 57,none,.call y7x [.t 56]⟩,ab 55 57,aj 58 0 55,aj 59 1 55,ab 12 58,ab 10 59]
def yb.r22:jI:=[ab 60 10,a1c 61 60 0]
def yb.r23:jI:=[ab 62 10,a17 2,ab 3 62]
def yb.r24:jI:=[ab 63 12,⟨some 64,none,.op (.bin .add (.c (.s [119,101,102,116])) (.t 63))⟩,⟨some 65,none,.call yf0 [.t 64]⟩,ab 13 65]
def yb.r25:jI:=[ab 66 13,a1b 67 66,a1e 68 67 200000]
def yb.r26:jI:=[a17 2,ai 3 9]
def yb.r27:jI:=[ab 69 13,ab 2 69,ai 3 0]
def yb:AFunc:=⟨70,[.t 2,.t 3],jJ [1] yb.r0 (.seq (jJ [1,4] yb.r1 (jJ [1,4,17] yb.r2 (.post [1] (.cond (.t 17) (jJ [2,3] yb.r3 (.ret)) (.skip))))) (jJ [1,5] yb.r4 (.seq (jJ [1,5,23] yb.r5 (.post [1,5] (.cond (.t 23) (jJ [2,3] yb.r6 (.ret)) (.skip)))) (.seq (jJ [1,5,24,25,26] yb.r7 (.post [1,5] (.block 0 (.loop yb.l0)))) (jJ [1,8] yb.r13 (jJ [8,9,10] yb.r14 (.seq (jJ [8,9,10,43] yb.r15 (.post [8,9] (.cond (.t 43) (jJ [2,3] yb.r16 (.ret)) (.skip)))) (jJ [8,9,11] yb.r17 (jJ [8,9,11] yb.r18 (jJ [9,11] yb.r19 (jJ [11] yb.r20 (jJ [10,12] yb.r21 (.seq (jJ [10,12,61] yb.r22 (.post [12] (.cond (.t 61) (jJ [2,3] yb.r23 (.ret)) (.skip)))) (jJ [13] yb.r24 (.seq (jJ [13,68] yb.r25 (.post [13] (.cond (.t 68) (jJ [2,3] yb.r26 (.ret)) (.skip)))) (jJ [2,3] yb.r27 (.ret)))))))))))))))))⟩
theorem yb.ok:y1x Tryz.prog Tryz.f8 yb=true:=by kernel_rfl
theorem yb.at:Tryz.prog.funcs[y7j]?=some Tryz.f8:=Tryz.func8
def y4c.r0:jI:=[ap 2]
def y4c.r1:jI:=[ab 3 0,a2t 4 3 65,ab 5 4,am 6 5 0,a2k 7 5 6 90,aq 8 5 7,ab 9 8,a19 10 9 0,⟨some 11,(some (9,false)),.op (.bin .geq (.t 10) (.c (.i .u8 97)))⟩,a19 12 9 11,am 13 12 0,a2k 14 12 13 122,a1j 15 9 12 14,az 16 9 15,ab 17 16,a19 18 17 0,⟨some 19,(some (17,false)),.op (.bin .eql (.t 18) (.c (.i .u8 95)))⟩,az 20 17 19,ab 2 20]
def y4c:AFunc:=⟨21,[.t 2],jJ [0] y4c.r0 (jJ [2] y4c.r1 (.ret))⟩
theorem y4c.ok:y1x Tryz.prog Tryz.f99 y4c=true:=by kernel_rfl
theorem y4c.at:Tryz.prog.funcs[y6i]?=some Tryz.f99:=Tryz.func99
def y4l.r0:jI:=[ap 2]
def y4l.r1:jI:=[ab 3 0,a2t 4 3 48,ab 5 4,am 6 5 0,a2k 7 5 6 57,aq 8 5 7,ab 2 8]
def y4l:AFunc:=⟨9,[.t 2],jJ [0] y4l.r0 (jJ [2] y4l.r1 (.ret))⟩
theorem y4l.ok:y1x Tryz.prog Tryz.f100 y4l=true:=by kernel_rfl
theorem y4l.at:Tryz.prog.funcs[y87]?=some Tryz.f100:=Tryz.func100
def y1u.r0:jI:=[ap 2]
def y1u.r1:jI:=[ab 4 0,a2a 5 4,ab 6 5,a19 7 6 0,a1t 8 6 7,a1i 9 6 8 16,az 10 6 9,ab 11 10,a19 12 11 0,⟨some 13,(some (11,false)),.op (.idx (.t 12) (.c (.i .i64 0)))⟩,⟨some 14,(some (11,false)),.call y6i [.t 13]⟩,a1z 15 11 14,az 16 11 15]
def y1u.r2:jI:=[ap 2]
def y1u.r3:jI:=[ai 3 0]
def y1u.r4:jI:=[ab 17 3,ab 18 0,a1b 19 18,ax 20 17 19]
def y1u.r5:jI:=[ab 23 0,ab 24 3,a1x 25 23 24,⟨some 26,none,.call y6i [.t 25]⟩,a1d 27 26,ab 28 27,am 29 28 0,am 30 28 3,a2p 31 28 29 30,⟨some 32,(some (28,true)),.call y87 [.t 31]⟩,a1y 33 28 32,aq 34 28 33]
def y1u.r6:jI:=[ap 2]
def y1u.r7:jI:=[ab 21 3,ay 22 21 1,ab 3 22]
def y1u.l0:ACode:=.seq (jJ [0,3,20] y1u.r4 (.post [0,3] (.cond (.t 20) (.skip) (.exit 0)))) (.seq (.post [0,3] (.block 1 (jJ [0,3,34] y1u.r5 (.post [0,3] (.cond (.t 34) (jJ [2] y1u.r6 (.ret)) (.skip)))))) (jK [0,3] y1u.r7))
def y1u.r8:jI:=[a1g 2]
def y1u:AFunc:=⟨35,[.t 2],jJ [0] y1u.r0 (.seq (jJ [0,16] y1u.r1 (.post [0] (.cond (.t 16) (jJ [2] y1u.r2 (.ret)) (.skip)))) (.seq (jJ [0,3] y1u.r3 (.post [] (.block 0 (.loop y1u.l0)))) (jJ [2] y1u.r8 (.ret))))⟩
theorem y1u.ok:y1x Tryz.prog Tryz.f40 y1u=true:=by kernel_rfl
theorem y1u.at:Tryz.prog.funcs[y8p]?=some Tryz.f40:=Tryz.func40
def y28.r0:jI:=[a17 2,a17 3]
def y28.r1:jI:=[ab 6 0,a1b 7 6,a1e 8 7 0,ab 9 8,am 10 9 0,a2v 11 9 10 0,⟨some 12,(some (9,true)),.call y6i [.t 11]⟩,aq 13 9 12,ab 4 13]
def y28.r2:jI:=[ai 5 0]
def y28.r3:jI:=[ab 14 5,ab 15 0,a1b 16 15,ax 17 14 16,ab 18 17,am 19 18 0,am 20 18 5,a2p 21 18 19 20,⟨some 22,(some (18,true)),.call y87 [.t 21]⟩,am 23 18 22,a19 24 23 4,a19 25 23 24,am 26 25 0,am 27 25 5,a2p 28 25 26 27,⟨some 29,(some (25,true)),.call y6i [.t 28]⟩,a1j 30 23 25 29,a1n 31 18 23 30,aq 32 18 31]
def y28.r4:jI:=[ab 33 5,ay 34 33 1,ab 5 34]
def y28.l0:ACode:=.seq (jJ [0,4,5,32] y28.r3 (.post [0,4,5] (.cond (.t 32) (.skip) (.exit 0)))) (.post [0,4,5] (.block 1 (jK [0,4,5] y28.r4)))
def y28.r5:jI:=[ab 35 0,ab 36 5,a24 37 35 36,ab 38 0,ab 39 5,a2d 40 38 39,ab 2 37,ab 3 40]
def y28:AFunc:=⟨41,[.t 2,.t 3],jJ [0] y28.r0 (jJ [0,4] y28.r1 (jJ [0,4,5] y28.r2 (.seq (.post [0,5] (.block 0 (.loop y28.l0))) (.seq (.post [2,3] (.draw [0,0,3,0,0,24,7,127] y28.r5)) (.ret)))))⟩
theorem y28.ok:y1x Tryz.prog Tryz.f189 y28=true:=by kernel_rfl
theorem y28.at:Tryz.prog.funcs[y88]?=some Tryz.f189:=Tryz.func189
def yo.r0:jI:=[ai 2 0,ai 3 0]
def yo.r1:jI:=[ab 7 0,a2a 8 7]
def yo.r2:jI:=[ai 2 0,ai 3 1]
def yo.r3:jI:=[ai 4 0]
def yo.r4:jI:=[ab 9 4,ab 10 0,a1b 11 10,ax 12 9 11]
def yo.r5:jI:=[ab 15 0,ab 16 4,a1x 17 15 16,⟨some 18,none,.call y87 [.t 17]⟩,a1d 19 18]
def yo.r6:jI:=[ai 2 0,ai 3 3]
def yo.r7:jI:=[ab 13 4,ay 14 13 1,ab 4 14]
def yo.l0:ACode:=.seq (jJ [0,4,12] yo.r4 (.post [0,4] (.cond (.t 12) (.skip) (.exit 0)))) (.seq (.post [0,4] (.block 1 (jJ [0,4,19] yo.r5 (.post [0,4] (.cond (.t 19) (jJ [2,3] yo.r6 (.ret)) (.skip)))))) (jK [0,4] yo.r7))
def yo.r8:jI:=[ab 20 0,a2u 21 20 0,a29 22 21 48,ab 23 22,am 24 23 0,a1u 25 23 24,a3a 26 23 25 1,aq 27 23 26]
def yo.r9:jI:=[ai 2 0,ai 3 3]
def yo.r10:jI:=[ai 5 0]
def yo.r11:jI:=[ai 6 0]
def yo.r12:jI:=[ab 28 6,ab 29 0,a1b 30 29,ax 31 28 30]
def yo.r13:jI:=[ab 34 5,a35 35 10 34,ab 36 0,ab 37 6,a1x 38 36 37,⟨some 39,none,.op (.bin .sub (.t 38) (.c (.i .u8 48)))⟩,a3h 40 39,a1f 41 35 40,ab 5 41]
def yo.r14:jI:=[ab 42 5,a1e 43 42 268435456]
def yo.r15:jI:=[ai 2 0,ai 3 2]
def yo.r16:jI:=[ab 32 6,ay 33 32 1,ab 6 33]
def yo.l1:ACode:=.seq (jJ [0,5,6,31] yo.r12 (.post [0,5,6] (.cond (.t 31) (.skip) (.exit 2)))) (.seq (.post [0,5,6] (.block 3 (jJ [0,5,6] yo.r13 (jJ [0,5,6,43] yo.r14 (.post [0,5,6] (.cond (.t 43) (jJ [2,3] yo.r15 (.ret)) (.skip))))))) (jK [0,5,6] yo.r16))
def yo.r17:jI:=[ab 44 5,ab 2 44,ai 3 0]
def yo:AFunc:=⟨45,[.t 2,.t 3],jJ [0] yo.r0 (.seq (jJ [0,8] yo.r1 (.post [0] (.cond (.t 8) (jJ [2,3] yo.r2 (.ret)) (.skip)))) (.seq (jJ [0,4] yo.r3 (.post [0] (.block 0 (.loop yo.l0)))) (.seq (jJ [0,27] yo.r8 (.post [0] (.cond (.t 27) (jJ [2,3] yo.r9 (.ret)) (.skip)))) (jJ [0,5] yo.r10 (.seq (jJ [0,5,6] yo.r11 (.post [5] (.block 2 (.loop yo.l1)))) (jJ [2,3] yo.r17 (.ret)))))))⟩
theorem yo.ok:y1x Tryz.prog Tryz.f162 yo=true:=by kernel_rfl
theorem yo.at:Tryz.prog.funcs[y8o]?=some Tryz.f162:=Tryz.func162
def yr.r0:jI:=[a17 2,ai 3 0,a17 4,a17 5,ai 6 0]
def yr.r1:jI:=[ab 16 0,⟨some 17,none,.call y88 [.t 16]⟩,ab 15 17,aj 18 0 15,aj 19 1 15,ab 7 18,ab 8 19]
def yr.r2:jI:=[ai 9 0,ai 10 (-1)]
def yr.r3:jI:=[ab 20 8,a25 21 20,ab 22 21,am 23 22 8,a2v 24 22 23 0,⟨some 25,(some (22,true)),.op (.bin .eql (.t 24) (.c (.i .u8 126)))⟩,aq 26 22 25]
def yr.r4:jI:=[ab 28 8,a2y 29 28 1,⟨some 30,none,.call y88 [.t 29]⟩,ab 27 30,aj 31 0 27,aj 32 1 27,ab 11 31,ab 12 32]
def yr.r5:jI:=[ab 34 11,⟨some 35,none,.call y8o [.t 34]⟩,ab 33 35,aj 36 0 33,aj 37 1 33,ab 9 36]
def yr.r6:jI:=[ab 38 12,ab 8 38]
def yr.r7:jI:=[a17 13,a17 14]
def yr.r8:jI:=[ab 39 8,a25 40 39,ab 41 40,am 42 41 8,a2v 43 41 42 0,⟨some 44,(some (41,true)),.op (.bin .neq (.t 43) (.c (.i .u8 43)))⟩,aq 45 41 44]
def yr.r9:jI:=[ab 46 8,⟨some 47,none,.op (.sls (.t 46) none (some (.c (.i .i64 1))))⟩,ab 13 47]
def yr.r10:jI:=[ab 49 8,a2y 50 49 1,⟨some 51,none,.call y88 [.t 50]⟩,ab 48 51,aj 52 0 48,aj 53 1 48,ab 14 52,ab 8 53]
def yr.r11:jI:=[ab 54 13,a3b 55 54 40,ab 56 55,am 57 56 8,⟨some 58,(some (56,true)),.op (.bin .eql (.t 57) (.c (.s [41])))⟩,aq 59 56 58]
def yr.r12:jI:=[a17 8]
def yr.r13:jI:=[ab 60 8,a25 61 60,ab 62 61,am 63 62 8,a2v 64 62 63 0,⟨some 65,(some (62,true)),.op (.bin .eql (.t 64) (.c (.i .u8 43)))⟩,aq 66 62 65]
def yr.r14:jI:=[ab 68 8,a2y 69 68 1,⟨some 70,none,.call y8o [.t 69]⟩,ab 67 70,aj 71 0 67,aj 72 1 67,ab 10 71]
def yr.r15:jI:=[ab 73 7,ab 74 9,ab 75 13,ab 76 14,ab 77 10,ab 2 73,ab 3 74,ab 4 75,ab 5 76,ab 6 77]
def yr:AFunc:=⟨78,[.t 2,.t 3,.t 4,.t 5,.t 6],jJ [0] yr.r0 (jJ [7,8] yr.r1 (jJ [7,8,9,10] yr.r2 (.seq (jJ [7,8,9,10,26] yr.r3 (.post [7,8,9,10] (.cond (.t 26) (jJ [7,10,11,12] yr.r4 (jJ [7,9,10,12] yr.r5 (jK [7,8,9,10] yr.r6))) (.skip)))) (jJ [7,8,9,10,13,14] yr.r7 (.seq (jJ [7,8,9,10,13,14,45] yr.r8 (.post [7,8,9,10,13,14] (.cond (.t 45) (jJ [7,8,9,10,13] yr.r9 (jJ [7,8,9,10,13,14] yr.r10 (jJ [7,8,9,10,13,14,59] yr.r11 (.post [7,8,9,10,13,14] (.cond (.t 59) (jK [7,8,9,10,13,14] yr.r12) (.skip)))))) (.skip)))) (.seq (jJ [7,8,9,10,13,14,66] yr.r13 (.post [7,9,10,13,14] (.cond (.t 66) (jK [7,9,10,13,14] yr.r14) (.skip)))) (jJ [2,3,4,5,6] yr.r15 (.ret))))))))⟩
theorem yr.ok:y1x Tryz.prog Tryz.f161 yr=true:=by kernel_rfl
theorem yr.at:Tryz.prog.funcs[yaw]?=some Tryz.f161:=Tryz.func161
def y4k.r0:jI:=[ap 2]
def y4k.r1:jI:=[ab 3 0,a1k 4 3 0,ab 5 4,am 6 5 0,a26 7 5 6 268435456,aq 8 5 7,ab 2 8]
def y4k:AFunc:=⟨9,[.t 2],jJ [0] y4k.r0 (jJ [2] y4k.r1 (.ret))⟩
theorem y4k.ok:y1x Tryz.prog Tryz.f210 y4k=true:=by kernel_rfl
theorem y4k.at:Tryz.prog.funcs[y86]?=some Tryz.f210:=Tryz.func210
def yy.r0:jI:=[a1a 1 0,ap 2]
def yy.r1:jI:=[ah 5 0 1,ae 6 1 5,a27 7 6 1,ab 8 7,a12 9 8 0 1,a11 10 8 1 9,a1i 11 8 10 7,az 12 8 11,ab 13 12,a12 14 13 2 1,a11 15 13 1 14,⟨some 16,(some (13,false)),.call y86 [.t 15]⟩,a1z 17 13 16,az 18 13 17,ab 19 18,a12 20 19 4 1,a11 21 19 1 20,⟨some 22,(some (19,false)),.call y86 [.t 21]⟩,a1z 23 19 22,az 24 19 23,ab 25 24,a12 26 25 5 1,a11 27 25 1 26,a2b 28 25 27 (-1),a19 29 25 28,a16 30 29 5 1,a15 31 29 1 30,⟨some 32,(some (29,true)),.call y86 [.t 31]⟩,a1y 33 29 32,a1j 34 25 29 33,az 35 25 34]
def yy.r2:jI:=[ap 2]
def yy.r3:jI:=[ah 36 0 1,ae 37 1 36,a18 38 37 1,ab 39 38,a12 40 39 0 1,a11 41 39 1 40,a1s 42 39 41 5,az 43 39 42,ab 44 43,a12 45 44 0 1,a11 46 44 1 45,a1s 47 44 46 6,az 48 44 47,ab 3 48]
def yy.r4:jI:=[ah 49 0 1,ae 50 1 49,a18 51 50 2,ab 52 51,a12 53 52 0 1,a11 54 52 1 53,a1s 55 52 54 3,az 56 52 55,ab 57 56,a12 58 57 0 1,a11 59 57 1 58,a1s 60 57 59 7,az 61 57 60,ab 4 61]
def yy.r5:jI:=[ah 63 0 1,ae 64 1 63,a18 65 64 5,ah 66 1 1,ae 67 1 66,a2a 68 67,⟨some 69,none,.op (.eqk .bool true (.t 65) (.t 68))⟩,ab 70 69,a12 71 70 1 1,a11 72 70 1 71,a3n 73 70 72,a19 74 70 73,a16 75 74 1 1,a15 76 74 1 75,⟨some 77,(some (74,true)),.call y8p [.t 76]⟩,a1y 78 74 77,a1j 79 70 74 78,az 80 70 79,ab 81 80,a12 82 81 0 1,a11 83 81 1 82,a1s 84 81 83 5,a19 85 81 84,a16 86 85 2 1,a15 87 85 1 86,a3r 88 85 87 0,a1j 89 81 85 88,az 90 81 89,ab 62 90]
def yy.r6:jI:=[ap 2]
def yy.r7:jI:=[ab 92 3,ah 93 3 1,ae 94 1 93,a25 95 94,⟨some 96,none,.op (.eqk .bool true (.t 92) (.t 95))⟩,ab 97 96,a19 98 97 3,a19 99 97 98,a16 100 99 3 1,a15 101 99 1 100,⟨some 102,(some (99,true)),.call y8p [.t 101]⟩,a1y 103 99 102,a1j 104 97 99 103,az 105 97 104,ab 91 105]
def yy.r8:jI:=[ap 2]
def yy.r9:jI:=[ab 107 4,a1d 108 107,ab 109 108,a16 110 109 4 1,a15 111 109 1 110,a3r 112 109 111 0,aq 113 109 112,ab 114 113,a12 115 114 4 1,a11 116 114 1 115,a1s 117 114 116 0,a19 118 114 117,a16 119 118 0 1,a15 120 118 1 119,a1q 121 118 120 3,am 122 118 121,a12 123 122 0 1,a11 124 122 1 123,a1s 125 122 124 7,a1n 126 118 122 125,a1j 127 114 118 126,az 128 114 127,ab 106 128]
def yy.r10:jI:=[ap 2]
def yy.r11:jI:=[ah 129 0 1,ae 130 1 129,a1k 131 130 5,ab 132 131,a12 133 132 5 1,a11 134 132 1 133,a1s 135 132 134 (-1),az 136 132 135,ab 2 136]
def yy:AFunc:=⟨137,[.t 2],jJ [1] yy.r0 (.seq (jJ [1,35] yy.r1 (.post [1] (.cond (.t 35) (jJ [2] yy.r2 (.ret)) (.skip)))) (jJ [1,3] yy.r3 (jJ [1,3,4] yy.r4 (.seq (.post [1] (.block 0 (jJ [1,3,4,62] yy.r5 (.post [1] (.cond (.t 62) (jJ [2] yy.r6 (.ret)) (jJ [1,4,91] yy.r7 (.post [1] (.cond (.t 91) (jJ [2] yy.r8 (.ret)) (jJ [1,106] yy.r9 (.post [1] (.cond (.t 106) (jJ [2] yy.r10 (.ret)) (.skip)))))))))))) (jJ [2] yy.r11 (.ret))))))⟩
theorem yy.ok:y1x Tryz.prog Tryz.f190 yy=true:=by kernel_rfl
theorem yy.at:Tryz.prog.funcs[yax]?=some Tryz.f190:=Tryz.func190
def y2h.r0:jI:=[a17 2]
def y2h.r1:jI:=[ab 4 0,⟨some 5,none,.op (.bin .rem (.t 4) (.c (.i .u64 10)))⟩,a2o 6 5,⟨some 7,none,.op (.bin .add (.c (.i .u8 48)) (.t 6))⟩,⟨some 8,none,.op (.bsl 1 [.i .u8 0] [(0,1,.t 7)])⟩,a3q 9 8,ab 3 9]
def y2h.r2:jI:=[ab 10 0,⟨some 11,none,.op (.bin .geq (.t 10) (.c (.i .u64 10)))⟩]
def y2h.r3:jI:=[ab 12 0,⟨some 13,none,.op (.bin .quo (.t 12) (.c (.i .u64 10)))⟩,ab 0 13]
def y2h.r4:jI:=[ab 14 0,⟨some 15,none,.op (.bin .rem (.t 14) (.c (.i .u64 10)))⟩,a2o 16 15,⟨some 17,none,.op (.bin .add (.c (.i .u8 48)) (.t 16))⟩,⟨some 18,none,.op (.bsl 1 [.i .u8 0] [(0,1,.t 17)])⟩,a3q 19 18,ab 20 3,a1f 21 19 20,ab 3 21]
def y2h.l0:ACode:=.seq (jJ [0,3,11] y2h.r2 (.post [0,3] (.cond (.t 11) (.skip) (.exit 0)))) (.post [0,3] (.block 1 (jJ [0,3] y2h.r3 (jK [0,3] y2h.r4))))
def y2h.r5:jI:=[ab 22 3,ab 2 22]
def y2h:AFunc:=⟨23,[.t 2],jJ [0] y2h.r0 (jJ [0,3] y2h.r1 (.seq (.post [3] (.block 0 (.loop y2h.l0))) (jJ [2] y2h.r5 (.ret))))⟩
theorem y2h.ok:y1x Tryz.prog Tryz.f211 y2h=true:=by kernel_rfl
theorem y2h.at:Tryz.prog.funcs[y99]?=some Tryz.f211:=Tryz.func211
def y3n.r0:jI:=[a17 2]
def y3n.r1:jI:=[ab 3 0,a1k 4 3 0]
def y3n.r2:jI:=[ab 5 0,a3g 6 5,⟨some 7,none,.call y99 [.t 6]⟩,ab 2 7]
def y3n.r3:jI:=[ab 8 0,a3g 9 8,⟨some 10,none,.op (.un .neg (.t 9))⟩,⟨some 11,none,.call y99 [.t 10]⟩,⟨some 12,none,.op (.bin .add (.c (.s [45])) (.t 11))⟩,ab 2 12]
def y3n:AFunc:=⟨13,[.t 2],jJ [0] y3n.r0 (.seq (jJ [0,4] y3n.r1 (.post [0] (.cond (.t 4) (jJ [2] y3n.r2 (.ret)) (.skip)))) (jJ [2] y3n.r3 (.ret)))⟩
theorem y3n.ok:y1x Tryz.prog Tryz.f191 y3n=true:=by kernel_rfl
theorem y3n.at:Tryz.prog.funcs[y5z]?=some Tryz.f191:=Tryz.func191
def y8.r0:jI:=[a1a 1 0,a17 2,ai 3 0]
def y8.r1:jI:=[a14 5 6 1,⟨some 6,none,.call yax [.t 5]⟩,a1d 7 6]
def y8.r2:jI:=[a17 2,ai 3 11]
def y8.r3:jI:=[ah 8 1 1,ae 9 1 8,ab 4 9]
def y8.r4:jI:=[ah 10 2 1,ae 11 1 10,a1e 12 11 0]
def y8.r5:jI:=[ab 13 4,a2h 14 13 126,ah 15 2 1,ae 16 1 15,⟨some 17,none,.call y5z [.t 16]⟩,a1f 18 14 17,ab 4 18]
def y8.r6:jI:=[ah 19 0 1,ae 20 1 19]
def y8.r7:jI:=[a18 22 20 1,ab 21 22]
def y8.r8:jI:=[ab 23 4,a2h 24 23 46,ah 25 3 1,ae 26 1 25,a1f 27 24 26,ab 4 27]
def y8.r9:jI:=[a18 29 20 2,ab 28 29]
def y8.r10:jI:=[ab 30 4,a2h 31 30 36,ah 32 4 1,ae 33 1 32,⟨some 34,none,.call y5z [.t 33]⟩,a1f 35 31 34,ab 4 35]
def y8.r11:jI:=[a18 37 20 3,ab 36 37]
def y8.r12:jI:=[ab 38 4,a2h 39 38 64,ah 40 4 1,ae 41 1 40,⟨some 42,none,.call y5z [.t 41]⟩,a1f 43 39 42,ab 4 43]
def y8.r13:jI:=[a18 45 20 4,ab 44 45]
def y8.r14:jI:=[ab 46 4,⟨some 47,none,.op (.bin .add (.t 46) (.c (.s [40,41])))⟩,ab 4 47]
def y8.r15:jI:=[a18 49 20 5,ab 48 49]
def y8.r16:jI:=[ah 50 3 1,ae 51 1 50,ab 4 51]
def y8.r17:jI:=[a18 53 20 6,ab 52 53]
def y8.r18:jI:=[ab 54 4,a2h 55 54 37,ah 56 3 1,ae 57 1 56,a1f 58 55 57,ab 4 58]
def y8.r19:jI:=[a18 60 20 7,ab 59 60]
def y8.r20:jI:=[ab 61 4,a2h 62 61 35,ah 63 4 1,ae 64 1 63,⟨some 65,none,.call y5z [.t 64]⟩,a1f 66 62 65,ab 4 66]
def y8.r21:jI:=[ah 67 5 1,ae 68 1 67,a1k 69 68 0]
def y8.r22:jI:=[ab 70 4,a2h 71 70 43,ah 72 5 1,ae 73 1 72,⟨some 74,none,.call y5z [.t 73]⟩,a1f 75 71 74,ab 4 75]
def y8.r23:jI:=[ab 76 4,ab 2 76,ai 3 0]
def y8:AFunc:=⟨77,[.t 2,.t 3],jJ [1] y8.r0 (.seq (jJ [1,7] y8.r1 (.post [1] (.cond (.t 7) (jJ [2,3] y8.r2 (.ret)) (.skip)))) (jJ [1,4] y8.r3 (.seq (jJ [1,4,12] y8.r4 (.post [1,4] (.cond (.t 12) (jK [1,4] y8.r5) (.skip)))) (.seq (jJ [1,4,20] y8.r6 (.post [1,4] (.block 0 (jJ [1,4,20,21] y8.r7 (.post [1,4] (.cond (.t 21) (jK [1,4] y8.r8) (jJ [1,4,20,28] y8.r9 (.post [1,4] (.cond (.t 28) (jK [1,4] y8.r10) (jJ [1,4,20,36] y8.r11 (.post [1,4] (.cond (.t 36) (jK [1,4] y8.r12) (jJ [1,4,20,44] y8.r13 (.post [1,4] (.cond (.t 44) (jK [1,4] y8.r14) (jJ [1,4,20,48] y8.r15 (.post [1,4] (.cond (.t 48) (jK [1,4] y8.r16) (jJ [1,4,20,52] y8.r17 (.post [1,4] (.cond (.t 52) (jK [1,4] y8.r18) (jJ [1,4,59] y8.r19 (.post [1,4] (.cond (.t 59) (jK [1,4] y8.r20) (.skip))))))))))))))))))))))))) (.seq (jJ [1,4,69] y8.r21 (.post [4] (.cond (.t 69) (jK [4] y8.r22) (.skip)))) (jJ [2,3] y8.r23 (.ret)))))))⟩
theorem y8.ok:y1x Tryz.prog Tryz.f163 y8=true:=by kernel_rfl
theorem y8.at:Tryz.prog.funcs[ybk]?=some Tryz.f163:=Tryz.func163
def y1i.r0:jI:=[a1m 2 0 0 0 0,ai 3 0]
def y1i.r1:jI:=[ab 16 0,⟨some 17,none,.call yaw [.t 16]⟩,ab 15 17,aj 18 0 15,aj 19 1 15,aj 20 2 15,aj 21 3 15,aj 22 4 15,ab 4 18,ab 5 19,ab 6 20,ab 7 21,ab 8 22]
def y1i.r2:jI:=[ab 24 7,⟨some 25,none,.call y8o [.t 24]⟩,ab 23 25,aj 26 0 23,aj 27 1 23,ab 9 26,ab 10 27]
def y1i.r3:jI:=[ab 28 4,ab 29 5,ab 30 7,a3s 31 0 0 0 0 0 1 1 1 1 28 2 1 29 3 1 30 5 1 (-1),ab 32 4,ab 33 5,ab 34 9,a3s 35 0 0 0 0 0 1 2 1 1 32 2 1 33 4 1 34 5 1 (-1),ab 36 4,ab 37 5,ab 38 9,a3s 39 0 0 0 0 0 1 3 1 1 36 2 1 37 4 1 38 5 1 (-1),ab 40 4,ab 41 5,⟨some 42,none,.op (.build [.i .i64 0,.s [],.i .i64 0,.s [],.i .i64 0,.i .i64 0] [(0,1,.c (.i .i64 4)),(1,1,.t 40),(2,1,.t 41),(5,1,.c (.i .i64 (-1)))])⟩,ab 43 4,ab 44 8,⟨some 45,none,.op (.build [.i .i64 0,.s [],.i .i64 0,.s [],.i .i64 0,.i .i64 0] [(0,1,.c (.i .i64 5)),(3,1,.t 43),(5,1,.t 44)])⟩,ab 46 4,ab 47 5,ab 48 7,ab 49 8,⟨some 50,none,.op (.build [.i .i64 0,.s [],.i .i64 0,.s [],.i .i64 0,.i .i64 0] [(0,1,.c (.i .i64 6)),(1,1,.t 46),(2,1,.t 47),(3,1,.t 48),(5,1,.t 49)])⟩,ab 51 4,ab 52 5,ab 53 9,ab 54 8,⟨some 55,none,.op (.build [.i .i64 0,.s [],.i .i64 0,.s [],.i .i64 0,.i .i64 0] [(0,1,.c (.i .i64 7)),(1,1,.t 51),(2,1,.t 52),(4,1,.t 53),(5,1,.t 54)])⟩,⟨some 56,none,.op (.bfz 7 6 [.i .i64 0,.s [],.i .i64 0,.s [],.i .i64 0,.i .i64 0] [(0,6,.t 31),(6,6,.t 35),(12,6,.t 39),(18,6,.t 42),(24,6,.t 45),(30,6,.t 50),(36,6,.t 55)])⟩,ab 11 56]
def y1i.r4:jI:=[ai 12 0]
def y1i.r5:jI:=[ab 57 12,ab 58 11,av 59 58,ax 60 57 59]
def y1i.r6:jI:=[ab 64 11,ab 65 12,a10 66 6 64 65,a14 67 6 66,⟨some 68,none,.call ybk [.t 67]⟩,ab 63 68,aj 69 0 63,aj 70 1 63,ab 13 69,ab 14 70]
def y1i.r7:jI:=[ab 71 14,a18 72 71 0,ab 73 72,am 74 73 13,am 75 73 0,a2n 76 73 74 75,aq 77 73 76,ab 78 77,am 79 78 6,⟨some 80,(some (78,true)),.op (.bin .neq (.t 79) (.c (.s [])))⟩,am 81 78 80,a19 82 81 11,a19 83 81 12,a36 84 81 6 82 83,a12 85 81 0 84,a11 86 81 1 85,a1s 87 81 86 5,a1n 88 78 81 87,aq 89 78 88]
def y1i.r8:jI:=[ab 90 11,ab 91 12,a10 92 6 90 91,a14 93 6 92,ar 6 2 93,ai 3 0]
def y1i.r9:jI:=[ab 61 12,ay 62 61 1,ab 12 62]
def y1i.l0:ACode:=.seq (jJ [0,2,6,11,12,60] y1i.r5 (.post [0,2,6,11,12] (.cond (.t 60) (.skip) (.exit 0)))) (.seq (.post [0,2,6,11,12] (.block 1 (jJ [0,2,6,11,12,13,14] y1i.r6 (jJ [0,2,6,11,12,89] y1i.r7 (.post [0,2,6,11,12] (.cond (.t 89) (jJ [2,3] y1i.r8 (.ret)) (.skip))))))) (jK [0,2,6,11,12] y1i.r9))
def y1i.r10:jI:=[⟨some 94,none,.op (.build [.i .i64 0,.s [],.i .i64 0,.s [],.i .i64 0,.i .i64 0] [])⟩,ar 6 2 94,ai 3 11]
def y1i:AFunc:=⟨95,[.cell 2 true 6,.t 3],jJ [0,2] y1i.r0 (jJ [0,2,4,5,6,7,8] y1i.r1 (jJ [0,2,4,5,6,7,8,9] y1i.r2 (jJ [0,2,6,11] y1i.r3 (.seq (jJ [0,2,6,11,12] y1i.r4 (.post [2] (.block 0 (.loop y1i.l0)))) (jJ [2,3] y1i.r10 (.ret))))))⟩
theorem y1i.ok:y1x Tryz.prog Tryz.f104 y1i=true:=by kernel_rfl
theorem y1i.at:Tryz.prog.funcs[y6m]?=some Tryz.f104:=Tryz.func104
def y20.r0:jI:=[ap 6]
def y20.r1:jI:=[ai 7 0]
def y20.r2:jI:=[ab 8 7,ab 9 0,a1b 10 9,ax 11 8 10]
def y20.r3:jI:=[ab 14 0,ab 15 7,a1x 16 14 15,⟨some 17,none,.op (.bin .neq (.t 16) (.c (.i .u8 105)))⟩,ab 18 17,am 19 18 0,am 20 18 7,a2p 21 18 19 20,⟨some 22,(some (18,true)),.op (.bin .neq (.t 21) (.c (.i .u8 112)))⟩,aq 23 18 22]
def y20.r4:jI:=[ap 6]
def y20.r5:jI:=[ab 12 7,ay 13 12 1,ab 7 13]
def y20.l0:ACode:=.seq (jJ [0,1,2,7,11] y20.r2 (.post [0,1,2,7] (.cond (.t 11) (.skip) (.exit 0)))) (.seq (.post [0,1,2,7] (.block 1 (jJ [0,1,2,7,23] y20.r3 (.post [0,1,2,7] (.cond (.t 23) (jJ [6] y20.r4 (.ret)) (.skip)))))) (jK [0,1,2,7] y20.r5))
def y20.r6:jI:=[ab 24 0,a1b 25 24,ab 26 1,a3d 27 25 26,ab 28 27,am 29 28 0,a1u 30 28 29,am 31 28 2,a3m 32 28 30 31,aq 33 28 32,ab 6 33]
def y20:AFunc:=⟨34,[.t 6],jJ [0,1,2] y20.r0 (.seq (jJ [0,1,2,7] y20.r1 (.post [0,1,2] (.block 0 (.loop y20.l0)))) (jJ [6] y20.r6 (.ret)))⟩
theorem y20.ok:y1x Tryz.prog Tryz.f158 y20=true:=by kernel_rfl
theorem y20.at:Tryz.prog.funcs[y85]?=some Tryz.f158:=Tryz.func158
def yd.r0:jI:=[a1a 1 0,ai 2 0]
def yd.r1:jI:=[ah 9 0 1,ae 10 1 9,⟨some 11,none,.call y6m [.t 10]⟩,ab 8 11,aj 12 0 8,aj 13 1 8,a1m 3 0 0 0 0,ar 6 3 12,ab 4 13]
def yd.r2:jI:=[ab 14 4,a1c 15 14 0,ab 16 15,a12 17 16 0 3,a11 18 16 1 17,a2z 19 16 18 5,az 20 16 19,ab 21 20,a12 22 21 5 3,a11 23 21 1 22,a2l 24 21 23 0,az 25 21 24]
def yd.r3:jI:=[ai 2 11]
def yd.r4:jI:=[ah 26 1 1,ae 27 1 26,⟨some 28,none,.call y85 [.t 27,.c (.i .i64 1),.c (.i .i64 64)]⟩,a1d 29 28]
def yd.r5:jI:=[ai 2 5]
def yd.r6:jI:=[ai 5 0]
def yd.r7:jI:=[ab 30 5,ah 31 2 1,ae 32 1 31,av 33 32,ax 34 30 33]
def yd.r8:jI:=[ah 37 2 1,ae 38 1 37,ab 39 5,a10 40 2 38 39,a14 41 2 40,a3e 6 0,ar 2 6 41]
def yd.r9:jI:=[ah 42 0 6,ae 43 1 42,a27 44 43 0,ab 45 44,a12 46 45 0 6,a11 47 45 1 46,a12 48 45 1 1,a11 49 45 1 48,a1t 50 45 49,⟨some 51,(some (45,false)),.op (.bin .geq (.t 47) (.t 50))⟩,az 52 45 51,ab 53 52,a12 54 53 1 6,a11 55 53 1 54,a1t 56 53 55,a2z 57 53 56 1,az 58 53 57,ab 59 58,a12 60 59 1 6,a11 61 59 1 60,a1t 62 59 61,a1i 63 59 62 60,az 64 59 63,ab 65 64,a19 66 65 5,a1i 67 65 66 0,a19 68 65 67,a16 69 68 0 6,a15 70 68 1 69,a16 71 68 2 1,a15 72 68 1 71,am 73 68 5,a2e 74 68 73 1,a1r 75 68 2 72 74,a16 76 68 0 75,a15 77 68 1 76,a2q 78 68 70 77,a1j 79 65 68 78,az 80 65 79]
def yd.r10:jI:=[ai 2 3]
def yd.r11:jI:=[ai 7 0]
def yd.r12:jI:=[ab 81 7,ab 82 5,ax 83 81 82]
def yd.r13:jI:=[ah 86 2 1,ae 87 1 86,ab 88 7,a10 89 2 87 88,a14 90 2 89,a14 91 2 6,⟨some 92,none,.op (.eqa false [0,1] (.t 90) (.t 91))⟩]
def yd.r14:jI:=[ai 2 3]
def yd.r15:jI:=[ab 84 7,ay 85 84 1,ab 7 85]
def yd.l1:ACode:=.seq (jJ [1,5,6,7,83] yd.r12 (.post [1,5,6,7] (.cond (.t 83) (.skip) (.exit 2)))) (.seq (.post [1,5,6,7] (.block 3 (.seq (.post [1,5,6,7,92] (.draw [0,1,0,7,15,0,63] yd.r13)) (.post [1,5,6,7] (.cond (.t 92) (jJ [2] yd.r14 (.ret)) (.skip)))))) (jK [1,5,6,7] yd.r15))
def yd.r16:jI:=[ab 35 5,ay 36 35 1,ab 5 36]
def yd.l0:ACode:=.seq (jJ [1,5,34] yd.r7 (.post [1,5] (.cond (.t 34) (.skip) (.exit 0)))) (.seq (.post [1,5] (.block 1 (jJ [1,5,6] yd.r8 (.seq (.seq (.post [1,5,6,80] (.draw [0,1,3,7,15,31,15,79,207,511,1023,2047,4095,8191,16383,32767,65535,131071,262143,524287,1048575,2097151,4194303,8388607,16777215,33554431,67108863,134217727,268435455,134217727,671088639,134217727,2281701375,8187281407,16777215999,33957085183,68719476735,137438953471,274877906943] yd.r9)) (.post [1,5,6] (.cond (.t 80) (jJ [2] yd.r10 (.ret)) (.skip)))) (jJ [1,5,6,7] yd.r11 (.post [1,5] (.block 2 (.loop yd.l1)))))))) (jK [1,5] yd.r16))
def yd.r17:jI:=[ai 2 0]
def yd:AFunc:=⟨93,[.t 2],jJ [1] yd.r0 (jJ [1,3,4] yd.r1 (.seq (jJ [1,25] yd.r2 (.post [1] (.cond (.t 25) (jJ [2] yd.r3 (.ret)) (.skip)))) (.seq (jJ [1,29] yd.r4 (.post [1] (.cond (.t 29) (jJ [2] yd.r5 (.ret)) (.skip)))) (.seq (jJ [1,5] yd.r6 (.post [] (.block 0 (.loop yd.l0)))) (jJ [2] yd.r17 (.ret))))))⟩
theorem yd.ok:y1x Tryz.prog Tryz.f101 yd=true:=by kernel_rfl
theorem yd.at:Tryz.prog.funcs[ya9]?=some Tryz.f101:=Tryz.func101
end C
end Go.Proofs.YthmkcebbeehbeaaGreatDoor
