/- Part 16 of the proof of the laws of the queries: CodeA. -/
import Derived.Test.YthmkcebbeehbeaaGreatDoorProg
import Derived.Test.YthmkcebbeehbeaaGreatDoorXEw15
set_option linter.unusedSimpArgs false
set_option linter.unusedVariables false
namespace Go.Proofs.YthmkcebbeehbeaaGreatDoor
open Am Go.Proofs
set_option maxRecDepth 100000
namespace C
abbrev jI:=List AStep
abbrev jJ (t:List Nat) (r:jI) (c:ACode):ACode:=.seq (.post t (.region r)) c
abbrev jK (t:List Nat) (r:jI):ACode:=.post t (.region r)
@[simp] def ab (x0 x1:Nat):AStep:=⟨some x0,none,.op (.mov (.t x1))⟩
@[simp] def ac (x0 x1 x2:Nat):AStep:=⟨some x0,none,.op (.load false x1 (.t x2))⟩
@[simp] def ae (x0 x1 x2:Nat):AStep:=⟨some x0,none,.op (.fadr x1 (.t x2))⟩
@[simp] def af (x0:Nat) (x1:Int):AStep:=⟨some x0,none,.op (.mov (.c (.i .i64 x1)))⟩
@[simp] def ah (x0 x1 x2:Nat):AStep:=⟨some x0,(some (x1,true)),.op (.mov (.t x2))⟩
@[simp] def ai (x0 x1 x2:Nat):AStep:=⟨some x0,none,.op (.ext x1 (.t x2))⟩
@[simp] def aj (x0 x1 x2:Nat):AStep:=⟨some x0,none,.op (.pick (.t x1) (.t x2) (.c (.b false)))⟩
@[simp] def ak (x0 x1 x2:Nat):AStep:=⟨none,none,.op (.store x0 (.t x1) (.t x2))⟩
@[simp] def am (x0 x1:Nat):AStep:=⟨some x0,none,.op (.len false (.t x1))⟩
@[simp] def an (x0:Nat):AStep:=⟨some x0,none,.op (.mov (.c (.b false)))⟩
@[simp] def ap (x0 x1 x2:Nat):AStep:=⟨some x0,none,.op (.bin .lss (.t x1) (.t x2))⟩
@[simp] def aq (x0 x1:Nat):AStep:=⟨some x0,none,.op (.nilc (.t x1))⟩
@[simp] def ar (x0 x1:Nat) (x2:Int):AStep:=⟨some x0,none,.op (.bin .add (.t x1) (.c (.i .i64 x2)))⟩
@[simp] def av (x0 x1 x2 x3:Nat):AStep:=⟨some x0,none,.op (.iad x1 (.t x2) (.t x3))⟩
@[simp] def aw (x0:Nat):AStep:=⟨some x0,none,.op (.mov (.c (.s [])))⟩
@[simp] def ax (x0 x1 x2:Nat):AStep:=⟨some x0,none,.op (.pick (.t x1) (.c (.b true)) (.t x2))⟩
@[simp] def ay (x0 x1 x2 x3:Nat):AStep:=⟨some x0,(some (x1,false)),.op (.load false x2 (.t x3))⟩
@[simp] def az (x0 x1 x2 x3:Nat):AStep:=⟨some x0,(some (x1,false)),.op (.fadr x2 (.t x3))⟩
@[simp] def a10 (x0 x1 x2:Nat):AStep:=⟨some x0,none,.op (.load true x1 (.t x2))⟩
@[simp] def a11 (x0 x1 x2 x3:Nat):AStep:=⟨some x0,(some (x1,true)),.op (.load false x2 (.t x3))⟩
@[simp] def a12 (x0 x1:Nat) (x2:Int):AStep:=⟨some x0,none,.op (.bin .eql (.t x1) (.c (.i .i64 x2)))⟩
@[simp] def a13 (x0 x1 x2 x3:Nat):AStep:=⟨some x0,(some (x1,true)),.op (.fadr x2 (.t x3))⟩
@[simp] def a14 (x0 x1 x2:Nat):AStep:=⟨some x0,(some (x1,false)),.op (.mov (.t x2))⟩
@[simp] def a15 (x0 x1:Nat):AStep:=⟨some x0,none,.op (.len true (.t x1))⟩
@[simp] def a16 (x0 x1:Nat):AStep:=⟨some x0,none,.op (.boxf (.t x1))⟩
@[simp] def a17 (x0 x1:Nat) (x2:Int):AStep:=⟨some x0,none,.op (.bin .neq (.t x1) (.c (.i .i64 x2)))⟩
@[simp] def a18 (x0 x1 x2:Nat):AStep:=⟨some x0,none,.op (.bin .add (.t x1) (.t x2))⟩
@[simp] def a19 (x0 x1:Nat) (x2:Int):AStep:=⟨some x0,none,.op (.bin .gtr (.t x1) (.c (.i .i64 x2)))⟩
@[simp] def a1a (x0 x1:Nat):AStep:=⟨some x0,none,.op (.un .not (.t x1))⟩
@[simp] def a1b (x0:Nat):AStep:=⟨some x0,none,.op (.mov (.c (.b true)))⟩
@[simp] def a1c (x0 x1:Nat) (x2:Int):AStep:=⟨some x0,none,.op (.bin .geq (.t x1) (.c (.i .i64 x2)))⟩
@[simp] def a1d (x0 x1 x2:Nat) (x3:Int):AStep:=⟨some x0,(some (x1,false)),.op (.bin .gtr (.t x2) (.c (.i .i64 x3)))⟩
@[simp] def a1e (x0 x1 x2 x3:Nat):AStep:=⟨some x0,(some (x1,false)),.op (.pick (.t x2) (.t x3) (.c (.b false)))⟩
@[simp] def a1f (x0 x1 x2:Nat):AStep:=⟨some x0,none,.callv (.t x1) [.t x2]⟩
@[simp] def a1g (x0:Nat) (x1 x2 x3 x4:Int):AStep:=⟨some x0,none,.op (.new [.i .i64 x1,.s [],.i .i64 x2,.s [],.i .i64 x3,.i .i64 x4])⟩
@[simp] def a1h (x0 x1 x2 x3:Nat):AStep:=⟨some x0,(some (x1,true)),.op (.pick (.t x2) (.c (.b true)) (.t x3))⟩
@[simp] def a1i (x0 x1 x2:Nat):AStep:=⟨some x0,none,.op (.mov (.c (.sl none x1 x2)))⟩
@[simp] def a1j (x0 x1 x2 x3:Nat):AStep:=⟨some x0,(some (x1,true)),.op (.load true x2 (.t x3))⟩
@[simp] def a1k (x0 x1 x2 x3 x4:Nat):AStep:=⟨some x0,(some (x1,true)),.op (.iad x2 (.t x3) (.t x4))⟩
@[simp] def a1l (x0 x1 x2 x3 x4:Nat):AStep:=⟨some x0,none,.op (.app x1 x2 (.t x3) (.t x4))⟩
@[simp] def a1m (x0 x1:Nat):AStep:=⟨some x0,none,.op (.box (.t x1))⟩
@[simp] def a1n (x0 x1 x2:Nat):AStep:=⟨some x0,(some (x1,true)),.op (.len true (.t x2))⟩
@[simp] def a1o (x0 x1 x2:Nat) (x3:Int):AStep:=⟨some x0,(some (x1,true)),.op (.bin .eql (.t x2) (.c (.i .i64 x3)))⟩
@[simp] def a1p (x0 x1:Nat) (x2:Int):AStep:=⟨some x0,none,.op (.bin .lss (.t x1) (.c (.i .i64 x2)))⟩
@[simp] def a1q (x0 x1 x2:Nat) (x3:Int):AStep:=⟨some x0,(some (x1,false)),.op (.bin .eql (.t x2) (.c (.i .i64 x3)))⟩
@[simp] def a1r (x0 x1 x2:Nat):AStep:=⟨some x0,none,.op (.idx (.t x1) (.t x2))⟩
@[simp] def a1s (x0 x1:Nat):AStep:=⟨some x0,none,.op (.conv .u8 (.t x1))⟩
@[simp] def a1t (x0 x1 x2:Nat):AStep:=⟨some x0,(some (x1,false)),.op (.len true (.t x2))⟩
@[simp] def a1u (x0 x1 x2:Nat):AStep:=⟨some x0,(some (x1,true)),.op (.un .not (.t x2))⟩
@[simp] def a1v (x0 x1 x2:Nat):AStep:=⟨some x0,(some (x1,false)),.op (.len false (.t x2))⟩
@[simp] def a1w (x0 x1 x2:Nat):AStep:=⟨some x0,none,.op (.sls (.t x1) none (some (.t x2)))⟩
@[simp] def a1x (x0 x1:Nat):AStep:=⟨some x0,none,.op (.bin .neq (.t x1) (.c (.s [])))⟩
@[simp] def a1y (x0 x1 x2:Nat) (x3:Int):AStep:=⟨some x0,(some (x1,true)),.op (.bin .leq (.t x2) (.c (.i .i64 x3)))⟩
@[simp] def a1z (x0 x1 x2:Nat):AStep:=⟨some x0,(some (x1,false)),.op (.un .not (.t x2))⟩
@[simp] def a23 (x0:Nat):AStep:=⟨some x0,none,.op (.mov (.c (.p none)))⟩
@[simp] def a24 (x0 x1:Nat) (x2:Int):AStep:=⟨some x0,none,.op (.bin .eql (.t x1) (.c (.i .u8 x2)))⟩
@[simp] def a25 (x0 x1:Nat):AStep:=⟨some x0,none,.op (.bin .eql (.t x1) (.c (.s [])))⟩
@[simp] def a26 (x0 x1 x2:Nat):AStep:=⟨some x0,none,.op (.sls (.t x1) (some (.t x2)) none)⟩
@[simp] def a27 (x0 x1 x2:Nat) (x3:Int):AStep:=⟨some x0,(some (x1,false)),.op (.bin .neq (.t x2) (.c (.i .i64 x3)))⟩
@[simp] def a28 (x0 x1:Nat) (x2:Int):AStep:=⟨some x0,none,.op (.bin .shr (.t x1) (.c (.i .u64 x2)))⟩
@[simp] def a29 (x0 x1 x2 x3:Nat):AStep:=⟨some x0,(some (x1,true)),.op (.idx (.t x2) (.t x3))⟩
@[simp] def a2a (x0 x1 x2:Nat) (x3:Int):AStep:=⟨some x0,(some (x1,true)),.op (.bin .sub (.t x2) (.c (.i .i64 x3)))⟩
@[simp] def a2b (x0 x1:Nat) (x2:Int):AStep:=⟨none,none,.op (.store x0 (.t x1) (.c (.i .i64 x2)))⟩
@[simp] def a2c (x0 x1 x2:Nat):AStep:=⟨some x0,none,.op (.bin .eql (.t x1) (.t x2))⟩
@[simp] def a2d (x0 x1 x2 x3:Nat):AStep:=⟨some x0,(some (x1,true)),.op (.bin .eql (.t x2) (.t x3))⟩
@[simp] def a2e (x0 x1:Nat) (x2:UInt8):AStep:=⟨some x0,none,.op (.bin .add (.t x1) (.c (.s [x2])))⟩
@[simp] def a2f (x0 x1 x2:Nat):AStep:=⟨some x0,none,.op (.bin .gtr (.t x1) (.t x2))⟩
@[simp] def a2g (x0:Nat) (x1 x2:Int) (x3 x4:Nat):AStep:=⟨some x0,none,.op (.new [.i .i64 x1,.s [],.s [],.i .i64 x2,.s [],.sl none x3 x4])⟩
@[simp] def a2h (x0 x1 x2:Nat) (x3:Int):AStep:=⟨some x0,(some (x1,true)),.op (.bin .leq (.t x2) (.c (.i .u8 x3)))⟩
@[simp] def a2i (x0 x1 x2:Nat) (x3:Int):AStep:=⟨some x0,(some (x1,false)),.op (.bin .geq (.t x2) (.c (.i .i64 x3)))⟩
@[simp] def a2j (x0 x1 x2:Nat):AStep:=⟨some x0,none,.op (.bin .neq (.t x1) (.t x2))⟩
@[simp] def a2k (x0 x1 x2:Nat) (x3:UInt8):AStep:=⟨some x0,(some (x1,true)),.op (.bin .neq (.t x2) (.c (.s [x3])))⟩
@[simp] def a2l (x0 x1 x2 x3 x4 x5:Nat):AStep:=⟨some x0,none,.op (.bfz x1 x2 [.s []] [(x3,x4,.t x5)])⟩
@[simp] def a2m (x0 x1:Nat):AStep:=⟨some x0,none,.op (.b2s (.t x1))⟩
@[simp] def a2n (x0 x1 x2 x3:Nat):AStep:=⟨some x0,(some (x1,true)),.op (.bin .lss (.t x2) (.t x3))⟩
@[simp] def a2o (x0 x1 x2:Nat):AStep:=⟨some x0,(some (x1,true)),.op (.nilc (.t x2))⟩
@[simp] def a2p (x0 x1:Nat):AStep:=⟨some x0,none,.callv (.t x1) []⟩
@[simp] def a2q (x0 x1:Nat) (x2:Int):AStep:=⟨some x0,none,.op (.bin .geq (.t x1) (.c (.i .u8 x2)))⟩
@[simp] def a2r (x0 x1:Nat) (x2:Int):AStep:=⟨some x0,none,.op (.idx (.t x1) (.c (.i .i64 x2)))⟩
@[simp] def a2s (x0 x1 x2:Nat) (x3:Int):AStep:=⟨some x0,(some (x1,true)),.op (.idx (.t x2) (.c (.i .i64 x3)))⟩
@[simp] def a2t (x0 x1 x2:Nat):AStep:=⟨some x0,none,.op (.new [.s [],.s [],.sl none x1 x2])⟩
@[simp] def a2u (x0 x1 x2:Nat) (x3:Int):AStep:=⟨some x0,(some (x1,true)),.op (.bin .geq (.t x2) (.c (.i .i64 x3)))⟩
@[simp] def a2v (x0 x1:Nat) (x2:Int):AStep:=⟨some x0,none,.op (.sls (.t x1) (some (.c (.i .i64 x2))) none)⟩
@[simp] def a2w (x0 x1 x2:Nat) (x3:Int):AStep:=⟨some x0,(some (x1,false)),.op (.bin .lss (.t x2) (.c (.i .i64 x3)))⟩
@[simp] def a2x (x0:Nat):AStep:=⟨some x0,none,.op (.new [.s [],.s [],.s []])⟩
@[simp] def a2y (x0 x1:Nat) (x2:Int):AStep:=⟨some x0,none,.op (.bin .sub (.t x1) (.c (.i .i64 x2)))⟩
@[simp] def a2z (x0 x1 x2 x3 x4 x5 x6 x7 x8 x9 x10 x11 x12:Nat):AStep:=⟨some x0,none,.op (.new [.s [],.sl none x1 x2,.sl none x3 x4,.sl none x5 x6,.sl none x7 x8,.sl none x9 x10,.sl none x11 x12])⟩
@[simp] def a30 (x0 x1 x2 x3 x4 x5 x6 x7 x8 x9 x10 x11 x12:Nat):AStep:=⟨some x0,none,.op (.build [.s [],.sl none x1 x2,.sl none x3 x4,.sl none x5 x6,.sl none x7 x8,.sl none x9 x10,.sl none x11 x12] [])⟩
@[simp] def a31 (x0:Nat) (x1:Int) (x2:Nat):AStep:=⟨some x0,none,.op (.bin .mul (.c (.i .i64 x1)) (.t x2))⟩
@[simp] def a32 (x0 x1 x2 x3 x4:Nat):AStep:=⟨some x0,(some (x1,false)),.op (.iad x2 (.t x3) (.t x4))⟩
@[simp] def a33 (x0 x1 x2 x3:Nat):AStep:=⟨some x0,(some (x1,false)),.op (.load true x2 (.t x3))⟩
@[simp] def a34 (x0 x1 x2 x3 x4:Nat):AStep:=⟨some x0,(some (x1,true)),.callv (.t x2) [.t x3,.t x4]⟩
@[simp] def a35 (x0 x1 x2:Nat) (x3:Int):AStep:=⟨some x0,(some (x1,true)),.op (.bin .gtr (.t x2) (.c (.i .i64 x3)))⟩
@[simp] def a36 (x0 x1:Nat) (x2:UInt8):AStep:=⟨some x0,none,.op (.bin .eql (.t x1) (.c (.s [x2])))⟩
@[simp] def a38 (x0 x1 x2 x3 x4 x5 x6 x7 x8 x9:Nat):AStep:=⟨some x0,(some (x1,true)),.op (.eqa false [x2,x3,x4,x5,x6,x7] (.t x8) (.t x9))⟩
@[simp] def a39 (x0 x1 x2:Nat):AStep:=⟨some x0,none,.op (.bin .geq (.t x1) (.t x2))⟩
@[simp] def a3a (x0:Nat) (x1:Int):AStep:=⟨some x0,none,.op (.new [.i .i64 x1,.s []])⟩
@[simp] def a3b (x0 x1:Nat):AStep:=⟨some x0,none,.op (.conv .u64 (.t x1))⟩
@[simp] def a3c (x0 x1:Nat):AStep:=⟨some x0,none,.op (.conv .i64 (.t x1))⟩
@[simp] def a3d (x0:Nat):AStep:=⟨some x0,none,.op (.mov (.c (.nifc)))⟩
@[simp] def a3e (x0:Nat) (x1:Int):AStep:=⟨some x0,none,.op (.mov (.c (.i .u32 x1)))⟩
@[simp] def a3f (x0 x1:Nat) (x2:Int):AStep:=⟨some x0,none,.op (.bin .xor (.t x1) (.c (.i .u32 x2)))⟩
@[simp] def a3g (x0 x1:Nat) (x2:Int) (x3 x4 x5:Nat):AStep:=⟨some x0,none,.op (.bsl x1 [.i .u8 x2] [(x3,x4,.t x5)])⟩
@[simp] def a3h (x0 x1 x2:Nat) (x3:Int):AStep:=⟨some x0,(some (x1,true)),.op (.bin .lss (.t x2) (.c (.i .i64 x3)))⟩
@[simp] def a3i (x0 x1 x2:Nat):AStep:=⟨some x0,(some (x1,true)),.op (.bin .eql (.t x2) (.c (.s [])))⟩
@[simp] def a3j (x0 x1 x2 x3:Nat):AStep:=⟨some x0,(some (x1,false)),.op (.bin .neq (.t x2) (.t x3))⟩
@[simp] def a3k (x0 x1 x2 x3:Nat):AStep:=⟨some x0,(some (x1,true)),.op (.bin .leq (.t x2) (.t x3))⟩
@[simp] def a3l (x0 x1 x2:Nat):AStep:=⟨some x0,(some (x1,false)),.op (.bin .neq (.t x2) (.c (.s [])))⟩
@[simp] def a3m (x0 x1 x2 x3:Nat):AStep:=⟨some x0,none,.op (.boxT x1 x2 (.t x3))⟩
@[simp] def a3n (x0 x1:Nat) (x2:Int):AStep:=⟨some x0,none,.op (.bin .shl (.t x1) (.c (.i .u64 x2)))⟩
@[simp] def a3o (x0 x1 x2:Nat) (x3:Int):AStep:=⟨some x0,(some (x1,true)),.op (.bin .neq (.t x2) (.c (.i .i64 x3)))⟩
@[simp] def a3p (x0:Nat) (x1 x2 x3 x4:Int) (x5 x6:Nat) (x7:Int) (x8 x9 x10 x11 x12 x13 x14 x15 x16 x17 x18:Nat) (x19:Int):AStep:=⟨some x0,none,.op (.build [.i .i64 x1,.s [],.i .i64 x2,.s [],.i .i64 x3,.i .i64 x4] [(x5,x6,.c (.i .i64 x7)),(x8,x9,.t x10),(x11,x12,.t x13),(x14,x15,.t x16),(x17,x18,.c (.i .i64 x19))])⟩
@[simp] def a3q (x0 x1 x2:Nat):AStep:=⟨some x0,(some (x1,true)),.op (.len false (.t x2))⟩
def ybk:FuncId:=17
def y7o:FuncId:=18
def y95:FuncId:=19
def ybj:FuncId:=7
def y94:FuncId:=114
def ygy:FuncId:=167
def ya9:FuncId:=113
def y9u:FuncId:=57
def y9i:FuncId:=115
def ycy:FuncId:=201
def yk1:FuncId:=230
def yek:FuncId:=220
def ya8:FuncId:=202
def yf7:FuncId:=177
def y7r:FuncId:=203
def yb0:FuncId:=178
def ygz:FuncId:=179
def y9k:FuncId:=128
def yg4:FuncId:=196
def y7i:FuncId:=168
def y9r:FuncId:=169
def y6h:FuncId:=197
def y5l:FuncId:=170
def y9h:FuncId:=116
def y70:FuncId:=198
def y5f:FuncId:=171
def ya7:FuncId:=117
def ya2:FuncId:=118
def y8o:FuncId:=119
def yau:FuncId:=120
def y9j:FuncId:=121
def y84:FuncId:=70
def ydr:FuncId:=172
def y99:FuncId:=228
def y7y:FuncId:=218
def yeh:FuncId:=199
def yat:FuncId:=173
def yby:FuncId:=122
def yb2:FuncId:=200
def y9v:FuncId:=175
def y6w:FuncId:=176
def yf8:FuncId:=174
def y93:FuncId:=123
def yds:FuncId:=58
def y8w:FuncId:=61
def y6b:FuncId:=124
def y61:FuncId:=60
def y8v:FuncId:=63
def y6j:FuncId:=125
def y67:FuncId:=62
def y5n:FuncId:=59
def yav:FuncId:=64
def y9t:FuncId:=66
def y6i:FuncId:=126
def y56:FuncId:=65
def y78:FuncId:=127
def y6s:FuncId:=68
def y9s:FuncId:=67
def ybl:FuncId:=69
def yaw:FuncId:=20
def y6g:FuncId:=71
def y82:FuncId:=77
def ybn:FuncId:=222
def y85:FuncId:=223
def y68:FuncId:=205
def yaz:FuncId:=180
def y8g:FuncId:=181
def y9q:FuncId:=142
def ycw:FuncId:=75
def y7j:FuncId:=143
def y7k:FuncId:=76
def y5p:FuncId:=24
def y4c:FuncId:=135
def y3d:FuncId:=129
def y6e:FuncId:=130
def y6c:FuncId:=134
def yb5:FuncId:=133
def y6v:FuncId:=132
def ybz:FuncId:=131
def y6u:FuncId:=137
def yce:FuncId:=136
def y6t:FuncId:=139
def yc0:FuncId:=138
def y79:FuncId:=72
def y75:FuncId:=207
def y59:FuncId:=206
def y7l:FuncId:=182
def yei:FuncId:=183
def y86:FuncId:=140
def y7p:FuncId:=185
def y63:FuncId:=184
def y7a:FuncId:=141
def y7s:FuncId:=73
def ybt:FuncId:=21
def yj8:FuncId:=22
def y74:FuncId:=74
def ye9:FuncId:=80
def y8d:FuncId:=27
def ydu:FuncId:=23
def yci:FuncId:=78
def y73:FuncId:=79
def y8c:FuncId:=26
def ybm:FuncId:=25
def yb1:FuncId:=145
def yd0:FuncId:=144
def yle:FuncId:=81
def yfr:FuncId:=28
def yad:FuncId:=8
def y6y:FuncId:=99
def y8l:FuncId:=100
def y92:FuncId:=40
def y8m:FuncId:=189
def y91:FuncId:=162
def ybg:FuncId:=161
def y8k:FuncId:=210
def ybh:FuncId:=190
def y9p:FuncId:=211
def y6f:FuncId:=191
def yc9:FuncId:=163
def y72:FuncId:=104
def y8j:FuncId:=158
def yas:FuncId:=101
def ya0:FuncId:=102
def y81:FuncId:=45
def ybe:FuncId:=159
def ycu:FuncId:=188
def yc8:FuncId:=160
def ycv:FuncId:=103
def y90:FuncId:=156
def y7d:FuncId:=157
def yag:FuncId:=98
def ybf:FuncId:=41
def y9o:FuncId:=42
def ybc:FuncId:=43
def y98:FuncId:=44
def ybd:FuncId:=13
def yca:FuncId:=187
def y62:FuncId:=32
def y3v:FuncId:=148
def y3q:FuncId:=146
def y5r:FuncId:=147
def y6n:FuncId:=82
def yb9:FuncId:=29
def yba:FuncId:=30
def yar:FuncId:=84
def ybb:FuncId:=33
def ydq:FuncId:=83
def ycb:FuncId:=31
def yaq:FuncId:=9
def yho:FuncId:=34
def y6k:FuncId:=165
def y6l:FuncId:=110
def yah:FuncId:=53
def ydg:FuncId:=54
def ya1:FuncId:=166
def y8e:FuncId:=111
def y8n:FuncId:=112
def y3p:FuncId:=55
def y4t:FuncId:=85
def y60:FuncId:=88
def ycx:FuncId:=56
def yc1:FuncId:=149
def y96:FuncId:=151
def y8f:FuncId:=87
def ygg:FuncId:=150
def ygh:FuncId:=86
def ydt:FuncId:=35
def y5o:FuncId:=152
def ydv:FuncId:=153
def y33:FuncId:=89
def y6o:FuncId:=90
def y8h:FuncId:=155
def yal:FuncId:=154
def y7q:FuncId:=92
def yax:FuncId:=91
def y6z:FuncId:=94
def yb4:FuncId:=93
def y8x:FuncId:=96
def yay:FuncId:=95
def yej:FuncId:=36
def ycz:FuncId:=37
def ycc:FuncId:=11
def ybi:FuncId:=10
def y7x:FuncId:=3
def y4.r0:jI:=[a16 2 0,an 4]
def y4.r1:jI:=[ae 12 0 2,ac 13 1 12,am 14 13,ab 15 1,a2f 16 14 15,ab 17 16,az 18 17 1 2,ay 19 17 1 18,a1v 20 17 19,a14 21 17 1,⟨some 22,(some (17,false)),.op (.bin .gtr (.t 20) (.t 21))⟩,ax 23 17 22,ab 24 23,az 25 24 2 2,ay 26 24 1 25,a1v 27 24 26,a14 28 24 1,⟨some 29,(some (24,false)),.op (.bin .gtr (.t 27) (.t 28))⟩,ax 30 24 29]
def y4.r2:jI:=[a1b 4]
def y4.r3:jI:=[af 5 0]
def y4.r4:jI:=[af 6 0]
def y4.r5:jI:=[ab 31 6,ae 32 0 2,ac 33 1 32,am 34 33,ap 35 31 34]
def y4.r6:jI:=[ab 38 5,ae 39 0 2,ac 40 1 39,ab 41 6,av 42 3 40 41,ae 43 0 42,ac 44 1 43,a15 45 44,a18 46 38 45,ae 47 0 2,ac 48 1 47,ab 49 6,av 50 3 48 49,ae 51 1 50,ac 52 1 51,a15 53 52,a18 54 46 53,ae 55 0 2,ac 56 1 55,ab 57 6,av 58 3 56 57,ae 59 2 58,ac 60 1 59,am 61 60,a31 62 10 61,a18 63 54 62,ab 5 63]
def y4.r7:jI:=[af 7 0]
def y4.r8:jI:=[ab 64 7,ae 65 0 2,ac 66 1 65,ab 67 6,av 68 3 66 67,ae 69 2 68,ac 70 1 69,am 71 70,ap 72 64 71,ab 73 72,ah 74 73 7,a3h 75 73 74 100,aj 76 73 75]
def y4.r9:jI:=[ab 79 5,ae 80 0 2,ac 81 1 80,ab 82 6,av 83 3 81 82,ae 84 2 83,ac 85 1 84,ab 86 7,av 87 2 85 86,ae 88 1 87,ac 89 1 88,a15 90 89,a18 91 79 90,ab 5 91]
def y4.r10:jI:=[ab 77 7,ar 78 77 1,ab 7 78]
def y4.l1:ACode:=.seq (jJ [2,5,6,7,76] y4.r8 (.post [2,5,6,7] (.cond (.t 76) (.skip) (.exit 2)))) (.seq (.post [2,5,6,7] (.block 3 (jK [2,5,6,7] y4.r9))) (jK [2,5,6,7] y4.r10))
def y4.r11:jI:=[ab 92 5,a19 93 92 30000]
def y4.r12:jI:=[a1b 4]
def y4.r13:jI:=[ab 36 6,ar 37 36 1,ab 6 37]
def y4.l0:ACode:=.seq (jJ [2,5,6,35] y4.r5 (.post [2,5,6] (.cond (.t 35) (.skip) (.exit 0)))) (.seq (.post [2,5,6] (.block 1 (.seq (.post [2,5,6] (.draw [0,0,2,0,14,30,62,126,255,0,512,0,3584,7680,15872,32256,65535,0,131072,0,917504,1966080,4063232,8257536,16646144,33554431,67108863] y4.r6)) (.seq (jJ [2,5,6,7] y4.r7 (.post [2,5,6] (.block 2 (.loop y4.l1)))) (jJ [2,5,6,93] y4.r11 (.post [2,5,6] (.cond (.t 93) (jJ [4] y4.r12 (.ret)) (.skip)))))))) (jK [2,5,6] y4.r13))
def y4.r14:jI:=[af 8 0]
def y4.r15:jI:=[ab 94 8,ae 95 1 2,ac 96 1 95,am 97 96,ap 98 94 97]
def y4.r16:jI:=[ab 101 5,ae 102 1 2,ac 103 1 102,ab 104 8,av 105 3 103 104,ae 106 0 105,ac 107 1 106,a15 108 107,a18 109 101 108,ae 110 1 2,ac 111 1 110,ab 112 8,av 113 3 111 112,ae 114 1 113,ac 115 1 114,a15 116 115,a18 117 109 116,ae 118 1 2,ac 119 1 118,ab 120 8,av 121 3 119 120,ae 122 2 121,ac 123 1 122,a15 124 123,a18 125 117 124,ab 5 125]
def y4.r17:jI:=[ab 126 5,a19 127 126 30000]
def y4.r18:jI:=[a1b 4]
def y4.r19:jI:=[ab 99 8,ar 100 99 1,ab 8 100]
def y4.l2:ACode:=.seq (jJ [2,5,8,98] y4.r15 (.post [2,5,8] (.cond (.t 98) (.skip) (.exit 4)))) (.seq (.post [2,5,8] (.block 5 (.seq (.post [2,5,8] (.draw [0,0,2,0,14,30,62,126,255,0,512,0,3584,7680,15872,32256,65535,0,131072,0,917504,1966080,4063232,8257536,16777215,33554431] y4.r16)) (jJ [2,5,8,127] y4.r17 (.post [2,5,8] (.cond (.t 127) (jJ [4] y4.r18 (.ret)) (.skip))))))) (jK [2,5,8] y4.r19))
def y4.r20:jI:=[af 9 0]
def y4.r21:jI:=[ab 128 9,ae 129 2 2,ac 130 1 129,am 131 130,ap 132 128 131]
def y4.r22:jI:=[ae 135 2 2,ac 136 1 135,ab 137 9,av 138 6 136 137,a10 139 6 138,a2g 10 0 0 0 0,ak 6 10 139]
def y4.r23:jI:=[ab 140 5,ae 141 1 10,ac 142 1 141,a15 143 142,a18 144 140 143,ae 145 2 10,ac 146 1 145,a15 147 146,a18 148 144 147,ae 149 4 10,ac 150 1 149,a15 151 150,a18 152 148 151,ae 153 5 10,ac 154 1 153,am 155 154,a31 156 10 155,a18 157 152 156,ab 5 157]
def y4.r24:jI:=[af 11 0]
def y4.r25:jI:=[ab 158 11,ae 159 5 10,ac 160 1 159,am 161 160,ap 162 158 161,ab 163 162,ah 164 163 11,a3h 165 163 164 100,aj 166 163 165]
def y4.r26:jI:=[ab 169 5,ae 170 5 10,ac 171 1 170,ab 172 11,av 173 1 171 172,ac 174 1 173,a15 175 174,a18 176 169 175,ab 5 176]
def y4.r27:jI:=[ab 167 11,ar 168 167 1,ab 11 168]
def y4.l4:ACode:=.seq (jJ [2,5,9,10,11,166] y4.r25 (.post [2,5,9,10,11] (.cond (.t 166) (.skip) (.exit 8)))) (.seq (.post [2,5,9,10,11] (.block 9 (jK [2,5,9,10,11] y4.r26))) (jK [2,5,9,10,11] y4.r27))
def y4.r28:jI:=[ab 177 5,a19 178 177 60000]
def y4.r29:jI:=[a1b 4]
def y4.r30:jI:=[ab 133 9,ar 134 133 1,ab 9 134]
def y4.l3:ACode:=.seq (jJ [2,5,9,132] y4.r21 (.post [2,5,9] (.cond (.t 132) (.skip) (.exit 6)))) (.seq (.post [2,5,9] (.block 7 (jJ [2,5,9,10] y4.r22 (jJ [2,5,9,10] y4.r23 (.seq (jJ [2,5,9,10,11] y4.r24 (.post [2,5,9] (.block 8 (.loop y4.l4)))) (jJ [2,5,9,178] y4.r28 (.post [2,5,9] (.cond (.t 178) (jJ [4] y4.r29 (.ret)) (.skip))))))))) (jK [2,5,9] y4.r30))
def y4.r31:jI:=[an 4]
def y4:AFunc:=⟨179,[.t 4],jJ [1,2] y4.r0 (.seq (jJ [2,30] y4.r1 (.post [2] (.cond (.t 30) (jJ [4] y4.r2 (.ret)) (.skip)))) (jJ [2,5] y4.r3 (.seq (jJ [2,5,6] y4.r4 (.post [2,5] (.block 0 (.loop y4.l0)))) (.seq (jJ [2,5,8] y4.r14 (.post [2,5] (.block 4 (.loop y4.l2)))) (.seq (jJ [2,5,9] y4.r20 (.post [] (.block 6 (.loop y4.l3)))) (jJ [4] y4.r31 (.ret)))))))⟩
theorem y4.ok:y1v Tryz.prog Tryz.f17 y4=true:=by kernel_rfl
theorem y4.at:Tryz.prog.funcs[ybk]?=some Tryz.f17:=Tryz.func17
def y1j.r0:jI:=[an 2]
def y1j.r1:jI:=[af 3 0]
def y1j.r2:jI:=[ab 4 3,ab 5 0,am 6 5,ap 7 4 6]
def y1j.r3:jI:=[ab 10 3,a1c 11 10 60,ab 12 11,a14 13 12 0,a14 14 12 3,a32 15 12 1 13 14,ay 16 12 1 15,a1t 17 12 16,a1d 18 12 17 100,ax 19 12 18]
def y1j.r4:jI:=[a1b 2]
def y1j.r5:jI:=[ab 8 3,ar 9 8 1,ab 3 9]
def y1j.l0:ACode:=.seq (jJ [0,3,7] y1j.r2 (.post [0,3] (.cond (.t 7) (.skip) (.exit 0)))) (.seq (.post [0,3] (.block 1 (jJ [0,3,19] y1j.r3 (.post [0,3] (.cond (.t 19) (jJ [2] y1j.r4 (.ret)) (.skip)))))) (jK [0,3] y1j.r5))
def y1j.r6:jI:=[an 2]
def y1j:AFunc:=⟨20,[.t 2],jJ [0] y1j.r0 (.seq (jJ [0,3] y1j.r1 (.post [] (.block 0 (.loop y1j.l0)))) (jJ [2] y1j.r6 (.ret)))⟩
theorem y1j.ok:y1v Tryz.prog Tryz.f18 y1j=true:=by kernel_rfl
theorem y1j.at:Tryz.prog.funcs[y7o]?=some Tryz.f18:=Tryz.func18
def y1n.r0:jI:=[an 2]
def y1n.r1:jI:=[af 3 0]
def y1n.r2:jI:=[ab 4 3,ab 5 0,am 6 5,ap 7 4 6]
def y1n.r3:jI:=[ab 10 0,ab 11 3,av 12 1 10 11,ac 13 1 12,a15 14 13,a19 15 14 100]
def y1n.r4:jI:=[a1b 2]
def y1n.r5:jI:=[ab 8 3,ar 9 8 1,ab 3 9]
def y1n.l0:ACode:=.seq (jJ [0,3,7] y1n.r2 (.post [0,3] (.cond (.t 7) (.skip) (.exit 0)))) (.seq (.post [0,3] (.block 1 (jJ [0,3,15] y1n.r3 (.post [0,3] (.cond (.t 15) (jJ [2] y1n.r4 (.ret)) (.skip)))))) (jK [0,3] y1n.r5))
def y1n.r6:jI:=[an 2]
def y1n:AFunc:=⟨16,[.t 2],jJ [0] y1n.r0 (.seq (jJ [0,3] y1n.r1 (.post [] (.block 0 (.loop y1n.l0)))) (jJ [2] y1n.r6 (.ret)))⟩
theorem y1n.ok:y1v Tryz.prog Tryz.f19 y1n=true:=by kernel_rfl
theorem y1n.at:Tryz.prog.funcs[y95]?=some Tryz.f19:=Tryz.func19
def y4o.r0:jI:=[a16 1 0,an 2]
def y4o.r1:jI:=[ae 3 0 1,ac 4 1 3,a15 5 4,a19 6 5 100,ab 7 6,az 8 7 4 1,a33 9 7 3 8,⟨some 10,(some (7,false)),.call ybk [.t 9,.c (.i .i64 80)]⟩,ax 11 7 10,ab 12 11,az 13 12 1 1,ay 14 12 1 13,⟨some 15,(some (12,false)),.call y7o [.t 14]⟩,ax 16 12 15,ab 17 16,az 18 17 2 1,ay 19 17 1 18,⟨some 20,(some (17,false)),.call y7o [.t 19]⟩,ax 21 17 20,ab 22 21,az 23 22 3 1,ay 24 22 1 23,a1v 25 22 24,a1d 26 22 25 200,ax 27 22 26,ab 28 27,az 29 28 3 1,ay 30 28 1 29,⟨some 31,(some (28,false)),.call y95 [.t 30]⟩,ax 32 28 31,ab 2 32]
def y4o:AFunc:=⟨33,[.t 2],jJ [1] y4o.r0 (jJ [2] y4o.r1 (.ret))⟩
theorem y4o.ok:y1v Tryz.prog Tryz.f7 y4o=true:=by kernel_rfl
theorem y4o.at:Tryz.prog.funcs[ybj]?=some Tryz.f7:=Tryz.func7
def y2q.r0:jI:=[af 2 0]
def y2q.r1:jI:=[af 3 2]
def y2q.r2:jI:=[ab 5 0,a2q 6 5 48,ab 7 6,ah 8 7 0,a2h 9 7 8 57,aj 10 7 9,ab 4 10]
def y2q.r3:jI:=[ab 12 0,a2q 13 12 65,ab 14 13,ah 15 14 0,a2h 16 14 15 90,aj 17 14 16,ab 11 17]
def y2q.r4:jI:=[ab 18 0,a2q 19 18 97,ab 20 19,ah 21 20 0,a2h 22 20 21 122,aj 23 20 22,ab 11 23]
def y2q.r5:jI:=[ab 24 0,a24 25 24 95,ab 11 25]
def y2q.r6:jI:=[af 3 1]
def y2q.r7:jI:=[ab 26 3,ab 2 26]
def y2q.r8:jI:=[af 2 0]
def y2q:AFunc:=⟨27,[.t 2],jJ [0] y2q.r0 (jJ [0,3] y2q.r1 (.seq (.post [] (.block 0 (.seq (.post [3] (.block 2 (.seq (.post [] (.block 1 (.seq (.seq (jJ [0,3,4] y2q.r2 (.post [0,3] (.cond (.t 4) (.exit 1) (.skip)))) (.seq (jJ [0,3,11] y2q.r3 (.post [3,11] (.cond (.t 11) (.skip) (jJ [0,3,11] y2q.r4 (.post [3,11] (.cond (.t 11) (.skip) (jK [3,11] y2q.r5))))))) (.post [] (.cond (.t 11) (.exit 2) (.skip))))) (.exit 0)))) (jK [3] y2q.r6)))) (.seq (jJ [2] y2q.r7 (.ret)) (.exit 0))))) (jJ [2] y2q.r8 (.ret))))⟩
theorem y2q.ok:y1v Tryz.prog Tryz.f114 y2q=true:=by kernel_rfl
theorem y2q.at:Tryz.prog.funcs[y94]?=some Tryz.f114:=Tryz.func114
def y1m.r0:jI:=[aw 2,aw 3]
def y1m.r1:jI:=[ab 7 0,a25 8 7]
def y1m.r2:jI:=[aw 2,aw 3]
def y1m.r3:jI:=[af 4 1]
def y1m.r4:jI:=[ab 9 0,a2r 10 9 0,⟨some 11,none,.call y94 [.t 10]⟩,a17 12 11 2]
def y1m.r5:jI:=[ab 13 0,⟨some 14,none,.call ygy [.t 13,.c (.s [48,49,50,51,52,53,54,55,56,57])]⟩,ab 5 14]
def y1m.r6:jI:=[ab 15 0,ab 16 0,a15 17 16,ab 18 5,a15 19 18,⟨some 20,none,.op (.bin .sub (.t 17) (.t 19))⟩,a1w 21 15 20,ab 22 5,ab 2 21,ab 3 22]
def y1m.r7:jI:=[ab 23 0,a15 24 23,af 25 0]
def y1m.r8:jI:=[ap 26 25 24]
def y1m.r9:jI:=[ab 27 25,ab 6 27]
def y1m.r10:jI:=[ab 28 0,ab 29 6,a1r 30 28 29,⟨some 31,none,.call y94 [.t 30]⟩,ab 32 4,ap 33 31 32]
def y1m.r11:jI:=[ab 34 0,ab 35 6,a1w 36 34 35,ab 37 0,ab 38 6,a26 39 37 38,ab 2 36,ab 3 39]
def y1m.r12:jI:=[ar 40 25 1,ab 25 40]
def y1m.l0:ACode:=jJ [0,4,24,25,26] y1m.r8 (.seq (.post [0,4,24,25] (.cond (.t 26) (.skip) (.exit 0))) (.seq (.post [0,4,24,25] (.block 1 (jJ [0,4,6,24,25] y1m.r9 (jJ [0,4,6,24,25,33] y1m.r10 (.post [0,4,24,25] (.cond (.t 33) (.seq (.post [2,3] (.draw [0,0,3,0,0,24,7,127] y1m.r11)) (.ret)) (.skip))))))) (jK [0,4,24,25] y1m.r12)))
def y1m.r13:jI:=[ab 41 0,ab 2 41,aw 3]
def y1m:AFunc:=⟨42,[.t 2,.t 3],jJ [0] y1m.r0 (.seq (jJ [0,8] y1m.r1 (.post [0] (.cond (.t 8) (jJ [2,3] y1m.r2 (.ret)) (.skip)))) (jJ [0,4] y1m.r3 (.seq (jJ [0,4,12] y1m.r4 (.post [0,4] (.cond (.t 12) (jJ [0,5] y1m.r5 (jJ [2,3] y1m.r6 (.ret))) (.skip)))) (.seq (jJ [0,4,24,25] y1m.r7 (.post [0] (.block 0 (.loop y1m.l0)))) (jJ [2,3] y1m.r13 (.ret))))))⟩
theorem y1m.ok:y1v Tryz.prog Tryz.f113 y1m=true:=by kernel_rfl
theorem y1m.at:Tryz.prog.funcs[ya9]?=some Tryz.f113:=Tryz.func113
def y4l.r0:jI:=[an 2]
def y4l.r1:jI:=[ab 6 0,⟨some 7,none,.call ya9 [.t 6]⟩,ab 5 7,ai 8 0 5,ai 9 1 5,ab 3 8,ab 4 9]
def y4l.r2:jI:=[ab 10 3,a1x 11 10,ab 12 11,ah 13 12 4,a3i 14 12 13,aj 15 12 14,ab 16 15,ah 17 16 0,a1n 18 16 17,a1y 19 16 18 16,aj 20 16 19,ab 21 20,ah 22 21 0,a2s 23 21 22 0,⟨some 24,(some (21,true)),.call y94 [.t 23]⟩,a1o 25 21 24 2,aj 26 21 25,ab 2 26]
def y4l:AFunc:=⟨27,[.t 2],jJ [0] y4l.r0 (jJ [0,3,4] y4l.r1 (jJ [2] y4l.r2 (.ret)))⟩
theorem y4l.ok:y1v Tryz.prog Tryz.f57 y4l=true:=by kernel_rfl
theorem y4l.at:Tryz.prog.funcs[y9u]?=some Tryz.f57:=Tryz.func57
def yw.r0:jI:=[af 6 0]
def yw.r1:jI:=[ab 10 0,am 11 10,af 12 0]
def yw.r2:jI:=[ap 13 12 11]
def yw.r3:jI:=[ab 14 12,av 15 3 10 12,a10 16 3 15,a2t 8 0 0,ab 7 14,ak 3 8 16]
def yw.r4:jI:=[ab 17 1,a10 18 3 8,a1f 19 17 18,ab 9 19]
def yw.r5:jI:=[ab 20 9,a17 21 20 0]
def yw.r6:jI:=[ab 22 9,ab 6 22]
def yw.r7:jI:=[ab 23 7,a19 24 23 0,ab 25 24,ah 26 25 2,ah 27 25 0,ah 28 25 7,a2a 29 25 28 1,a1k 30 25 3 27 29,a1j 31 25 3 30,a1j 32 25 3 8,a34 33 25 26 31 32,a2u 34 25 33 0,aj 35 25 34]
def yw.r8:jI:=[af 6 13]
def yw.r9:jI:=[ar 36 12 1,ab 12 36]
def yw.l0:ACode:=jJ [0,1,2,10,11,12,13] yw.r2 (.seq (.post [0,1,2,10,11,12] (.cond (.t 13) (.skip) (.exit 0))) (.seq (.post [0,1,2,10,11,12] (.block 1 (jJ [0,1,2,7,8,10,11,12] yw.r3 (.seq (jJ [0,1,2,7,8,9,10,11,12] yw.r4 (jJ [0,1,2,7,8,9,10,11,12,21] yw.r5 (.post [0,1,2,7,8,10,11,12] (.cond (.t 21) (jJ [6] yw.r6 (.ret)) (.skip))))) (.seq (.post [0,1,2,10,11,12,35] (.draw [0,1,3,7,7,7,39,119,247,7,1023,2047,4095] yw.r7)) (.post [0,1,2,10,11,12] (.cond (.t 35) (jJ [6] yw.r8 (.ret)) (.skip)))))))) (jK [0,1,2,10,11,12] yw.r9)))
def yw.r10:jI:=[af 6 0]
def yw:AFunc:=⟨37,[.t 6],jJ [0,1,2] yw.r0 (.seq (jJ [0,1,2,10,11,12] yw.r1 (.post [] (.block 0 (.loop yw.l0)))) (jJ [6] yw.r10 (.ret)))⟩
theorem yw.ok:y1v Tryz.prog Tryz.f115 yw=true:=by kernel_rfl
theorem yw.at:Tryz.prog.funcs[y9i]?=some Tryz.f115:=Tryz.func115
def y1d.r0:jI:=[af 2 0,af 3 0]
def y1d.r1:jI:=[ab 7 0,a25 8 7]
def y1d.r2:jI:=[af 2 0,af 3 1]
def y1d.r3:jI:=[ab 9 0,a15 10 9,af 11 0]
def y1d.r4:jI:=[ap 12 11 10]
def y1d.r5:jI:=[ab 13 11,ab 4 13]
def y1d.r6:jI:=[ab 14 0,ab 15 4,a1r 16 14 15,⟨some 17,none,.call y94 [.t 16]⟩,a17 18 17 1]
def y1d.r7:jI:=[af 2 0,af 3 3]
def y1d.r8:jI:=[ar 19 11 1,ab 11 19]
def y1d.l0:ACode:=jJ [0,10,11,12] y1d.r4 (.seq (.post [0,10,11] (.cond (.t 12) (.skip) (.exit 0))) (.seq (.post [0,10,11] (.block 1 (jJ [0,4,10,11] y1d.r5 (jJ [0,10,11,18] y1d.r6 (.post [0,10,11] (.cond (.t 18) (jJ [2,3] y1d.r7 (.ret)) (.skip))))))) (jK [0,10,11] y1d.r8)))
def y1d.r9:jI:=[ab 21 0,a2r 22 21 0,a24 23 22 48,ab 24 23,ah 25 24 0,a1n 26 24 25,a35 27 24 26 1,aj 28 24 27,ab 20 28]
def y1d.r10:jI:=[af 2 0,af 3 3]
def y1d.r11:jI:=[ab 30 0,a15 31 30,a19 32 31 9,ab 29 32]
def y1d.r12:jI:=[af 2 0,af 3 2]
def y1d.r13:jI:=[ab 34 0,⟨some 35,none,.call yk1 [.t 34]⟩,ab 33 35,ai 36 0 33,ai 37 1 33,ab 5 36,ab 6 37]
def y1d.r14:jI:=[ab 38 6,⟨some 39,none,.op (.eqk .ifn true (.t 38) (.c (.nifc)))⟩,ab 40 39,a14 41 40 5,a1d 42 40 41 268435456,ax 43 40 42]
def y1d.r15:jI:=[af 2 0,af 3 2]
def y1d.r16:jI:=[ab 44 5,ab 2 44,af 3 0]
def y1d:AFunc:=⟨45,[.t 2,.t 3],jJ [0] y1d.r0 (.seq (jJ [0,8] y1d.r1 (.post [0] (.cond (.t 8) (jJ [2,3] y1d.r2 (.ret)) (.skip)))) (.seq (jJ [0,10,11] y1d.r3 (.post [0] (.block 0 (.loop y1d.l0)))) (.seq (.post [0] (.block 2 (jJ [0,20] y1d.r9 (.post [0] (.cond (.t 20) (jJ [2,3] y1d.r10 (.ret)) (jJ [0,29] y1d.r11 (.post [0] (.cond (.t 29) (jJ [2,3] y1d.r12 (.ret)) (.skip))))))))) (jJ [5,6] y1d.r13 (.seq (jJ [5,43] y1d.r14 (.post [5] (.cond (.t 43) (jJ [2,3] y1d.r15 (.ret)) (.skip)))) (jJ [2,3] y1d.r16 (.ret)))))))⟩
theorem y1d.ok:y1v Tryz.prog Tryz.f220 y1d=true:=by kernel_rfl
theorem y1d.at:Tryz.prog.funcs[yek]?=some Tryz.f220:=Tryz.func220
def y55.r0:jI:=[af 2 0,an 3]
def y55.r1:jI:=[ab 7 0,⟨some 8,none,.call yek [.t 7]⟩,ab 6 8,ai 9 0 6,ai 10 1 6,ab 4 9,ab 5 10]
def y55.r2:jI:=[ab 11 4,ab 12 5,a12 13 12 0,ab 2 11,ab 3 13]
def y55:AFunc:=⟨14,[.t 2,.t 3],jJ [0] y55.r0 (jJ [4,5] y55.r1 (jJ [2,3] y55.r2 (.ret)))⟩
theorem y55.ok:y1v Tryz.prog Tryz.f202 y55=true:=by kernel_rfl
theorem y55.at:Tryz.prog.funcs[ya8]?=some Tryz.f202:=Tryz.func202
def yf.r0:jI:=[a1g 2 0 0 0 0,an 3]
def yf.r1:jI:=[⟨some 9,none,.op (.build [.i .i64 0,.s [],.i .i64 0,.s [],.i .i64 0,.i .i64 0] [(5,1,.c (.i .i64 (-1)))])⟩,a1g 4 0 0 0 0,ak 6 4 9]
def yf.r2:jI:=[a1b 5]
def yf.r3:jI:=[ab 10 0,⟨some 11,none,.call ycy [.t 10,.c (.i .u8 43)]⟩,ab 6 11]
def yf.r4:jI:=[ab 12 6,a1c 13 12 0]
def yf.r5:jI:=[ab 15 0,ab 16 6,ar 17 16 1,a26 18 15 17,⟨some 19,none,.call ya8 [.t 18]⟩,ab 14 19,ai 20 0 14,ai 21 1 14,ae 22 5 4,ak 1 22 20,ab 5 21]
def yf.r6:jI:=[ab 23 5,a1a 24 23]
def yf.r7:jI:=[a10 25 6 4,ak 6 2 25,an 3]
def yf.r8:jI:=[ab 26 0,ab 27 6,a1w 28 26 27,ab 0 28]
def yf.r9:jI:=[ab 30 0,⟨some 31,none,.call ya9 [.t 30]⟩,ab 29 31,ai 32 0 29,ai 33 1 29,ab 7 32,ab 8 33]
def yf.r10:jI:=[ab 34 8,a25 35 34]
def yf.r11:jI:=[ab 36 7,ae 37 0 4,a2b 1 37 5,ae 38 3 4,ak 1 38 36]
def yf.r12:jI:=[a10 39 6 4,ak 6 2 39,a1b 3]
def yf.r13:jI:=[ab 40 7,ae 41 1 4,ak 1 41 40]
def yf.r14:jI:=[ab 42 8,a2r 43 42 0,a24 44 43 126]
def yf.r15:jI:=[ab 46 8,a2v 47 46 1,⟨some 48,none,.call ya9 [.t 47]⟩,ab 45 48,ai 49 0 45,ai 50 1 45,ab 7 49,ab 8 50]
def yf.r16:jI:=[ab 52 7,⟨some 53,none,.call ya8 [.t 52]⟩,ab 51 53,ai 54 0 51,ai 55 1 51,ae 56 2 4,ak 1 56 54,ab 5 55]
def yf.r17:jI:=[ab 57 5,a1a 58 57,ab 59 58,a14 60 59 8,⟨some 61,(some (59,false)),.op (.bin .eql (.t 60) (.c (.s [])))⟩,ax 62 59 61]
def yf.r18:jI:=[a10 63 6 4,ak 6 2 63,an 3]
def yf.r19:jI:=[ab 64 8,a2r 65 64 0,⟨some 66,none,.call ycy [.c (.s [32,46,36,64,40,32,37,35]),.t 65]⟩,ae 67 0 4,ak 1 67 66]
def yf.r20:jI:=[ab 68 8,a2v 69 68 1,ab 8 69]
def yf.r21:jI:=[ae 70 0 4,ac 71 1 70]
def yf.r22:jI:=[a12 73 71 1,ab 72 73]
def yf.r23:jI:=[a12 74 71 6,ab 72 74]
def yf.r24:jI:=[ab 75 8,ae 76 3 4,ak 1 76 75]
def yf.r25:jI:=[a12 78 71 4,ab 77 78]
def yf.r26:jI:=[a10 79 6 4,ab 80 8,a36 81 80 41,ak 6 2 79,ab 3 81]
def yf.r27:jI:=[a12 83 71 2,ab 82 83]
def yf.r28:jI:=[a12 84 71 3,ab 82 84]
def yf.r29:jI:=[a12 85 71 7,ab 82 85]
def yf.r30:jI:=[ab 87 8,⟨some 88,none,.call ya8 [.t 87]⟩,ab 86 88,ai 89 0 86,ai 90 1 86,ae 91 4 4,ak 1 91 89,ab 5 90]
def yf.r31:jI:=[an 5]
def yf.r32:jI:=[a10 92 6 4,ab 93 5,ak 6 2 92,ab 3 93]
def yf:AFunc:=⟨94,[.cell 2 true 6,.t 3],jJ [0,2] yf.r0 (jJ [0,2,4] yf.r1 (jJ [0,2,4,5] yf.r2 (.seq (jJ [0,2,4,5,6] yf.r3 (jJ [0,2,4,5,6,13] yf.r4 (.post [0,2,4,5] (.cond (.t 13) (.seq (jJ [0,2,4,5,6] yf.r5 (jJ [0,2,4,5,6,24] yf.r6 (.post [0,2,4,5,6] (.cond (.t 24) (jJ [2,3] yf.r7 (.ret)) (.skip))))) (jK [0,2,4,5] yf.r8)) (.skip))))) (jJ [2,4,5,7,8] yf.r9 (.seq (jJ [2,4,5,7,8,35] yf.r10 (.post [2,4,5,7,8] (.cond (.t 35) (jJ [2,4] yf.r11 (jJ [2,3] yf.r12 (.ret))) (.skip)))) (jJ [2,4,5,8] yf.r13 (.seq (jJ [2,4,5,8,44] yf.r14 (.post [2,4,5,8] (.cond (.t 44) (jJ [2,4,7,8] yf.r15 (jJ [2,4,5,8] yf.r16 (jJ [2,4,5,8,62] yf.r17 (.post [2,4,5,8] (.cond (.t 62) (jJ [2,3] yf.r18 (.ret)) (.skip)))))) (.skip)))) (jJ [2,4,5,8] yf.r19 (.seq (jJ [2,4,5,8] yf.r20 (jJ [2,4,5,8,71] yf.r21 (.post [2,4,5] (.block 0 (.seq (jJ [2,4,5,8,71,72] yf.r22 (.post [2,4,5,8,71,72] (.cond (.t 72) (.skip) (jK [2,4,5,8,71,72] yf.r23)))) (.post [2,4,5] (.cond (.t 72) (jK [2,4,5] yf.r24) (jJ [2,4,8,71,77] yf.r25 (.post [2,4,5] (.cond (.t 77) (jJ [2,3] yf.r26 (.ret)) (.seq (jJ [2,4,8,71,82] yf.r27 (.post [2,4,8,82] (.cond (.t 82) (.skip) (jJ [2,4,8,71,82] yf.r28 (.post [2,4,8,82] (.cond (.t 82) (.skip) (jK [2,4,8,82] yf.r29))))))) (.post [2,4,5] (.cond (.t 82) (jK [2,4,5] yf.r30) (jK [2,4,5] yf.r31)))))))))))))) (jJ [2,3] yf.r32 (.ret)))))))))))⟩
theorem yf.ok:y1v Tryz.prog Tryz.f177 yf=true:=by kernel_rfl
theorem yf.at:Tryz.prog.funcs[yf7]?=some Tryz.f177:=Tryz.func177
def y3x.r0:jI:=[a16 1 0,an 2]
def y3x.r1:jI:=[ae 3 5 1,ac 4 1 3,a1c 5 4 (-1),ab 6 5,a13 7 6 5 1,a11 8 6 1 7,a1y 9 6 8 268435456,aj 10 6 9,ab 2 10]
def y3x:AFunc:=⟨11,[.t 2],jJ [1] y3x.r0 (jJ [2] y3x.r1 (.ret))⟩
theorem y3x.ok:y1v Tryz.prog Tryz.f203 y3x=true:=by kernel_rfl
theorem y3x.at:Tryz.prog.funcs[y7r]?=some Tryz.f203:=Tryz.func203
def y5.r0:jI:=[a16 1 0,an 2]
def y5.r1:jI:=[a10 5 6 1,a1g 3 0 0 0 0,ak 6 3 5]
def y5.r2:jI:=[ae 6 0 3,a2b 1 6 0,ae 7 1 3,⟨none,none,.op (.store 1 (.t 7) (.c (.s [])))⟩,ae 8 2 3,a2b 1 8 0]
def y5.r3:jI:=[ae 9 0 1,ac 10 1 9,a17 11 10 5,ab 12 11,a13 13 12 1 1,a11 14 12 1 13,⟨some 15,(some (12,true)),.call y9u [.t 14]⟩,a1u 16 12 15,ah 17 12 16,az 18 17 2 1,ay 19 17 1 18,a2w 20 17 19 0,a1h 21 12 17 20,ah 22 12 21,az 23 22 2 1,ay 24 22 1 23,a1d 25 22 24 268435456,a1h 26 12 22 25,aj 27 12 26]
def y5.r4:jI:=[an 2]
def y5.r5:jI:=[af 4 0]
def y5.r6:jI:=[ae 28 0 1,ac 29 1 28]
def y5.r7:jI:=[a12 31 29 5,ab 30 31]
def y5.r8:jI:=[a12 33 29 6,ab 32 33]
def y5.r9:jI:=[a12 35 29 1,ab 34 35]
def y5.r10:jI:=[a12 37 29 7,ab 36 37]
def y5.r11:jI:=[a12 39 29 4,ab 38 39]
def y5.r12:jI:=[a12 41 29 3,ab 40 41]
def y5.r13:jI:=[a12 43 29 2,ab 42 43]
def y5.r14:jI:=[ae 44 1 1,ac 45 1 44,a1x 46 45,ab 47 46,az 48 47 2 1,ay 49 47 1 48,a27 50 47 49 0,ax 51 47 50]
def y5.r15:jI:=[an 2]
def y5.r16:jI:=[ae 52 3 1,ac 53 1 52,⟨some 54,none,.call y9u [.t 53]⟩,ab 55 54,a1j 56 55 6 3,a13 57 55 3 1,a11 58 55 1 57,a13 59 55 5 1,a11 60 55 1 59,⟨some 61,(some (55,true)),.op (.build [.i .i64 0,.s [],.i .i64 0,.s [],.i .i64 0,.i .i64 0] [(3,1,.t 58),(5,1,.t 60)])⟩,a38 62 55 0 1 0 1 0 0 56 61,aj 63 55 62,ab 64 63,a1j 65 64 6 1,⟨some 66,(some (64,true)),.call y7r [.t 65]⟩,aj 67 64 66,ab 2 67]
def y5.r17:jI:=[ae 68 3 1,ac 69 1 68,⟨some 70,none,.call y9u [.t 69]⟩,ab 71 70,a1j 72 71 6 3,a13 73 71 3 1,a11 74 71 1 73,⟨some 75,(some (71,true)),.op (.build [.i .i64 0,.s [],.i .i64 0,.s [],.i .i64 0,.i .i64 0] [(3,1,.t 74),(5,1,.c (.i .i64 (-1)))])⟩,a38 76 71 0 1 0 1 0 0 72 75,aj 77 71 76,ab 2 77]
def y5.r18:jI:=[ae 78 4 1,ac 79 1 78,a1c 80 79 1,ab 81 80,a13 82 81 4 1,a11 83 81 1 82,a1y 84 81 83 268435456,aj 85 81 84,ab 86 85,a1j 87 86 6 3,a13 88 86 4 1,a11 89 86 1 88,a13 90 86 5 1,a11 91 86 1 90,⟨some 92,(some (86,true)),.op (.build [.i .i64 0,.s [],.i .i64 0,.s [],.i .i64 0,.i .i64 0] [(4,1,.t 89),(5,1,.t 91)])⟩,a38 93 86 0 1 0 1 0 0 87 92,aj 94 86 93,ab 95 94,a1j 96 95 6 1,⟨some 97,(some (95,true)),.call y7r [.t 96]⟩,aj 98 95 97,ab 2 98]
def y5.r19:jI:=[a10 99 6 3,⟨some 100,none,.op (.build [.i .i64 0,.s [],.i .i64 0,.s [],.i .i64 0,.i .i64 0] [(5,1,.c (.i .i64 (-1)))])⟩,⟨some 101,none,.op (.eqa false [0,1,0,1,0,0] (.t 99) (.t 100))⟩,ab 2 101]
def y5.r20:jI:=[af 4 1]
def y5.r21:jI:=[ae 102 4 1,ac 103 1 102,ab 104 4,a39 105 103 104,ab 106 105,a13 107 106 4 1,a11 108 106 1 107,a1y 109 106 108 268435456,aj 110 106 109,ab 111 110,a1j 112 111 6 3,a13 113 111 4 1,a11 114 111 1 113,⟨some 115,(some (111,true)),.op (.build [.i .i64 0,.s [],.i .i64 0,.s [],.i .i64 0,.i .i64 0] [(4,1,.t 114),(5,1,.c (.i .i64 (-1)))])⟩,a38 116 111 0 1 0 1 0 0 112 115,aj 117 111 116,ab 2 117]
def y5.r22:jI:=[an 2]
def y5:AFunc:=⟨118,[.t 2],jJ [1] y5.r0 (jJ [1,3] y5.r1 (jJ [1,3] y5.r2 (.seq (jJ [1,3,27] y5.r3 (.post [1,3] (.cond (.t 27) (jJ [2] y5.r4 (.ret)) (.skip)))) (jJ [1,3,4] y5.r5 (.seq (jJ [1,3,4,29] y5.r6 (.post [] (.block 0 (.seq (.post [1,3,4] (.block 7 (.seq (.post [1,3] (.block 6 (.seq (.post [3] (.block 5 (.seq (.post [1,3] (.block 4 (.seq (.post [1,3] (.block 3 (.seq (.post [1,3] (.block 2 (.seq (.post [1,3] (.block 1 (.seq (.seq (jJ [1,3,4,29,30] y5.r7 (.post [1,3,4,29] (.cond (.t 30) (.exit 1) (.skip)))) (.seq (jJ [1,3,4,29,32] y5.r8 (.post [1,3,4,29] (.cond (.t 32) (.exit 2) (.skip)))) (.seq (jJ [1,3,4,29,34] y5.r9 (.post [1,3,4,29] (.cond (.t 34) (.exit 3) (.skip)))) (.seq (jJ [1,3,4,29,36] y5.r10 (.post [1,3,4,29] (.cond (.t 36) (.exit 4) (.skip)))) (.seq (jJ [1,3,4,29,38] y5.r11 (.post [1,3,4,29] (.cond (.t 38) (.exit 5) (.skip)))) (.seq (jJ [1,3,4,29,40] y5.r12 (.post [1,3,4,29] (.cond (.t 40) (.exit 6) (.skip)))) (jJ [1,3,4,42] y5.r13 (.post [] (.cond (.t 42) (.exit 7) (.skip)))))))))) (.exit 0)))) (jJ [1,3,51] y5.r14 (.post [1,3] (.cond (.t 51) (jJ [2] y5.r15 (.ret)) (.skip))))))) (.seq (jJ [2] y5.r16 (.ret)) (.exit 0))))) (.seq (jJ [2] y5.r17 (.ret)) (.exit 0))))) (.seq (jJ [2] y5.r18 (.ret)) (.exit 0))))) (.seq (jJ [2] y5.r19 (.ret)) (.exit 0))))) (jK [1,3,4] y5.r20)))) (.seq (jJ [2] y5.r21 (.ret)) (.exit 0)))))) (jJ [2] y5.r22 (.ret)))))))⟩
theorem y5.ok:y1v Tryz.prog Tryz.f178 y5=true:=by kernel_rfl
theorem y5.at:Tryz.prog.funcs[yb0]?=some Tryz.f178:=Tryz.func178
def y4b.r0:jI:=[a1g 2 0 0 0 0,af 3 0]
def y4b.r1:jI:=[ab 7 0,⟨some 8,none,.call yf7 [.t 7]⟩,ab 6 8,ai 9 0 6,ai 10 1 6,a1g 4 0 0 0 0,ak 6 4 9,ab 5 10]
def y4b.r2:jI:=[ab 11 5,a1a 12 11,ab 13 12,a33 14 13 6 4,⟨some 15,(some (13,false)),.call yb0 [.t 14]⟩,a1z 16 13 15,ax 17 13 16,ab 18 17,a33 19 18 6 4,⟨some 20,(some (18,false)),.call ygz [.t 19]⟩,a14 21 18 0,a3j 22 18 20 21,ax 23 18 22]
def y4b.r3:jI:=[⟨some 24,none,.op (.build [.i .i64 0,.s [],.i .i64 0,.s [],.i .i64 0,.i .i64 0] [])⟩,ak 6 2 24,af 3 11]
def y4b.r4:jI:=[a10 25 6 4,ak 6 2 25,af 3 0]
def y4b:AFunc:=⟨26,[.cell 2 true 6,.t 3],jJ [0,2] y4b.r0 (jJ [0,2,4,5] y4b.r1 (.seq (jJ [2,4,23] y4b.r2 (.post [2,4] (.cond (.t 23) (jJ [2,3] y4b.r3 (.ret)) (.skip)))) (jJ [2,3] y4b.r4 (.ret))))⟩
theorem y4b.ok:y1v Tryz.prog Tryz.f128 y4b=true:=by kernel_rfl
theorem y4b.at:Tryz.prog.funcs[y9k]?=some Tryz.f128:=Tryz.func128
def y4h.r0:jI:=[an 4]
def y4h.r1:jI:=[ab 5 0,⟨some 6,none,.call yg4 [.t 5,.c (.s [105,112])]⟩,a25 7 6,ab 8 7,ah 9 8 0,a1n 10 8 9,ah 11 8 1,a3k 12 8 10 11,aj 13 8 12,ab 4 13]
def y4h:AFunc:=⟨14,[.t 4],jJ [0,1] y4h.r0 (jJ [4] y4h.r1 (.ret))⟩
theorem y4h.ok:y1v Tryz.prog Tryz.f168 y4h=true:=by kernel_rfl
theorem y4h.at:Tryz.prog.funcs[y7i]?=some Tryz.f168:=Tryz.func168
def y4p.r0:jI:=[an 2]
def y4p.r1:jI:=[ab 3 0,a1x 4 3,ab 5 4,ah 6 5 0,a1n 7 5 6,a1y 8 5 7 60,aj 9 5 8,ab 2 9]
def y4p:AFunc:=⟨10,[.t 2],jJ [0] y4p.r0 (jJ [2] y4p.r1 (.ret))⟩
theorem y4p.ok:y1v Tryz.prog Tryz.f169 y4p=true:=by kernel_rfl
theorem y4p.at:Tryz.prog.funcs[y9r]?=some Tryz.f169:=Tryz.func169
def yk.r0:jI:=[a16 3 1,af 4 0]
def yk.r1:jI:=[ab 6 0,am 7 6,af 8 0]
def yk.r2:jI:=[ap 9 8 7]
def yk.r3:jI:=[ab 10 8,ab 5 10]
def yk.r4:jI:=[a10 11 2 3,ab 12 0,ab 13 5,av 14 2 12 13,a10 15 2 14,⟨some 16,none,.op (.eqa false [0,1] (.t 11) (.t 15))⟩]
def yk.r5:jI:=[ab 17 5,ab 4 17]
def yk.r6:jI:=[ar 18 8 1,ab 8 18]
def yk.l0:ACode:=jJ [0,3,7,8,9] yk.r2 (.seq (.post [0,3,7,8] (.cond (.t 9) (.skip) (.exit 0))) (.seq (.post [0,3,7,8] (.block 1 (jJ [0,3,5,7,8] yk.r3 (.seq (.post [0,3,5,7,8,16] (.draw [0,0,0,6,14,31] yk.r4)) (.post [0,3,7,8] (.cond (.t 16) (jJ [4] yk.r5 (.ret)) (.skip))))))) (jK [0,3,7,8] yk.r6)))
def yk.r7:jI:=[af 4 (-1)]
def yk:AFunc:=⟨19,[.t 4],jJ [0,3] yk.r0 (.seq (jJ [0,3,7,8] yk.r1 (.post [] (.block 0 (.loop yk.l0)))) (jJ [4] yk.r7 (.ret)))⟩
theorem yk.ok:y1v Tryz.prog Tryz.f197 yk=true:=by kernel_rfl
theorem yk.at:Tryz.prog.funcs[y6h]?=some Tryz.f197:=Tryz.func197
def y2m.r0:jI:=[a16 3 1,an 4]
def y2m.r1:jI:=[ab 5 0,a10 6 2 3,⟨some 7,none,.call y6h [.t 5,.t 6]⟩,a1c 8 7 0,ab 4 8]
def y2m:AFunc:=⟨9,[.t 4],jJ [0,3] y2m.r0 (jJ [4] y2m.r1 (.ret))⟩
theorem y2m.ok:y1v Tryz.prog Tryz.f170 y2m=true:=by kernel_rfl
theorem y2m.at:Tryz.prog.funcs[y5l]?=some Tryz.f170:=Tryz.func170
def y14.r0:jI:=[a16 1 0,af 2 0]
def y14.r1:jI:=[ae 9 0 1,ac 10 1 9,⟨some 11,none,.call y9k [.t 10]⟩,ab 8 11,ai 12 0 8,ai 13 1 8,a1g 3 0 0 0 0,ak 6 3 12,ab 4 13]
def y14.r2:jI:=[ab 15 4,a17 16 15 0,ab 17 16,az 18 17 0 3,ay 19 17 1 18,a2w 20 17 19 5,ax 21 17 20,ab 22 21,az 23 22 5 3,ay 24 22 1 23,a2i 25 22 24 0,ax 26 22 25,ab 14 26]
def y14.r3:jI:=[af 2 11]
def y14.r4:jI:=[ae 28 1 1,ac 29 1 28,a25 30 29,ab 31 30,az 32 31 1 1,ay 33 31 1 32,⟨some 34,(some (31,false)),.call y7i [.t 33,.c (.i .i64 64)]⟩,a1z 35 31 34,ax 36 31 35,ab 27 36]
def y14.r5:jI:=[af 2 5]
def y14.r6:jI:=[af 5 0]
def y14.r7:jI:=[ae 37 2 1,ac 38 1 37,am 39 38,af 40 0]
def y14.r8:jI:=[ap 41 40 39]
def y14.r9:jI:=[ab 42 40,av 43 2 38 40,a10 44 2 43,a3a 7 0,ab 6 42,ak 2 7 44]
def y14.r10:jI:=[ae 45 0 7,ac 46 1 45,ab 47 5,ap 48 46 47,ab 49 48,az 50 49 0 7,ay 51 49 1 50,az 52 49 1 1,ay 53 49 1 52,a1t 54 49 53,⟨some 55,(some (49,false)),.op (.bin .geq (.t 51) (.t 54))⟩,ax 56 49 55,ab 57 56,az 58 57 1 7,ay 59 57 1 58,⟨some 60,(some (57,false)),.call y9r [.t 59]⟩,a1z 61 57 60,ax 62 57 61,ab 63 62,az 64 63 2 1,ay 65 63 1 64,a14 66 63 6,⟨some 67,(some (63,false)),.op (.slc 2 (.t 65) none (some (.t 66)))⟩,a33 68 63 2 7,⟨some 69,(some (63,false)),.call y5l [.t 67,.t 68]⟩,ax 70 63 69]
def y14.r11:jI:=[af 2 3]
def y14.r12:jI:=[ae 71 0 7,ac 72 1 71,ab 5 72]
def y14.r13:jI:=[ar 73 40 1,ab 40 73]
def y14.l0:ACode:=jJ [1,5,38,39,40,41] y14.r8 (.seq (.post [1,5,38,39,40] (.cond (.t 41) (.skip) (.exit 1))) (.seq (.post [1,5,38,39,40] (.block 2 (jJ [1,5,6,7,38,39,40] y14.r9 (.seq (.seq (.post [1,7,38,39,40,70] (.draw [0,1,0,7,15,31,63,31,159,415,1023,2047,4095,8191,16383,32767,65535,131071,262143,524287,1048575,524287,4194303,524287,16777215,33554431] y14.r10)) (.post [1,7,38,39,40] (.cond (.t 70) (jJ [2] y14.r11 (.ret)) (.skip)))) (jK [1,5,38,39,40] y14.r12))))) (jK [1,5,38,39,40] y14.r13)))
def y14.r14:jI:=[af 2 0]
def y14:AFunc:=⟨74,[.t 2],jJ [1] y14.r0 (jJ [1,3,4] y14.r1 (.seq (.post [1] (.block 0 (jJ [1,14] y14.r2 (.post [1] (.cond (.t 14) (jJ [2] y14.r3 (.ret)) (jJ [1,27] y14.r4 (.post [1] (.cond (.t 27) (jJ [2] y14.r5 (.ret)) (.skip))))))))) (jJ [1,5] y14.r6 (.seq (jJ [1,5,38,39,40] y14.r7 (.post [] (.block 1 (.loop y14.l0)))) (jJ [2] y14.r14 (.ret))))))⟩
theorem y14.ok:y1v Tryz.prog Tryz.f116 y14=true:=by kernel_rfl
theorem y14.at:Tryz.prog.funcs[y9h]?=some Tryz.f116:=Tryz.func116
def y4s.r0:jI:=[an 2]
def y4s.r1:jI:=[ab 3 0,ab 4 0,a2j 5 3 4,ab 2 5]
def y4s:AFunc:=⟨6,[.t 2],jJ [0] y4s.r0 (jJ [2] y4s.r1 (.ret))⟩
theorem y4s.ok:y1v Tryz.prog Tryz.f198 y4s=true:=by kernel_rfl
theorem y4s.at:Tryz.prog.funcs[y70]?=some Tryz.f198:=Tryz.func198
def yz.r0:jI:=[af 4 0]
def yz.r1:jI:=[ab 7 0,⟨some 8,none,.call y70 [.t 7]⟩,ab 5 8]
def yz.r2:jI:=[ab 9 1,⟨some 10,none,.call y70 [.t 9]⟩,ab 6 10]
def yz.r3:jI:=[ab 11 5]
def yz.r4:jI:=[ab 12 6]
def yz.r5:jI:=[af 4 0]
def yz.r6:jI:=[af 4 (-1)]
def yz.r7:jI:=[ab 13 6]
def yz.r8:jI:=[af 4 1]
def yz.r9:jI:=[ab 14 0,ab 15 1,ap 16 14 15]
def yz.r10:jI:=[af 4 (-1)]
def yz.r11:jI:=[ab 17 0,ab 18 1,a2f 19 17 18]
def yz.r12:jI:=[af 4 1]
def yz.r13:jI:=[af 4 0]
def yz:AFunc:=⟨20,[.t 4],jJ [0,1] yz.r0 (jJ [0,1,5] yz.r1 (jJ [0,1,5,6] yz.r2 (.seq (jJ [0,1,6,11] yz.r3 (.post [0,1,6] (.cond (.t 11) (.seq (jJ [12] yz.r4 (.post [] (.cond (.t 12) (jJ [4] yz.r5 (.ret)) (.skip)))) (jJ [4] yz.r6 (.ret))) (.skip)))) (.seq (jJ [0,1,13] yz.r7 (.post [0,1] (.cond (.t 13) (jJ [4] yz.r8 (.ret)) (.skip)))) (.seq (jJ [0,1,16] yz.r9 (.post [0,1] (.cond (.t 16) (jJ [4] yz.r10 (.ret)) (.skip)))) (.seq (jJ [19] yz.r11 (.post [] (.cond (.t 19) (jJ [4] yz.r12 (.ret)) (.skip)))) (jJ [4] yz.r13 (.ret))))))))⟩
theorem yz.ok:y1v Tryz.prog Tryz.f171 yz=true:=by kernel_rfl
theorem yz.at:Tryz.prog.funcs[y5f]?=some Tryz.f171:=Tryz.func171
def y5m.r0:jI:=[a16 2 0,a16 3 1,af 4 0]
def y5m.r1:jI:=[ae 5 0 2,ac 6 1 5,ae 7 0 3,ac 8 1 7,⟨some 9,none,.call y5f [.t 6,.t 8]⟩,ab 4 9]
def y5m:AFunc:=⟨10,[.t 4],jJ [2,3] y5m.r0 (jJ [4] y5m.r1 (.ret))⟩
theorem y5m.ok:y1v Tryz.prog Tryz.f117 y5m=true:=by kernel_rfl
theorem y5m.at:Tryz.prog.funcs[ya7]?=some Tryz.f117:=Tryz.func117
def y11.r0:jI:=[af 6 0]
def y11.r1:jI:=[ab 10 0,am 11 10,af 12 0]
def y11.r2:jI:=[ap 13 12 11]
def y11.r3:jI:=[ab 14 12,av 15 3 10 12,a10 16 3 15,a2x 8,ab 7 14,ak 3 8 16]
def y11.r4:jI:=[ab 17 1,a10 18 3 8,a1f 19 17 18,ab 9 19]
def y11.r5:jI:=[ab 20 9,a17 21 20 0]
def y11.r6:jI:=[ab 22 9,ab 6 22]
def y11.r7:jI:=[ab 23 7,a19 24 23 0,ab 25 24,ah 26 25 2,ah 27 25 0,ah 28 25 7,a2a 29 25 28 1,a1k 30 25 3 27 29,a1j 31 25 3 30,a1j 32 25 3 8,a34 33 25 26 31 32,a2u 34 25 33 0,aj 35 25 34]
def y11.r8:jI:=[af 6 13]
def y11.r9:jI:=[ar 36 12 1,ab 12 36]
def y11.l0:ACode:=jJ [0,1,2,10,11,12,13] y11.r2 (.seq (.post [0,1,2,10,11,12] (.cond (.t 13) (.skip) (.exit 0))) (.seq (.post [0,1,2,10,11,12] (.block 1 (jJ [0,1,2,7,8,10,11,12] y11.r3 (.seq (jJ [0,1,2,7,8,9,10,11,12] y11.r4 (jJ [0,1,2,7,8,9,10,11,12,21] y11.r5 (.post [0,1,2,7,8,10,11,12] (.cond (.t 21) (jJ [6] y11.r6 (.ret)) (.skip))))) (.seq (.post [0,1,2,10,11,12,35] (.draw [0,1,3,7,7,7,39,119,247,7,1023,2047,4095] y11.r7)) (.post [0,1,2,10,11,12] (.cond (.t 35) (jJ [6] y11.r8 (.ret)) (.skip)))))))) (jK [0,1,2,10,11,12] y11.r9)))
def y11.r10:jI:=[af 6 0]
def y11:AFunc:=⟨37,[.t 6],jJ [0,1,2] y11.r0 (.seq (jJ [0,1,2,10,11,12] y11.r1 (.post [] (.block 0 (.loop y11.l0)))) (jJ [6] y11.r10 (.ret)))⟩
theorem y11.ok:y1v Tryz.prog Tryz.f118 y11=true:=by kernel_rfl
theorem y11.at:Tryz.prog.funcs[ya2]?=some Tryz.f118:=Tryz.func118
def y25.r0:jI:=[a16 1 0,af 2 0]
def y25.r1:jI:=[ae 6 0 1,ac 7 1 6,⟨some 8,none,.call y9k [.t 7]⟩,ab 5 8,ai 9 0 5,ai 10 1 5,a1g 3 0 0 0 0,ak 6 3 9,ab 4 10]
def y25.r2:jI:=[ab 12 4,a17 13 12 0,ab 14 13,az 15 14 0 3,ay 16 14 1 15,a27 17 14 16 4,ax 18 14 17,ab 11 18]
def y25.r3:jI:=[af 2 11]
def y25.r4:jI:=[ae 20 1 1,ac 21 1 20,⟨some 22,none,.call y7i [.t 21,.c (.i .i64 6)]⟩,a1a 23 22,ab 24 23,az 25 24 2 1,ay 26 24 1 25,⟨some 27,(some (24,false)),.op (.bin .neq (.t 26) (.c (.s [105])))⟩,a14 28 24 27,a13 29 28 2 1,a11 30 28 1 29,a2k 31 28 30 112,a1e 32 24 28 31,a14 33 24 32,a13 34 33 2 1,a11 35 33 1 34,a2k 36 33 35 118,a1e 37 24 33 36,ax 38 24 37,ab 19 38]
def y25.r5:jI:=[af 2 5]
def y25.r6:jI:=[af 2 0]
def y25:AFunc:=⟨39,[.t 2],jJ [1] y25.r0 (jJ [1,3,4] y25.r1 (.seq (.post [] (.block 0 (jJ [1,11] y25.r2 (.post [] (.cond (.t 11) (jJ [2] y25.r3 (.ret)) (jJ [19] y25.r4 (.post [] (.cond (.t 19) (jJ [2] y25.r5 (.ret)) (.skip))))))))) (jJ [2] y25.r6 (.ret))))⟩
theorem y25.ok:y1v Tryz.prog Tryz.f119 y25=true:=by kernel_rfl
theorem y25.at:Tryz.prog.funcs[y8o]?=some Tryz.f119:=Tryz.func119
def y5u.r0:jI:=[a16 2 0,a16 3 1,af 4 0]
def y5u.r1:jI:=[ae 5 0 2,ac 6 1 5,ae 7 0 3,ac 8 1 7,⟨some 9,none,.call y5f [.t 6,.t 8]⟩,ab 4 9]
def y5u:AFunc:=⟨10,[.t 4],jJ [2,3] y5u.r0 (jJ [4] y5u.r1 (.ret))⟩
theorem y5u.ok:y1v Tryz.prog Tryz.f120 y5u=true:=by kernel_rfl
theorem y5u.at:Tryz.prog.funcs[yau]?=some Tryz.f120:=Tryz.func120
def yx.r0:jI:=[af 6 0]
def yx.r1:jI:=[ab 10 0,am 11 10,af 12 0]
def yx.r2:jI:=[ap 13 12 11]
def yx.r3:jI:=[ab 14 12,av 15 6 10 12,a10 16 6 15,a2g 8 0 0 0 0,ab 7 14,ak 6 8 16]
def yx.r4:jI:=[ab 17 1,a10 18 6 8,a1f 19 17 18,ab 9 19]
def yx.r5:jI:=[ab 20 9,a17 21 20 0]
def yx.r6:jI:=[ab 22 9,ab 6 22]
def yx.r7:jI:=[ab 23 7,a19 24 23 0,ab 25 24,ah 26 25 2,ah 27 25 0,ah 28 25 7,a2a 29 25 28 1,a1k 30 25 6 27 29,a1j 31 25 6 30,a1j 32 25 6 8,a34 33 25 26 31 32,a2u 34 25 33 0,aj 35 25 34]
def yx.r8:jI:=[af 6 13]
def yx.r9:jI:=[ar 36 12 1,ab 12 36]
def yx.l0:ACode:=jJ [0,1,2,10,11,12,13] yx.r2 (.seq (.post [0,1,2,10,11,12] (.cond (.t 13) (.skip) (.exit 0))) (.seq (.post [0,1,2,10,11,12] (.block 1 (jJ [0,1,2,7,8,10,11,12] yx.r3 (.seq (jJ [0,1,2,7,8,9,10,11,12] yx.r4 (jJ [0,1,2,7,8,9,10,11,12,21] yx.r5 (.post [0,1,2,7,8,10,11,12] (.cond (.t 21) (jJ [6] yx.r6 (.ret)) (.skip))))) (.seq (.post [0,1,2,10,11,12,35] (.draw [0,1,3,7,7,7,39,119,247,7,1023,2047,4095] yx.r7)) (.post [0,1,2,10,11,12] (.cond (.t 35) (jJ [6] yx.r8 (.ret)) (.skip)))))))) (jK [0,1,2,10,11,12] yx.r9)))
def yx.r10:jI:=[af 6 0]
def yx:AFunc:=⟨37,[.t 6],jJ [0,1,2] yx.r0 (.seq (jJ [0,1,2,10,11,12] yx.r1 (.post [] (.block 0 (.loop yx.l0)))) (jJ [6] yx.r10 (.ret)))⟩
theorem yx.ok:y1v Tryz.prog Tryz.f121 yx=true:=by kernel_rfl
theorem yx.at:Tryz.prog.funcs[y9j]?=some Tryz.f121:=Tryz.func121
def y4u.r0:jI:=[an 2]
def y4u.r1:jI:=[ab 6 0,⟨some 7,none,.call y9k [.t 6]⟩,ab 5 7,ai 8 0 5,ai 9 1 5,a1g 3 0 0 0 0,ak 6 3 8,ab 4 9]
def y4u.r2:jI:=[ab 10 4,a12 11 10 0,ab 12 11,a13 13 12 0 3,a11 14 12 1 13,a1y 15 12 14 3,ah 16 12 15,az 17 16 5 3,ay 18 16 1 17,a2i 19 16 18 0,a1h 20 12 16 19,aj 21 12 20,ab 2 21]
def y4u:AFunc:=⟨22,[.t 2],jJ [0] y4u.r0 (jJ [3,4] y4u.r1 (jJ [2] y4u.r2 (.ret)))⟩
theorem y4u.ok:y1v Tryz.prog Tryz.f70 y4u=true:=by kernel_rfl
theorem y4u.at:Tryz.prog.funcs[y84]?=some Tryz.f70:=Tryz.func70
def y4n.r0:jI:=[an 2]
def y4n.r1:jI:=[ab 6 0,⟨some 7,none,.call y9k [.t 6]⟩,ab 5 7,ai 8 0 5,ai 9 1 5,a1g 3 0 0 0 0,ak 6 3 8,ab 4 9]
def y4n.r2:jI:=[ab 10 4,a12 11 10 0,ab 12 11,a13 13 12 0 3,a11 14 12 1 13,a1o 15 12 14 4,ah 16 12 15,az 17 16 5 3,ay 18 16 1 17,a2i 19 16 18 0,a1h 20 12 16 19,aj 21 12 20,ab 2 21]
def y4n:AFunc:=⟨22,[.t 2],jJ [0] y4n.r0 (jJ [3,4] y4n.r1 (jJ [2] y4n.r2 (.ret)))⟩
theorem y4n.ok:y1v Tryz.prog Tryz.f172 y4n=true:=by kernel_rfl
theorem y4n.at:Tryz.prog.funcs[ydr]?=some Tryz.f172:=Tryz.func172
def y1z.r0:jI:=[aw 4,aw 5,an 6]
def y1z.r1:jI:=[ab 8 0,ab 9 1,⟨some 10,none,.call y99 [.t 8,.t 9]⟩,ab 7 10]
def y1z.r2:jI:=[ab 11 7,a1c 12 11 0]
def y1z.r3:jI:=[ab 13 0,ab 14 7,a1w 15 13 14,ab 16 0,ab 17 7,ab 18 1,a15 19 18,a18 20 17 19,a26 21 16 20,ab 4 15,ab 5 21,a1b 6]
def y1z.r4:jI:=[ab 22 0,ab 4 22,aw 5,an 6]
def y1z:AFunc:=⟨23,[.t 4,.t 5,.t 6],jJ [0,1] y1z.r0 (.seq (jJ [0,1,7] y1z.r1 (jJ [0,1,7,12] y1z.r2 (.post [0] (.cond (.t 12) (.seq (.post [4,5,6] (.draw [0,0,3,0,0,0,32,112,248,7,1023,2047] y1z.r3)) (.ret)) (.skip))))) (jJ [4,5,6] y1z.r4 (.ret)))⟩
theorem y1z.ok:y1v Tryz.prog Tryz.f218 y1z=true:=by kernel_rfl
theorem y1z.at:Tryz.prog.funcs[y7y]?=some Tryz.f218:=Tryz.func218
def y5v.r0:jI:=[aw 4,aw 5,an 6]
def y5v.r1:jI:=[ab 7 0,ab 8 1,⟨some 9,none,.call y7y [.t 7,.t 8]⟩,ai 10 0 9,ai 11 1 9,ai 12 2 9,ab 4 10,ab 5 11,ab 6 12]
def y5v:AFunc:=⟨13,[.t 4,.t 5,.t 6],jJ [0,1] y5v.r0 (jJ [4,5,6] y5v.r1 (.ret))⟩
theorem y5v.ok:y1v Tryz.prog Tryz.f199 y5v=true:=by kernel_rfl
theorem y5v.at:Tryz.prog.funcs[yeh]?=some Tryz.f199:=Tryz.func199
def y15.r0:jI:=[a16 1 0,an 2]
def y15.r1:jI:=[ae 10 4 1,ac 11 1 10,⟨some 12,none,.call yeh [.t 11,.c (.s [62])]⟩,ab 9 12,ai 13 0 9,ai 14 1 9,ai 15 2 9,ab 3 13,ab 4 14,ab 5 15]
def y15.r2:jI:=[ab 16 5,a1a 17 16,ab 18 17,az 19 18 3 1,ay 20 18 1 19,a27 21 18 20 0,ax 22 18 21,ab 23 22,a14 24 23 3,⟨some 25,(some (23,false)),.call y7i [.t 24,.c (.i .i64 6)]⟩,a1z 26 23 25,ax 27 23 26,ab 28 27,a14 29 28 4,a3l 30 28 29,a14 31 28 30,ah 32 31 4,a2k 33 31 32 105,a1e 34 28 31 33,a14 35 28 34,ah 36 35 4,a2k 37 35 36 112,a1e 38 28 35 37,ax 39 28 38,ab 40 39,az 41 40 5 1,ay 42 40 1 41,a1v 43 40 42,a14 44 40 3,a1t 45 40 44,⟨some 46,(some (40,false)),.op (.bin .add (.t 45) (.c (.i .i64 1)))⟩,a3j 47 40 43 46,ax 48 40 47]
def y15.r3:jI:=[an 2]
def y15.r4:jI:=[ae 49 5 1,ac 50 1 49,am 51 50,af 52 0]
def y15.r5:jI:=[ap 53 52 51]
def y15.r6:jI:=[ab 54 52,av 55 1 50 52,ac 56 1 55,ab 6 54,ab 7 56]
def y15.r7:jI:=[ab 57 4,a36 58 57 112,ab 8 58]
def y15.r8:jI:=[ab 59 6,a19 60 59 0]
def y15.r9:jI:=[ab 61 3,ab 62 6,a2y 63 62 1,a1r 64 61 63,a24 65 64 112,ab 8 65]
def y15.r10:jI:=[ab 66 7,a1x 67 66,ab 68 67,ah 69 68 8,a1u 70 68 69,ah 71 68 70,a14 72 71 7,⟨some 73,(some (71,false)),.call y84 [.t 72]⟩,a1z 74 71 73,a1h 75 68 71 74,aj 76 68 75]
def y15.r11:jI:=[an 2]
def y15.r12:jI:=[ar 77 52 1,ab 52 77]
def y15.l0:ACode:=jJ [3,4,50,51,52,53] y15.r5 (.seq (.post [3,4,50,51,52] (.cond (.t 53) (.skip) (.exit 0))) (.seq (.post [3,4,50,51,52] (.block 1 (jJ [3,4,6,7,50,51,52] y15.r6 (jJ [3,4,6,7,8,50,51,52] y15.r7 (.seq (jJ [3,4,6,7,8,50,51,52,60] y15.r8 (.post [3,4,7,8,50,51,52] (.cond (.t 60) (jK [3,4,7,8,50,51,52] y15.r9) (.skip)))) (jJ [3,4,50,51,52,76] y15.r10 (.post [3,4,50,51,52] (.cond (.t 76) (jJ [2] y15.r11 (.ret)) (.skip))))))))) (jK [3,4,50,51,52] y15.r12)))
def y15.r13:jI:=[a1b 2]
def y15:AFunc:=⟨78,[.t 2],jJ [1] y15.r0 (jJ [1,3,4,5] y15.r1 (.seq (jJ [1,3,4,48] y15.r2 (.post [1,3,4] (.cond (.t 48) (jJ [2] y15.r3 (.ret)) (.skip)))) (.seq (jJ [3,4,50,51,52] y15.r4 (.post [] (.block 0 (.loop y15.l0)))) (jJ [2] y15.r13 (.ret)))))⟩
theorem y15.ok:y1v Tryz.prog Tryz.f173 y15=true:=by kernel_rfl
theorem y15.at:Tryz.prog.funcs[yat]?=some Tryz.f173:=Tryz.func173
def yj.r0:jI:=[a16 1 0,af 2 0]
def yj.r1:jI:=[an 3]
def yj.r2:jI:=[ae 6 0 1,ac 7 1 6]
def yj.r3:jI:=[a12 9 7 1,ab 8 9]
def yj.r4:jI:=[ae 10 1 1,ac 11 1 10,⟨some 12,none,.call y84 [.t 11]⟩,ab 13 12,a13 14 13 2 1,a11 15 13 1 14,⟨some 16,(some (13,true)),.call ydr [.t 15]⟩,aj 17 13 16,ab 3 17]
def yj.r5:jI:=[a12 19 7 2,ab 18 19]
def yj.r6:jI:=[a12 20 7 3,ab 18 20]
def yj.r7:jI:=[a12 21 7 4,ab 18 21]
def yj.r8:jI:=[a12 22 7 5,ab 18 22]
def yj.r9:jI:=[ae 23 1 1,ac 24 1 23,⟨some 25,none,.call y84 [.t 24]⟩,ab 26 25,a13 27 26 2 1,a11 28 26 1 27,⟨some 29,(some (26,true)),.call y84 [.t 28]⟩,aj 30 26 29,ab 3 30]
def yj.r10:jI:=[a12 32 7 6,ab 31 32]
def yj.r11:jI:=[ae 34 1 1,ac 35 1 34,⟨some 36,none,.call y9k [.t 35]⟩,ab 33 36,ai 37 0 33,ai 38 1 33,a1g 4 0 0 0 0,ak 6 4 37,ab 5 38]
def yj.r12:jI:=[ab 39 5,a12 40 39 0,ab 41 40,a13 42 41 0 4,a11 43 41 1 42,a1o 44 41 43 3,aj 45 41 44,ab 46 45,a13 47 46 2 1,a11 48 46 1 47,⟨some 49,(some (46,true)),.call y84 [.t 48]⟩,aj 50 46 49,ab 3 50]
def yj.r13:jI:=[af 2 5]
def yj.r14:jI:=[ab 51 3,a1a 52 51]
def yj.r15:jI:=[af 2 11]
def yj.r16:jI:=[ae 53 0 1,ac 54 1 53]
def yj.r17:jI:=[a12 70 54 6,ab 69 70]
def yj.r18:jI:=[a10 71 6 1,⟨some 72,none,.call yat [.t 71]⟩,ab 3 72]
def yj.r19:jI:=[a12 74 54 5,ab 73 74]
def yj.r20:jI:=[ae 75 5 1,ac 76 1 75,am 77 76,a12 78 77 0,ab 79 78,a13 80 79 3 1,a11 81 79 1 80,a2u 82 79 81 0,aj 83 79 82,ab 84 83,a13 85 84 3 1,a11 86 84 1 85,a1y 87 84 86 64,aj 88 84 87,ab 89 88,a13 90 89 4 1,a11 91 89 1 90,⟨some 92,(some (89,true)),.call y9r [.t 91]⟩,aj 93 89 92,ab 3 93]
def yj.r21:jI:=[ae 55 5 1,ac 56 1 55,am 57 56,a12 58 57 0,ab 59 58,a13 60 59 3 1,a11 61 59 1 60,a1o 62 59 61 0,aj 63 59 62,ab 64 63,a13 65 64 4 1,a11 66 64 1 65,a3i 67 64 66,aj 68 64 67,ab 3 68]
def yj.r22:jI:=[ab 94 3,a1a 95 94]
def yj.r23:jI:=[af 2 3]
def yj.r24:jI:=[af 2 0]
def yj:AFunc:=⟨96,[.t 2],jJ [1] yj.r0 (jJ [1] yj.r1 (.seq (jJ [1,7] yj.r2 (.post [1,3] (.block 0 (jJ [1,7,8] yj.r3 (.post [1,3] (.cond (.t 8) (jK [1,3] yj.r4) (.seq (jJ [1,7,18] yj.r5 (.post [1,7,18] (.cond (.t 18) (.skip) (jJ [1,7,18] yj.r6 (.post [1,7,18] (.cond (.t 18) (.skip) (jJ [1,7,18] yj.r7 (.post [1,7,18] (.cond (.t 18) (.skip) (jK [1,7,18] yj.r8)))))))))) (.post [1,3] (.cond (.t 18) (jK [1,3] yj.r9) (jJ [1,31] yj.r10 (.post [1,3] (.cond (.t 31) (jJ [1,4,5] yj.r11 (jK [1,3] yj.r12)) (jJ [2] yj.r13 (.ret)))))))))))))) (.seq (jJ [1,52] yj.r14 (.post [1] (.cond (.t 52) (jJ [2] yj.r15 (.ret)) (.skip)))) (.seq (jJ [1,54] yj.r16 (.post [3] (.block 1 (jJ [1,54,69] yj.r17 (.post [3] (.cond (.t 69) (jK [3] yj.r18) (jJ [1,73] yj.r19 (.post [3] (.cond (.t 73) (jK [3] yj.r20) (jK [3] yj.r21)))))))))) (.seq (jJ [95] yj.r22 (.post [] (.cond (.t 95) (jJ [2] yj.r23 (.ret)) (.skip)))) (jJ [2] yj.r24 (.ret)))))))⟩
theorem yj.ok:y1v Tryz.prog Tryz.f122 yj=true:=by kernel_rfl
theorem yj.at:Tryz.prog.funcs[yby]?=some Tryz.f122:=Tryz.func122
def y5j.r0:jI:=[an 2]
def y5j.r1:jI:=[ab 3 0,ab 4 0,a2j 5 3 4,ab 2 5]
def y5j:AFunc:=⟨6,[.t 2],jJ [0] y5j.r0 (jJ [2] y5j.r1 (.ret))⟩
theorem y5j.ok:y1v Tryz.prog Tryz.f200 y5j=true:=by kernel_rfl
theorem y5j.at:Tryz.prog.funcs[yb2]?=some Tryz.f200:=Tryz.func200
def y1b.r0:jI:=[af 4 0]
def y1b.r1:jI:=[ab 7 0,⟨some 8,none,.call yb2 [.t 7]⟩,ab 5 8]
def y1b.r2:jI:=[ab 9 1,⟨some 10,none,.call yb2 [.t 9]⟩,ab 6 10]
def y1b.r3:jI:=[ab 11 5]
def y1b.r4:jI:=[ab 12 6]
def y1b.r5:jI:=[af 4 0]
def y1b.r6:jI:=[af 4 (-1)]
def y1b.r7:jI:=[ab 13 6]
def y1b.r8:jI:=[af 4 1]
def y1b.r9:jI:=[ab 14 0,ab 15 1,ap 16 14 15]
def y1b.r10:jI:=[af 4 (-1)]
def y1b.r11:jI:=[ab 17 0,ab 18 1,a2f 19 17 18]
def y1b.r12:jI:=[af 4 1]
def y1b.r13:jI:=[af 4 0]
def y1b:AFunc:=⟨20,[.t 4],jJ [0,1] y1b.r0 (jJ [0,1,5] y1b.r1 (jJ [0,1,5,6] y1b.r2 (.seq (jJ [0,1,6,11] y1b.r3 (.post [0,1,6] (.cond (.t 11) (.seq (jJ [12] y1b.r4 (.post [] (.cond (.t 12) (jJ [4] y1b.r5 (.ret)) (.skip)))) (jJ [4] y1b.r6 (.ret))) (.skip)))) (.seq (jJ [0,1,13] y1b.r7 (.post [0,1] (.cond (.t 13) (jJ [4] y1b.r8 (.ret)) (.skip)))) (.seq (jJ [0,1,16] y1b.r9 (.post [0,1] (.cond (.t 16) (jJ [4] y1b.r10 (.ret)) (.skip)))) (.seq (jJ [19] y1b.r11 (.post [] (.cond (.t 19) (jJ [4] y1b.r12 (.ret)) (.skip)))) (jJ [4] y1b.r13 (.ret))))))))⟩
theorem y1b.ok:y1v Tryz.prog Tryz.f175 y1b=true:=by kernel_rfl
theorem y1b.at:Tryz.prog.funcs[y9v]?=some Tryz.f175:=Tryz.func175
def ya.r0:jI:=[af 4 0]
def ya.r1:jI:=[ab 9 0,am 10 9,af 11 0]
def ya.r2:jI:=[ap 12 11 10]
def ya.r3:jI:=[ab 13 11,av 14 1 9 11,ac 15 1 14,ab 5 13,ab 6 15]
def ya.r4:jI:=[ab 16 5,ab 17 1,am 18 17,a39 19 16 18]
def ya.r5:jI:=[af 4 1]
def ya.r6:jI:=[ab 20 1,ab 21 5,av 22 1 20 21,ac 23 1 22,ab 7 23]
def ya.r7:jI:=[ab 24 6,ab 25 7,⟨some 26,none,.call y5f [.t 24,.t 25]⟩,ab 8 26]
def ya.r8:jI:=[ab 27 8,a17 28 27 0]
def ya.r9:jI:=[ab 29 8,ab 4 29]
def ya.r10:jI:=[ar 30 11 1,ab 11 30]
def ya.l0:ACode:=jJ [0,1,9,10,11,12] ya.r2 (.seq (.post [0,1,9,10,11] (.cond (.t 12) (.skip) (.exit 0))) (.seq (.post [0,1,9,10,11] (.block 1 (jJ [0,1,5,6,9,10,11] ya.r3 (.seq (jJ [0,1,5,6,9,10,11,19] ya.r4 (.post [0,1,5,6,9,10,11] (.cond (.t 19) (jJ [4] ya.r5 (.ret)) (.skip)))) (jJ [0,1,6,7,9,10,11] ya.r6 (jJ [0,1,8,9,10,11] ya.r7 (jJ [0,1,8,9,10,11,28] ya.r8 (.post [0,1,9,10,11] (.cond (.t 28) (jJ [4] ya.r9 (.ret)) (.skip)))))))))) (jK [0,1,9,10,11] ya.r10)))
def ya.r11:jI:=[ab 31 0,am 32 31,ab 33 1,am 34 33,ap 35 32 34]
def ya.r12:jI:=[af 4 (-1)]
def ya.r13:jI:=[af 4 0]
def ya:AFunc:=⟨36,[.t 4],jJ [0,1] ya.r0 (.seq (jJ [0,1,9,10,11] ya.r1 (.post [0,1] (.block 0 (.loop ya.l0)))) (.seq (jJ [35] ya.r11 (.post [] (.cond (.t 35) (jJ [4] ya.r12 (.ret)) (.skip)))) (jJ [4] ya.r13 (.ret))))⟩
theorem ya.ok:y1v Tryz.prog Tryz.f176 ya=true:=by kernel_rfl
theorem ya.at:Tryz.prog.funcs[y6w]?=some Tryz.f176:=Tryz.func176
def y30.r0:jI:=[af 2 0]
def y30.r1:jI:=[af 3 0]
def y30.r2:jI:=[ab 6 0,am 7 6,af 8 0]
def y30.r3:jI:=[ap 9 8 7]
def y30.r4:jI:=[av 10 1 6 8,ac 11 1 10,ab 5 11]
def y30.r5:jI:=[ab 12 5,ab 13 3,a2j 14 12 13]
def y30.r6:jI:=[ab 15 5,ab 2 15]
def y30.r7:jI:=[ar 16 8 1,ab 8 16]
def y30.l0:ACode:=jJ [3,6,7,8,9] y30.r3 (.seq (.post [3,6,7,8] (.cond (.t 9) (.skip) (.exit 0))) (.seq (.post [3,6,7,8] (.block 1 (jJ [3,5,6,7,8] y30.r4 (jJ [3,5,6,7,8,14] y30.r5 (.post [3,6,7,8] (.cond (.t 14) (jJ [2] y30.r6 (.ret)) (.skip))))))) (jK [3,6,7,8] y30.r7)))
def y30.r8:jI:=[ab 17 3,ab 2 17]
def y30:AFunc:=⟨18,[.t 2],jJ [0] y30.r0 (jJ [0,3] y30.r1 (.seq (jJ [3,6,7,8] y30.r2 (.post [3] (.block 0 (.loop y30.l0)))) (jJ [2] y30.r8 (.ret))))⟩
theorem y30.ok:y1v Tryz.prog Tryz.f174 y30=true:=by kernel_rfl
theorem y30.at:Tryz.prog.funcs[yf8]?=some Tryz.f174:=Tryz.func174
def y5a.r0:jI:=[a16 2 0,a16 3 1,af 4 0]
def y5a.r1:jI:=[ae 5 0 2,ac 6 1 5,ae 7 0 3,ac 8 1 7,⟨some 9,none,.call y9v [.t 6,.t 8]⟩,ae 10 1 2,ac 11 1 10,ae 12 1 3,ac 13 1 12,⟨some 14,none,.call y5f [.t 11,.t 13]⟩,ae 15 2 2,ac 16 1 15,ae 17 2 3,ac 18 1 17,⟨some 19,none,.call y5f [.t 16,.t 18]⟩,ae 20 3 2,ac 21 1 20,ae 22 3 3,ac 23 1 22,⟨some 24,none,.call y9v [.t 21,.t 23]⟩,ae 25 4 2,ac 26 1 25,ae 27 4 3,ac 28 1 27,⟨some 29,none,.call y5f [.t 26,.t 28]⟩,ae 30 5 2,ac 31 1 30,ae 32 5 3,ac 33 1 32,⟨some 34,none,.call y6w [.t 31,.t 33]⟩,⟨some 35,none,.op (.bfz 6 1 [.i .i64 0] [(0,1,.t 9),(1,1,.t 14),(2,1,.t 19),(3,1,.t 24),(4,1,.t 29),(5,1,.t 34)])⟩,⟨some 36,none,.call yf8 [.t 35]⟩,ab 4 36]
def y5a:AFunc:=⟨37,[.t 4],jJ [2,3] y5a.r0 (.seq (.post [4] (.draw [0,1,0,4,15,0,32,0,128,511,0,1024,0,4096,16383,0,32768,0,131072,524287,0,1048576,0,4194304,16777215,0,33554432,0,134217728,536870911,1073741823,2147483647,4294967295] y5a.r1)) (.ret))⟩
theorem y5a.ok:y1v Tryz.prog Tryz.f123 y5a=true:=by kernel_rfl
theorem y5a.at:Tryz.prog.funcs[y93]?=some Tryz.f123:=Tryz.func123
def y2c.r0:jI:=[a16 1 0,af 2 0]
def y2c.r1:jI:=[ae 5 0 1,ac 6 1 5,am 7 6,a19 8 7 600,ab 9 8,az 10 9 1 1,ay 11 9 1 10,a1v 12 9 11,a1d 13 9 12 600,ax 14 9 13,ab 15 14,az 16 15 2 1,ay 17 15 1 16,a1v 18 15 17,a1d 19 15 18 6000,ax 20 15 19]
def y2c.r2:jI:=[af 2 4]
def y2c.r3:jI:=[ae 21 0 1,ac 22 1 21,⟨some 23,none,.call y9i [.t 22,.c (.fn 116 []),.c (.fn 117 [])]⟩,ab 3 23]
def y2c.r4:jI:=[ab 24 3,a17 25 24 0]
def y2c.r5:jI:=[ab 26 3,ab 2 26]
def y2c.r6:jI:=[ae 27 1 1,ac 28 1 27,⟨some 29,none,.call ya2 [.t 28,.c (.fn 119 []),.c (.fn 120 [])]⟩,ab 4 29]
def y2c.r7:jI:=[ab 30 4,a17 31 30 0]
def y2c.r8:jI:=[ab 32 4,ab 2 32]
def y2c.r9:jI:=[ae 33 2 1,ac 34 1 33,⟨some 35,none,.call y9j [.t 34,.c (.fn 122 []),.c (.fn 123 [])]⟩,ab 2 35]
def y2c:AFunc:=⟨36,[.t 2],jJ [1] y2c.r0 (.seq (jJ [1,20] y2c.r1 (.post [1] (.cond (.t 20) (jJ [2] y2c.r2 (.ret)) (.skip)))) (.seq (jJ [1,3] y2c.r3 (jJ [1,3,25] y2c.r4 (.post [1] (.cond (.t 25) (jJ [2] y2c.r5 (.ret)) (.skip))))) (.seq (jJ [1,4] y2c.r6 (jJ [1,4,31] y2c.r7 (.post [1] (.cond (.t 31) (jJ [2] y2c.r8 (.ret)) (.skip))))) (jJ [2] y2c.r9 (.ret)))))⟩
theorem y2c.ok:y1v Tryz.prog Tryz.f58 y2c=true:=by kernel_rfl
theorem y2c.at:Tryz.prog.funcs[yds]?=some Tryz.f58:=Tryz.func58
def y4j.r0:jI:=[a16 2 0,an 3]
def y4j.r1:jI:=[ae 4 0 2,ac 5 1 4,ac 6 1 1,a2c 7 5 6,ab 3 7]
def y4j:AFunc:=⟨8,[.t 3],jJ [1,2] y4j.r0 (jJ [3] y4j.r1 (.ret))⟩
theorem y4j.ok:y1v Tryz.prog Tryz.f61 y4j=true:=by kernel_rfl
theorem y4j.at:Tryz.prog.funcs[y8w]?=some Tryz.f61:=Tryz.func61
def y1c.r0:jI:=[af 4 0]
def y1c.r1:jI:=[ab 6 0,am 7 6,af 8 0]
def y1c.r2:jI:=[ap 9 8 7]
def y1c.r3:jI:=[ab 10 8,ab 5 10]
def y1c.r4:jI:=[ab 11 1,ab 12 0,ab 13 5,av 14 3 12 13,a10 15 3 14,a1f 16 11 15]
def y1c.r5:jI:=[ab 17 5,ab 4 17]
def y1c.r6:jI:=[ar 18 8 1,ab 8 18]
def y1c.l0:ACode:=jJ [0,1,7,8,9] y1c.r2 (.seq (.post [0,1,7,8] (.cond (.t 9) (.skip) (.exit 0))) (.seq (.post [0,1,7,8] (.block 1 (jJ [0,1,5,7,8] y1c.r3 (jJ [0,1,5,7,8,16] y1c.r4 (.post [0,1,7,8] (.cond (.t 16) (jJ [4] y1c.r5 (.ret)) (.skip))))))) (jK [0,1,7,8] y1c.r6)))
def y1c.r7:jI:=[af 4 (-1)]
def y1c:AFunc:=⟨19,[.t 4],jJ [0,1] y1c.r0 (.seq (jJ [0,1,7,8] y1c.r1 (.post [] (.block 0 (.loop y1c.l0)))) (jJ [4] y1c.r7 (.ret)))⟩
theorem y1c.at:Tryz.prog.funcs[y6b]?=some Tryz.f124:=Tryz.func124
def y43.r0:jI:=[an 4]
def y43.r1:jI:=[ab 5 0,ab 6 1,⟨some 7,none,.call y6b [.t 5,.t 6]⟩,a1c 8 7 0,ab 4 8]
def y43:AFunc:=⟨9,[.t 4],jJ [0,1] y43.r0 (jJ [4] y43.r1 (.ret))⟩
theorem y43.at:Tryz.prog.funcs[y61]?=some Tryz.f60:=Tryz.func60
def y4i.r0:jI:=[a16 2 0,an 3]
def y4i.r1:jI:=[ae 4 0 2,ac 5 1 4,ac 6 1 1,a2c 7 5 6,ab 3 7]
def y4i:AFunc:=⟨8,[.t 3],jJ [1,2] y4i.r0 (jJ [3] y4i.r1 (.ret))⟩
theorem y4i.ok:y1v Tryz.prog Tryz.f63 y4i=true:=by kernel_rfl
theorem y4i.at:Tryz.prog.funcs[y8v]?=some Tryz.f63:=Tryz.func63
def y1l.r0:jI:=[af 4 0]
def y1l.r1:jI:=[ab 6 0,am 7 6,af 8 0]
def y1l.r2:jI:=[ap 9 8 7]
def y1l.r3:jI:=[ab 10 8,ab 5 10]
def y1l.r4:jI:=[ab 11 1,ab 12 0,ab 13 5,av 14 3 12 13,a10 15 3 14,a1f 16 11 15]
def y1l.r5:jI:=[ab 17 5,ab 4 17]
def y1l.r6:jI:=[ar 18 8 1,ab 8 18]
def y1l.l0:ACode:=jJ [0,1,7,8,9] y1l.r2 (.seq (.post [0,1,7,8] (.cond (.t 9) (.skip) (.exit 0))) (.seq (.post [0,1,7,8] (.block 1 (jJ [0,1,5,7,8] y1l.r3 (jJ [0,1,5,7,8,16] y1l.r4 (.post [0,1,7,8] (.cond (.t 16) (jJ [4] y1l.r5 (.ret)) (.skip))))))) (jK [0,1,7,8] y1l.r6)))
def y1l.r7:jI:=[af 4 (-1)]
def y1l:AFunc:=⟨19,[.t 4],jJ [0,1] y1l.r0 (.seq (jJ [0,1,7,8] y1l.r1 (.post [] (.block 0 (.loop y1l.l0)))) (jJ [4] y1l.r7 (.ret)))⟩
theorem y1l.at:Tryz.prog.funcs[y6j]?=some Tryz.f125:=Tryz.func125
def y49.r0:jI:=[an 4]
def y49.r1:jI:=[ab 5 0,ab 6 1,⟨some 7,none,.call y6j [.t 5,.t 6]⟩,a1c 8 7 0,ab 4 8]
def y49:AFunc:=⟨9,[.t 4],jJ [0,1] y49.r0 (jJ [4] y49.r1 (.ret))⟩
theorem y49.at:Tryz.prog.funcs[y67]?=some Tryz.f62:=Tryz.func62
def y50.r0:jI:=[a1m 2 0,an 3]
def y50.r1:jI:=[ae 4 4 1,ae 5 0 4,ac 6 1 5,⟨some 7,none,.op (.mkfn y8w [.t 2])⟩,⟨some 8,none,.call y61 [.t 6,.t 7]⟩,ab 9 8,az 10 9 4 1,az 11 9 1 10,ay 12 9 1 11,⟨some 13,(some (9,false)),.op (.mkfn y8v [.t 2])⟩,⟨some 14,(some (9,false)),.call y67 [.t 12,.t 13]⟩,ax 15 9 14,ab 3 15]
def y50:AFunc:=⟨16,[.t 3],jJ [1,2] y50.r0 (jJ [3] y50.r1 (.ret))⟩
theorem y50.ok:y1v Tryz.prog Tryz.f59 y50=true:=by kernel_rfl
theorem y50.at:Tryz.prog.funcs[y5n]?=some Tryz.f59:=Tryz.func59
def y2l.r0:jI:=[an 2]
def y2l.r1:jI:=[af 3 1]
def y2l.r2:jI:=[ab 4 3,ab 5 0,am 6 5,ap 7 4 6]
def y2l.r3:jI:=[ab 10 0,ab 11 3,av 12 1 10 11,ac 13 1 12,ab 14 0,ab 15 3,a2y 16 15 1,av 17 1 14 16,ac 18 1 17,⟨some 19,none,.op (.bin .leq (.t 13) (.t 18))⟩]
def y2l.r4:jI:=[an 2]
def y2l.r5:jI:=[ab 8 3,ar 9 8 1,ab 3 9]
def y2l.l0:ACode:=.seq (jJ [0,3,7] y2l.r2 (.post [0,3] (.cond (.t 7) (.skip) (.exit 0)))) (.seq (.post [0,3] (.block 1 (.seq (.post [0,3,19] (.draw [0,0,3,7,0,0,32,112,240,511] y2l.r3)) (.post [0,3] (.cond (.t 19) (jJ [2] y2l.r4 (.ret)) (.skip)))))) (jK [0,3] y2l.r5))
def y2l.r6:jI:=[a1b 2]
def y2l:AFunc:=⟨20,[.t 2],jJ [0] y2l.r0 (.seq (jJ [0,3] y2l.r1 (.post [] (.block 0 (.loop y2l.l0)))) (jJ [2] y2l.r6 (.ret)))⟩
theorem y2l.ok:y1v Tryz.prog Tryz.f64 y2l=true:=by kernel_rfl
theorem y2l.at:Tryz.prog.funcs[yav]?=some Tryz.f64:=Tryz.func64
def y4z.r0:jI:=[an 3]
def y4z.r1:jI:=[ac 4 1 1,ab 5 0,a1f 6 4 5,a1a 7 6,ab 3 7]
def y4z:AFunc:=⟨8,[.t 3],jJ [0,1] y4z.r0 (jJ [3] y4z.r1 (.ret))⟩
theorem y4z.ok:y1v Tryz.prog Tryz.f66 y4z=true:=by kernel_rfl
theorem y4z.at:Tryz.prog.funcs[y9t]?=some Tryz.f66:=Tryz.func66
def ym.r0:jI:=[af 4 0]
def ym.r1:jI:=[ab 6 0,am 7 6,af 8 0]
def ym.r2:jI:=[ap 9 8 7]
def ym.r3:jI:=[ab 10 8,ab 5 10]
def ym.r4:jI:=[ab 11 1,ab 12 0,ab 13 5,av 14 1 12 13,ac 15 1 14,a1f 16 11 15]
def ym.r5:jI:=[ab 17 5,ab 4 17]
def ym.r6:jI:=[ar 18 8 1,ab 8 18]
def ym.l0:ACode:=jJ [0,1,7,8,9] ym.r2 (.seq (.post [0,1,7,8] (.cond (.t 9) (.skip) (.exit 0))) (.seq (.post [0,1,7,8] (.block 1 (jJ [0,1,5,7,8] ym.r3 (jJ [0,1,5,7,8,16] ym.r4 (.post [0,1,7,8] (.cond (.t 16) (jJ [4] ym.r5 (.ret)) (.skip))))))) (jK [0,1,7,8] ym.r6)))
def ym.r7:jI:=[af 4 (-1)]
def ym:AFunc:=⟨19,[.t 4],jJ [0,1] ym.r0 (.seq (jJ [0,1,7,8] ym.r1 (.post [] (.block 0 (.loop ym.l0)))) (jJ [4] ym.r7 (.ret)))⟩
theorem ym.ok:y1v Tryz.prog Tryz.f126 ym=true:=by kernel_rfl
theorem ym.at:Tryz.prog.funcs[y6i]?=some Tryz.f126:=Tryz.func126
def y2n.r0:jI:=[an 4]
def y2n.r1:jI:=[ab 5 0,ab 6 1,⟨some 7,none,.call y6i [.t 5,.t 6]⟩,a1c 8 7 0,ab 4 8]
def y2n:AFunc:=⟨9,[.t 4],jJ [0,1] y2n.r0 (jJ [4] y2n.r1 (.ret))⟩
theorem y2n.ok:y1v Tryz.prog Tryz.f65 y2n=true:=by kernel_rfl
theorem y2n.at:Tryz.prog.funcs[y56]?=some Tryz.f65:=Tryz.func65
def yt.r0:jI:=[af 4 0]
def yt.r1:jI:=[ab 6 0,am 7 6,af 8 0]
def yt.r2:jI:=[ap 9 8 7]
def yt.r3:jI:=[ab 10 8,ab 5 10]
def yt.r4:jI:=[ab 11 1,ab 12 0,ab 13 5,av 14 1 12 13,ac 15 1 14,a2c 16 11 15]
def yt.r5:jI:=[ab 17 5,ab 4 17]
def yt.r6:jI:=[ar 18 8 1,ab 8 18]
def yt.l0:ACode:=jJ [0,1,7,8,9] yt.r2 (.seq (.post [0,1,7,8] (.cond (.t 9) (.skip) (.exit 0))) (.seq (.post [0,1,7,8] (.block 1 (jJ [0,1,5,7,8] yt.r3 (jJ [0,1,5,7,8,16] yt.r4 (.post [0,1,7,8] (.cond (.t 16) (jJ [4] yt.r5 (.ret)) (.skip))))))) (jK [0,1,7,8] yt.r6)))
def yt.r7:jI:=[af 4 (-1)]
def yt:AFunc:=⟨19,[.t 4],jJ [0,1] yt.r0 (.seq (jJ [0,1,7,8] yt.r1 (.post [] (.block 0 (.loop yt.l0)))) (jJ [4] yt.r7 (.ret)))⟩
theorem yt.ok:y1v Tryz.prog Tryz.f127 yt=true:=by kernel_rfl
theorem yt.at:Tryz.prog.funcs[y78]?=some Tryz.f127:=Tryz.func127
def y2x.r0:jI:=[an 4]
def y2x.r1:jI:=[ab 5 0,ab 6 1,⟨some 7,none,.call y78 [.t 5,.t 6]⟩,a1c 8 7 0,ab 4 8]
def y2x:AFunc:=⟨9,[.t 4],jJ [0,1] y2x.r0 (jJ [4] y2x.r1 (.ret))⟩
theorem y2x.ok:y1v Tryz.prog Tryz.f68 y2x=true:=by kernel_rfl
theorem y2x.at:Tryz.prog.funcs[y6s]?=some Tryz.f68:=Tryz.func68
def y4y.r0:jI:=[an 3]
def y4y.r1:jI:=[ae 4 2 1,ac 5 1 4,ab 6 0,⟨some 7,none,.call y6s [.t 5,.t 6]⟩,ab 3 7]
def y4y:AFunc:=⟨8,[.t 3],jJ [0,1] y4y.r0 (jJ [3] y4y.r1 (.ret))⟩
theorem y4y.ok:y1v Tryz.prog Tryz.f67 y4y=true:=by kernel_rfl
theorem y4y.at:Tryz.prog.funcs[y9s]?=some Tryz.f67:=Tryz.func67
def y4x.r0:jI:=[an 2]
def y4x.r1:jI:=[ab 3 0,⟨some 4,none,.call y84 [.t 3]⟩,a1a 5 4,ab 2 5]
def y4x:AFunc:=⟨6,[.t 2],jJ [0] y4x.r0 (jJ [2] y4x.r1 (.ret))⟩
theorem y4x.ok:y1v Tryz.prog Tryz.f69 y4x=true:=by kernel_rfl
theorem y4x.at:Tryz.prog.funcs[ybl]?=some Tryz.f69:=Tryz.func69
def yg.r0:jI:=[a1m 1 0,af 2 0]
def yg.r1:jI:=[ae 7 0 1,ac 8 1 7,⟨some 9,none,.call y9u [.t 8]⟩,a1a 10 9]
def yg.r2:jI:=[af 2 11]
def yg.r3:jI:=[ae 11 4 1,a10 12 3 11,⟨some 13,none,.call yds [.t 12]⟩,ab 3 13]
def yg.r4:jI:=[ab 14 3,a17 15 14 0]
def yg.r5:jI:=[ab 16 3,ab 2 16]
def yg.r6:jI:=[⟨some 17,none,.op (.mkfn y5n [.t 1])⟩,⟨some 4,none,.op (.new [.nf])⟩,ak 1 4 17]
def yg.r7:jI:=[ae 18 1 1,ac 19 1 18,ae 20 2 1,ac 21 1 20,⟨some 22,none,.op (.bfz 2 1 [.sl none 0 0] [(0,1,.t 19),(1,1,.t 21)])⟩,am 23 22,af 24 0]
def yg.r8:jI:=[ap 25 24 23]
def yg.r9:jI:=[av 26 1 22 24,ac 27 1 26,ab 6 27]
def yg.r10:jI:=[ab 29 6,⟨some 30,none,.call yav [.t 29]⟩,a1a 31 30,ab 28 31]
def yg.r11:jI:=[af 2 13]
def yg.r12:jI:=[ab 33 6,⟨some 34,none,.op (.mkfn y9t [.t 4])⟩,⟨some 35,none,.call y56 [.t 33,.t 34]⟩,ab 32 35]
def yg.r13:jI:=[af 2 7]
def yg.r14:jI:=[ar 36 24 1,ab 24 36]
def yg.l0:ACode:=jJ [1,4,22,23,24,25] yg.r8 (.seq (.post [1,4,22,23,24] (.cond (.t 25) (.skip) (.exit 0))) (.seq (.post [1,4,22,23,24] (.block 1 (jJ [1,4,6,22,23,24] yg.r9 (.post [1,4,22,23,24] (.block 2 (jJ [1,4,6,22,23,24,28] yg.r10 (.post [1,4,22,23,24] (.cond (.t 28) (jJ [2] yg.r11 (.ret)) (jJ [1,4,22,23,24,32] yg.r12 (.post [1,4,22,23,24] (.cond (.t 32) (jJ [2] yg.r13 (.ret)) (.skip)))))))))))) (jK [1,4,22,23,24] yg.r14)))
def yg.r15:jI:=[ae 38 1 1,ac 39 1 38,⟨some 40,none,.op (.mkfn y9s [.t 1])⟩,⟨some 41,none,.call y56 [.t 39,.t 40]⟩,ab 37 41]
def yg.r16:jI:=[af 2 8]
def yg.r17:jI:=[ae 43 3 1,ac 44 1 43,am 45 44,a19 46 45 6000,ab 42 46]
def yg.r18:jI:=[af 2 4]
def yg.r19:jI:=[ae 48 3 1,ac 49 1 48,⟨some 50,none,.call yav [.t 49]⟩,a1a 51 50,ab 47 51]
def yg.r20:jI:=[af 2 13]
def yg.r21:jI:=[ae 53 3 1,ac 54 1 53,⟨some 55,none,.call y56 [.t 54,.c (.fn 69 [])]⟩,ab 52 55]
def yg.r22:jI:=[af 2 11]
def yg.r23:jI:=[af 2 0]
def yg:AFunc:=⟨56,[.t 2],jJ [1] yg.r0 (.seq (jJ [1,10] yg.r1 (.post [1] (.cond (.t 10) (jJ [2] yg.r2 (.ret)) (.skip)))) (.seq (jJ [1,3] yg.r3 (jJ [1,3,15] yg.r4 (.post [1] (.cond (.t 15) (jJ [2] yg.r5 (.ret)) (.skip))))) (jJ [1,4] yg.r6 (.seq (jJ [1,4,22,23,24] yg.r7 (.post [1] (.block 0 (.loop yg.l0)))) (.seq (.post [] (.block 3 (jJ [1,37] yg.r15 (.post [] (.cond (.t 37) (jJ [2] yg.r16 (.ret)) (jJ [1,42] yg.r17 (.post [] (.cond (.t 42) (jJ [2] yg.r18 (.ret)) (jJ [1,47] yg.r19 (.post [] (.cond (.t 47) (jJ [2] yg.r20 (.ret)) (jJ [52] yg.r21 (.post [] (.cond (.t 52) (jJ [2] yg.r22 (.ret)) (.skip))))))))))))))) (jJ [2] yg.r23 (.ret)))))))⟩
theorem yg.ok:y1v Tryz.prog Tryz.f20 yg=true:=by kernel_rfl
theorem yg.at:Tryz.prog.funcs[yaw]?=some Tryz.f20:=Tryz.func20
def y5w.r0:jI:=[ac 3 1 1,ab 4 0,a2l 5 1 1 0 1 4,a1l 6 1 16 3 5,ak 1 1 6]
def y5w:AFunc:=⟨7,[],jK [] y5w.r0⟩
theorem y5w.ok:y1v Tryz.prog Tryz.f71 y5w=true:=by kernel_rfl
theorem y5w.at:Tryz.prog.funcs[y6g]?=some Tryz.f71:=Tryz.func71
def y3j.r0:jI:=[a1i 2 0 0]
def y3j.r1:jI:=[ab 3 0,⟨some 4,none,.op (.eqk .ptr false (.t 3) (.c (.p none)))⟩]
def y3j.r2:jI:=[a1i 2 0 0]
def y3j.r3:jI:=[ab 5 0,aq 6 5,ae 7 0 6,ac 8 1 7,ab 2 8]
def y3j:AFunc:=⟨9,[.t 2],jJ [0] y3j.r0 (.seq (jJ [0,4] y3j.r1 (.post [0] (.cond (.t 4) (jJ [2] y3j.r2 (.ret)) (.skip)))) (jJ [2] y3j.r3 (.ret)))⟩
theorem y3j.ok:y1v Tryz.prog Tryz.f77 y3j=true:=by kernel_rfl
theorem y3j.at:Tryz.prog.funcs[y82]?=some Tryz.f77:=Tryz.func77
def y53.r0:jI:=[an 4]
def y53.r1:jI:=[ab 5 0,⟨some 6,none,.call y70 [.t 5]⟩,ab 7 6,ah 8 7 1,⟨some 9,(some (7,true)),.call y70 [.t 8]⟩,a1u 10 7 9,aj 11 7 10,ab 12 11,a14 13 12 0,a14 14 12 1,⟨some 15,(some (12,false)),.op (.bin .lss (.t 13) (.t 14))⟩,ax 16 12 15,ab 4 16]
def y53:AFunc:=⟨17,[.t 4],jJ [0,1] y53.r0 (jJ [4] y53.r1 (.ret))⟩
theorem y53.ok:y1v Tryz.prog Tryz.f222 y53=true:=by kernel_rfl
theorem y53.at:Tryz.prog.funcs[ybn]?=some Tryz.f222:=Tryz.func222
def y42.r0:jI:=[an 2]
def y42.r1:jI:=[ab 3 0,ab 4 0,a2j 5 3 4,ab 2 5]
def y42:AFunc:=⟨6,[.t 2],jJ [0] y42.r0 (jJ [2] y42.r1 (.ret))⟩
theorem y42.ok:y1v Tryz.prog Tryz.f223 y42=true:=by kernel_rfl
theorem y42.at:Tryz.prog.funcs[y85]?=some Tryz.f223:=Tryz.func223
def yc.r0:jI:=[af 4 0,an 5]
def yc.r1:jI:=[ab 10 0,am 11 10,ab 6 11]
def yc.r2:jI:=[ab 12 6,af 7 0,ab 8 12]
def yc.r3:jI:=[ab 13 7,ab 14 8,ap 15 13 14]
def yc.r4:jI:=[ab 16 7,ab 17 8,a18 18 16 17,a3b 19 18,a28 20 19 1,a3c 21 20,ab 9 21]
def yc.r5:jI:=[ab 22 0,ab 23 9,av 24 1 22 23,ac 25 1 24,ab 26 1,⟨some 27,none,.call ybn [.t 25,.t 26]⟩]
def yc.r6:jI:=[ab 28 9,ar 29 28 1,ab 7 29]
def yc.r7:jI:=[ab 30 9,ab 8 30]
def yc.l0:ACode:=.seq (jJ [0,1,6,7,8,15] yc.r3 (.post [0,1,6,7,8] (.cond (.t 15) (.skip) (.exit 0)))) (.post [0,1,6,7,8] (.block 1 (jJ [0,1,6,7,8,9] yc.r4 (jJ [0,1,6,7,8,9,27] yc.r5 (.post [0,1,6,7,8] (.cond (.t 27) (jK [0,1,6,7,8] yc.r6) (jK [0,1,6,7,8] yc.r7)))))))
def yc.r8:jI:=[ab 31 7,ab 32 7,ab 33 6,ap 34 32 33,ab 35 34,ah 36 35 0,ah 37 35 7,a1k 38 35 1 36 37,a11 39 35 1 38,ah 40 35 1,a2d 41 35 39 40,ah 42 35 41,a14 43 42 0,a14 44 42 7,a32 45 42 1 43 44,ay 46 42 1 45,⟨some 47,(some (42,false)),.call y85 [.t 46]⟩,a14 48 42 47,ah 49 48 1,⟨some 50,(some (48,true)),.call y85 [.t 49]⟩,a1e 51 42 48 50,a1h 52 35 42 51,aj 53 35 52,ab 4 31,ab 5 53]
def yc:AFunc:=⟨54,[.t 4,.t 5],jJ [0,1] yc.r0 (jJ [0,1,6] yc.r1 (jJ [0,1,6,7,8] yc.r2 (.seq (.post [0,1,6,7] (.block 0 (.loop yc.l0))) (jJ [4,5] yc.r8 (.ret)))))⟩
theorem yc.ok:y1v Tryz.prog Tryz.f205 yc=true:=by kernel_rfl
theorem yc.at:Tryz.prog.funcs[y68]?=some Tryz.f205:=Tryz.func205
def y34.r0:jI:=[af 4 0,an 5]
def y34.r1:jI:=[ab 9 0,⟨some 10,none,.call y82 [.t 9]⟩,ab 11 1,⟨some 12,none,.call y68 [.t 10,.t 11]⟩,ab 8 12,ai 13 0 8,ai 14 1 8,ab 6 13,ab 7 14]
def y34.r2:jI:=[ab 15 7,a1a 16 15]
def y34.r3:jI:=[af 4 0,an 5]
def y34.r4:jI:=[ab 17 6,ab 4 17,a1b 5]
def y34:AFunc:=⟨18,[.t 4,.t 5],jJ [0,1] y34.r0 (jJ [6,7] y34.r1 (.seq (jJ [6,16] y34.r2 (.post [6] (.cond (.t 16) (jJ [4,5] y34.r3 (.ret)) (.skip)))) (jJ [4,5] y34.r4 (.ret))))⟩
theorem y34.ok:y1v Tryz.prog Tryz.f180 y34=true:=by kernel_rfl
theorem y34.at:Tryz.prog.funcs[yaz]?=some Tryz.f180:=Tryz.func180
def y48.r0:jI:=[ab 4 0,aq 5 4,ae 6 5 5,ac 7 1 6,a12 8 7 0]
def y48.r1:jI:=[ab 9 0,ab 10 1,aq 11 9,ae 12 5 11,ak 1 12 10]
def y48:AFunc:=⟨13,[],jJ [0,1,8] y48.r0 (.post [] (.cond (.t 8) (jK [] y48.r1) (.skip)))⟩
theorem y48.ok:y1v Tryz.prog Tryz.f181 y48=true:=by kernel_rfl
theorem y48.at:Tryz.prog.funcs[y8g]?=some Tryz.f181:=Tryz.func181
def y37.r0:jI:=[ac 3 1 1,a19 4 3 127,ab 5 4,ah 6 5 0,a11 7 5 1 1,⟨some 8,(some (5,true)),.op (.bin .and (.t 7) (.c (.i .i64 127)))⟩,⟨some 9,(some (5,true)),.op (.bin .or (.t 8) (.c (.i .i64 128)))⟩,⟨some 10,(some (5,true)),.op (.conv .u8 (.t 9))⟩,⟨some 11,(some (5,true)),.callv (.t 6) [.t 10]⟩,aj 12 5 11]
def y37.r1:jI:=[ac 13 1 1,a28 14 13 7,ak 1 1 14]
def y37.l0:ACode:=.seq (jJ [0,1,12] y37.r0 (.post [0,1] (.cond (.t 12) (.skip) (.exit 0)))) (.post [0,1] (.block 1 (jK [0,1] y37.r1)))
def y37.r2:jI:=[ac 15 1 1,⟨some 16,none,.op (.bin .leq (.t 15) (.c (.i .i64 127)))⟩]
def y37.r3:jI:=[ab 17 0,ac 18 1 1,a1s 19 18,a1f 20 17 19]
def y37:AFunc:=⟨21,[],.seq (.post [0,1] (.block 0 (.loop y37.l0))) (jJ [0,1,16] y37.r2 (.post [] (.cond (.t 16) (jK [] y37.r3) (.skip))))⟩
theorem y37.ok:y1v Tryz.prog Tryz.f142 y37=true:=by kernel_rfl
theorem y37.at:Tryz.prog.funcs[y9q]?=some Tryz.f142:=Tryz.func142
def y5g.r0:jI:=[a1m 1 0,⟨some 2,none,.op (.mov (.c (.nf)))⟩]
def y5g.r1:jI:=[⟨some 3,none,.op (.mkfn y9q [.t 1])⟩,ab 2 3]
def y5g:AFunc:=⟨4,[.t 2],jJ [1] y5g.r0 (jJ [2] y5g.r1 (.ret))⟩
theorem y5g.ok:y1v Tryz.prog Tryz.f75 y5g=true:=by kernel_rfl
theorem y5g.at:Tryz.prog.funcs[ycw]?=some Tryz.f75:=Tryz.func75
def y2b.r0:jI:=[a3d 4]
def y2b.r1:jI:=[ab 5 0,⟨some 6,none,.call y7j [.t 5]⟩]
def y2b.r2:jI:=[ab 7 0,ab 8 0,aq 9 8,ae 10 1 9,ac 11 1 10,ab 12 1,⟨some 13,none,.op (.bfz 1 1 [.i .u8 0] [(0,1,.t 12)])⟩,⟨some 14,none,.op (.appT 5 1 1 (.t 11) (.t 13))⟩,aq 15 7,ae 16 1 15,ak 1 16 14]
def y2b.r3:jI:=[a3d 4]
def y2b:AFunc:=⟨17,[.t 4],jJ [0,1] y2b.r0 (jJ [0,1] y2b.r1 (jJ [] y2b.r2 (jJ [4] y2b.r3 (.ret))))⟩
theorem y2b.ok:y1v Tryz.prog Tryz.f76 y2b=true:=by kernel_rfl
theorem y2b.at:Tryz.prog.funcs[y7k]?=some Tryz.f76:=Tryz.func76
def y13.r0:jI:=[a16 2 0]
def y13.r1:jI:=[ac 5 1 2,aq 6 5,ae 7 2 6,ac 8 1 7,a12 9 8 0,ab 10 9,ah 11 10 1,a3h 12 10 11 0,ah 13 10 12,a14 14 13 1,a1d 15 13 14 268435456,a1h 16 10 13 15,aj 17 10 16]
def y13.r2:jI:=[ac 18 1 2,aq 19 18,ae 20 2 19,a2b 1 20 2]
def y13.r3:jI:=[ac 21 1 2,aq 22 21,ae 23 2 22,ac 24 1 23,a17 25 24 0]
def y13.r4:jI:=[ab 26 1,⟨some 27,none,.call ycw [.t 26]⟩]
def y13.r5:jI:=[ab 4 28]
def y13.r6:jI:=[ac 29 1 2,aq 30 29,ae 31 0 30,ab 32 4,⟨some 33,none,.call y7k [.t 31,.t 32]⟩]
def y13.a0:ACode:=jK [2,4] y13.r5
def y13.b0:ACode:=.post [] (.block 1 (jK [] y13.r6))
def y13:AFunc:=⟨34,[],jJ [1,2] y13.r0 (.seq (jJ [1,2,17] y13.r1 (.post [1,2] (.cond (.t 17) (jK [1,2] y13.r2) (.skip)))) (.seq (jJ [1,2,25] y13.r3 (.post [1,2] (.cond (.t 25) (.ret) (.skip)))) (jJ [2,27] y13.r4 (.post [] (.block 0 (.post [] (.rangeFunc (.t 27) [28] y13.a0 y13.b0)))))))⟩
theorem y13.ok:y1v Tryz.prog Tryz.f24 y13=true:=by kernel_rfl
theorem y13.at:Tryz.prog.funcs[y5p]?=some Tryz.f24:=Tryz.func24
def y39.r0:jI:=[ab 4 1,a1p 5 4 0,ab 6 5,a14 7 6 1,a1d 8 6 7 268435456,ax 9 6 8]
def y39.r1:jI:=[ab 10 0,⟨some 11,none,.call y8g [.t 10,.c (.i .i64 2)]⟩]
def y39.r2:jI:=[ab 12 0,aq 13 12,ae 14 0 13,ab 15 1,⟨some 16,none,.call y5p [.t 14,.t 15]⟩]
def y39:AFunc:=⟨17,[],.seq (jJ [0,1,9] y39.r0 (.post [0,1] (.cond (.t 9) (jJ [] y39.r1 (.ret)) (.skip)))) (jK [] y39.r2)⟩
theorem y39.ok:y1v Tryz.prog Tryz.f135 y39=true:=by kernel_rfl
theorem y39.at:Tryz.prog.funcs[y4c]?=some Tryz.f135:=Tryz.func135
def y2r.r0:jI:=[ab 6 0,aq 7 6,ae 8 4 7,ac 9 1 8,ab 10 1,a1f 11 9 10]
def y2r.r1:jI:=[ab 13 0,aq 14 13,ae 15 3 14,ac 16 1 15,ab 17 1,⟨some 18,none,.call yaz [.t 16,.t 17]⟩,ab 12 18,ai 19 0 12,ai 20 1 12,ab 4 19,ab 5 20]
def y2r.r2:jI:=[ab 21 5,a1a 22 21]
def y2r.r3:jI:=[ab 23 0,⟨some 24,none,.call y8g [.t 23,.c (.i .i64 7)]⟩]
def y2r.r4:jI:=[ab 25 0,ab 26 4,⟨some 27,none,.call y4c [.t 25,.t 26]⟩]
def y2r:AFunc:=⟨28,[],jJ [0,1] y2r.r0 (jJ [0,4,5] y2r.r1 (.seq (jJ [0,4,22] y2r.r2 (.post [0,4] (.cond (.t 22) (jK [0,4] y2r.r3) (.skip)))) (jK [] y2r.r4)))⟩
theorem y2r.ok:y1v Tryz.prog Tryz.f129 y2r=true:=by kernel_rfl
theorem y2r.at:Tryz.prog.funcs[y3d]?=some Tryz.f129:=Tryz.func129
def y1f.r0:jI:=[ab 8 0,ab 9 1,am 10 9,⟨some 11,none,.call y4c [.t 8,.t 10]⟩]
def y1f.r1:jI:=[ab 12 1,am 13 12,af 14 0]
def y1f.r2:jI:=[ap 15 14 13]
def y1f.r3:jI:=[av 16 1 12 14,ac 17 1 16,ab 7 17]
def y1f.r4:jI:=[ab 18 2,ab 19 7,a1f 20 18 19]
def y1f.r5:jI:=[ar 21 14 1,ab 14 21]
def y1f.l0:ACode:=jJ [2,12,13,14,15] y1f.r2 (.seq (.post [2,12,13,14] (.cond (.t 15) (.skip) (.exit 0))) (.seq (.post [2,12,13,14] (.block 1 (jJ [2,7,12,13,14] y1f.r3 (jK [2,12,13,14] y1f.r4)))) (jK [2,12,13,14] y1f.r5)))
def y1f:AFunc:=⟨22,[],jJ [1,2] y1f.r0 (jJ [2,12,13,14] y1f.r1 (.post [] (.block 0 (.loop y1f.l0))))⟩
theorem y1f.ok:y1v Tryz.prog Tryz.f130 y1f=true:=by kernel_rfl
theorem y1f.at:Tryz.prog.funcs[y6e]?=some Tryz.f130:=Tryz.func130
def y2s.r0:jI:=[a16 2 0]
def y2s.r1:jI:=[ac 3 1 1,ae 4 0 2,ac 5 1 4,⟨some 6,none,.call y4c [.t 3,.t 5]⟩]
def y2s.r2:jI:=[ac 7 1 1,ae 8 1 2,ac 9 1 8,⟨some 10,none,.call y3d [.t 7,.t 9]⟩]
def y2s:AFunc:=⟨11,[],jJ [1,2] y2s.r0 (jJ [1,2] y2s.r1 (jK [] y2s.r2))⟩
theorem y2s.ok:y1v Tryz.prog Tryz.f134 y2s=true:=by kernel_rfl
theorem y2s.at:Tryz.prog.funcs[y6c]?=some Tryz.f134:=Tryz.func134
def y2t.r0:jI:=[ab 8 0,ab 9 1,am 10 9,⟨some 11,none,.call y4c [.t 8,.t 10]⟩]
def y2t.r1:jI:=[ab 12 1,am 13 12,af 14 0]
def y2t.r2:jI:=[ap 15 14 13]
def y2t.r3:jI:=[av 16 2 12 14,a10 17 2 16,a3a 7 0,ak 2 7 17]
def y2t.r4:jI:=[ab 18 2,a10 19 2 7,a1f 20 18 19]
def y2t.r5:jI:=[ar 21 14 1,ab 14 21]
def y2t.l0:ACode:=jJ [2,12,13,14,15] y2t.r2 (.seq (.post [2,12,13,14] (.cond (.t 15) (.skip) (.exit 0))) (.seq (.post [2,12,13,14] (.block 1 (jJ [2,7,12,13,14] y2t.r3 (jK [2,12,13,14] y2t.r4)))) (jK [2,12,13,14] y2t.r5)))
def y2t:AFunc:=⟨22,[],jJ [1,2] y2t.r0 (jJ [2,12,13,14] y2t.r1 (.post [] (.block 0 (.loop y2t.l0))))⟩
theorem y2t.ok:y1v Tryz.prog Tryz.f133 y2t=true:=by kernel_rfl
theorem y2t.at:Tryz.prog.funcs[yb5]?=some Tryz.f133:=Tryz.func133
def y2j.r0:jI:=[a16 2 0]
def y2j.r1:jI:=[ac 3 1 1,ae 4 0 2,ac 5 1 4,⟨some 6,none,.call y3d [.t 3,.t 5]⟩]
def y2j.r2:jI:=[ac 7 1 1,ae 8 1 2,ac 9 1 8,⟨some 10,none,.call y3d [.t 7,.t 9]⟩]
def y2j.r3:jI:=[ac 11 1 1,ae 12 2 2,ac 13 1 12,⟨some 14,none,.op (.mkfn y6c [.t 1])⟩,⟨some 15,none,.call yb5 [.t 11,.t 13,.t 14]⟩]
def y2j:AFunc:=⟨16,[],jJ [1,2] y2j.r0 (jJ [1,2] y2j.r1 (jJ [1,2] y2j.r2 (jK [] y2j.r3)))⟩
theorem y2j.ok:y1v Tryz.prog Tryz.f132 y2j=true:=by kernel_rfl
theorem y2j.at:Tryz.prog.funcs[y6v]?=some Tryz.f132:=Tryz.func132
def y2u.r0:jI:=[ab 8 0,ab 9 1,am 10 9,⟨some 11,none,.call y4c [.t 8,.t 10]⟩]
def y2u.r1:jI:=[ab 12 1,am 13 12,af 14 0]
def y2u.r2:jI:=[ap 15 14 13]
def y2u.r3:jI:=[av 16 3 12 14,a10 17 3 16,a2t 7 0 0,ak 3 7 17]
def y2u.r4:jI:=[ab 18 2,a10 19 3 7,a1f 20 18 19]
def y2u.r5:jI:=[ar 21 14 1,ab 14 21]
def y2u.l0:ACode:=jJ [2,12,13,14,15] y2u.r2 (.seq (.post [2,12,13,14] (.cond (.t 15) (.skip) (.exit 0))) (.seq (.post [2,12,13,14] (.block 1 (jJ [2,7,12,13,14] y2u.r3 (jK [2,12,13,14] y2u.r4)))) (jK [2,12,13,14] y2u.r5)))
def y2u:AFunc:=⟨22,[],jJ [1,2] y2u.r0 (jJ [2,12,13,14] y2u.r1 (.post [] (.block 0 (.loop y2u.l0))))⟩
theorem y2u.ok:y1v Tryz.prog Tryz.f131 y2u=true:=by kernel_rfl
theorem y2u.at:Tryz.prog.funcs[ybz]?=some Tryz.f131:=Tryz.func131
def y2i.r0:jI:=[a16 2 0]
def y2i.r1:jI:=[ac 3 1 1,ae 4 0 2,ac 5 1 4,⟨some 6,none,.call y3d [.t 3,.t 5]⟩]
def y2i.r2:jI:=[ac 7 1 1,ae 8 1 2,ac 9 1 8,⟨some 10,none,.call y3d [.t 7,.t 9]⟩]
def y2i.r3:jI:=[ac 11 1 1,ae 12 2 2,ac 13 1 12,⟨some 14,none,.call y3d [.t 11,.t 13]⟩]
def y2i:AFunc:=⟨15,[],jJ [1,2] y2i.r0 (jJ [1,2] y2i.r1 (jJ [1,2] y2i.r2 (jK [] y2i.r3)))⟩
theorem y2i.ok:y1v Tryz.prog Tryz.f137 y2i=true:=by kernel_rfl
theorem y2i.at:Tryz.prog.funcs[y6u]?=some Tryz.f137:=Tryz.func137
def y32.r0:jI:=[ab 8 0,ab 9 1,am 10 9,⟨some 11,none,.call y4c [.t 8,.t 10]⟩]
def y32.r1:jI:=[ab 12 1,am 13 12,af 14 0]
def y32.r2:jI:=[ap 15 14 13]
def y32.r3:jI:=[av 16 3 12 14,a10 17 3 16,a2x 7,ak 3 7 17]
def y32.r4:jI:=[ab 18 2,a10 19 3 7,a1f 20 18 19]
def y32.r5:jI:=[ar 21 14 1,ab 14 21]
def y32.l0:ACode:=jJ [2,12,13,14,15] y32.r2 (.seq (.post [2,12,13,14] (.cond (.t 15) (.skip) (.exit 0))) (.seq (.post [2,12,13,14] (.block 1 (jJ [2,7,12,13,14] y32.r3 (jK [2,12,13,14] y32.r4)))) (jK [2,12,13,14] y32.r5)))
def y32:AFunc:=⟨22,[],jJ [1,2] y32.r0 (jJ [2,12,13,14] y32.r1 (.post [] (.block 0 (.loop y32.l0))))⟩
theorem y32.ok:y1v Tryz.prog Tryz.f136 y32=true:=by kernel_rfl
theorem y32.at:Tryz.prog.funcs[yce]?=some Tryz.f136:=Tryz.func136
def y1i.r0:jI:=[a16 2 0]
def y1i.r1:jI:=[ac 3 1 1,ae 4 0 2,ac 5 1 4,⟨some 6,none,.call y4c [.t 3,.t 5]⟩]
def y1i.r2:jI:=[ac 7 1 1,ae 8 1 2,ac 9 1 8,⟨some 10,none,.call y3d [.t 7,.t 9]⟩]
def y1i.r3:jI:=[ac 11 1 1,ae 12 2 2,ac 13 1 12,⟨some 14,none,.call y3d [.t 11,.t 13]⟩]
def y1i.r4:jI:=[ac 15 1 1,ae 16 3 2,ac 17 1 16,⟨some 18,none,.call y4c [.t 15,.t 17]⟩]
def y1i.r5:jI:=[ac 19 1 1,ae 20 4 2,ac 21 1 20,⟨some 22,none,.call y3d [.t 19,.t 21]⟩]
def y1i.r6:jI:=[ac 23 1 1,ae 24 5 2,ac 25 1 24,ac 26 1 1,⟨some 27,none,.op (.mkfb y3d [.t 26])⟩,⟨some 28,none,.call y6e [.t 23,.t 25,.t 27]⟩]
def y1i:AFunc:=⟨29,[],jJ [1,2] y1i.r0 (jJ [1,2] y1i.r1 (jJ [1,2] y1i.r2 (jJ [1,2] y1i.r3 (jJ [1,2] y1i.r4 (jJ [1,2] y1i.r5 (jK [] y1i.r6))))))⟩
theorem y1i.ok:y1v Tryz.prog Tryz.f139 y1i=true:=by kernel_rfl
theorem y1i.at:Tryz.prog.funcs[y6t]?=some Tryz.f139:=Tryz.func139
def y2v.r0:jI:=[ab 8 0,ab 9 1,am 10 9,⟨some 11,none,.call y4c [.t 8,.t 10]⟩]
def y2v.r1:jI:=[ab 12 1,am 13 12,af 14 0]
def y2v.r2:jI:=[ap 15 14 13]
def y2v.r3:jI:=[av 16 6 12 14,a10 17 6 16,a2g 7 0 0 0 0,ak 6 7 17]
def y2v.r4:jI:=[ab 18 2,a10 19 6 7,a1f 20 18 19]
def y2v.r5:jI:=[ar 21 14 1,ab 14 21]
def y2v.l0:ACode:=jJ [2,12,13,14,15] y2v.r2 (.seq (.post [2,12,13,14] (.cond (.t 15) (.skip) (.exit 0))) (.seq (.post [2,12,13,14] (.block 1 (jJ [2,7,12,13,14] y2v.r3 (jK [2,12,13,14] y2v.r4)))) (jK [2,12,13,14] y2v.r5)))
def y2v:AFunc:=⟨22,[],jJ [1,2] y2v.r0 (jJ [2,12,13,14] y2v.r1 (.post [] (.block 0 (.loop y2v.l0))))⟩
theorem y2v.ok:y1v Tryz.prog Tryz.f138 y2v=true:=by kernel_rfl
theorem y2v.at:Tryz.prog.funcs[yc0]?=some Tryz.f138:=Tryz.func138
def y1e.r0:jI:=[a1m 2 0,a16 3 1]
def y1e.r1:jI:=[ac 4 1 2,ae 5 0 3,ac 6 1 5,⟨some 7,none,.call y3d [.t 4,.t 6]⟩]
def y1e.r2:jI:=[ac 8 1 2,ae 9 1 3,ac 10 1 9,ac 11 1 2,⟨some 12,none,.op (.mkfb y3d [.t 11])⟩,⟨some 13,none,.call y6e [.t 8,.t 10,.t 12]⟩]
def y1e.r3:jI:=[ac 14 1 2,ae 15 2 3,ac 16 1 15,ac 17 1 2,⟨some 18,none,.op (.mkfb y3d [.t 17])⟩,⟨some 19,none,.call y6e [.t 14,.t 16,.t 18]⟩]
def y1e.r4:jI:=[ac 20 1 2,ae 21 3 3,ac 22 1 21,ac 23 1 2,⟨some 24,none,.op (.mkfb y3d [.t 23])⟩,⟨some 25,none,.call y6e [.t 20,.t 22,.t 24]⟩]
def y1e.r5:jI:=[ac 26 1 2,ae 27 4 3,ae 28 0 27,ac 29 1 28,⟨some 30,none,.op (.mkfn y6v [.t 2])⟩,⟨some 31,none,.call ybz [.t 26,.t 29,.t 30]⟩]
def y1e.r6:jI:=[ac 32 1 2,ae 33 4 3,ae 34 1 33,ac 35 1 34,⟨some 36,none,.op (.mkfn y6u [.t 2])⟩,⟨some 37,none,.call yce [.t 32,.t 35,.t 36]⟩]
def y1e.r7:jI:=[ac 38 1 2,ae 39 4 3,ae 40 2 39,ac 41 1 40,⟨some 42,none,.op (.mkfn y6t [.t 2])⟩,⟨some 43,none,.call yc0 [.t 38,.t 41,.t 42]⟩]
def y1e:AFunc:=⟨44,[],jJ [2,3] y1e.r0 (jJ [2,3] y1e.r1 (jJ [2,3] y1e.r2 (jJ [2,3] y1e.r3 (jJ [2,3] y1e.r4 (jJ [2,3] y1e.r5 (jJ [2,3] y1e.r6 (jK [] y1e.r7)))))))⟩
theorem y1e.ok:y1v Tryz.prog Tryz.f72 y1e=true:=by kernel_rfl
theorem y1e.at:Tryz.prog.funcs[y79]?=some Tryz.f72:=Tryz.func72
def y35.r0:jI:=[af 5 0]
def y35.r1:jI:=[ac 6 1 2,aq 7 6,ae 8 0 7,ac 9 1 8,ab 10 0,av 11 1 9 10,ac 12 1 11,ab 13 1,⟨some 14,none,.call y5f [.t 12,.t 13]⟩,ab 5 14]
def y35:AFunc:=⟨15,[.t 5],jJ [0,1,2] y35.r0 (jJ [5] y35.r1 (.ret))⟩
theorem y35.ok:y1v Tryz.prog Tryz.f207 y35=true:=by kernel_rfl
theorem y35.at:Tryz.prog.funcs[y75]?=some Tryz.f207:=Tryz.func207
def y6.r0:jI:=[af 6 0,an 7]
def y6.r1:jI:=[ab 12 0,am 13 12,ab 8 13]
def y6.r2:jI:=[ab 14 8,af 9 0,ab 10 14]
def y6.r3:jI:=[ab 15 9,ab 16 10,ap 17 15 16]
def y6.r4:jI:=[ab 18 9,ab 19 10,a18 20 18 19,a3b 21 20,a28 22 21 1,a3c 23 22,ab 11 23]
def y6.r5:jI:=[ab 24 2,ab 25 0,ab 26 11,av 27 1 25 26,ac 28 1 27,ab 29 1,⟨some 30,none,.callv (.t 24) [.t 28,.t 29]⟩,a1p 31 30 0]
def y6.r6:jI:=[ab 32 11,ar 33 32 1,ab 9 33]
def y6.r7:jI:=[ab 34 11,ab 10 34]
def y6.l0:ACode:=.seq (jJ [0,1,2,8,9,10,17] y6.r3 (.post [0,1,2,8,9,10] (.cond (.t 17) (.skip) (.exit 0)))) (.post [0,1,2,8,9,10] (.block 1 (jJ [0,1,2,8,9,10,11] y6.r4 (jJ [0,1,2,8,9,10,11,31] y6.r5 (.post [0,1,2,8,9,10] (.cond (.t 31) (jK [0,1,2,8,9,10] y6.r6) (jK [0,1,2,8,9,10] y6.r7)))))))
def y6.r8:jI:=[ab 35 9,ab 36 9,ab 37 8,ap 38 36 37,ab 39 38,ah 40 39 2,ah 41 39 0,ah 42 39 9,a1k 43 39 1 41 42,a11 44 39 1 43,ah 45 39 1,a34 46 39 40 44 45,a1o 47 39 46 0,aj 48 39 47,ab 6 35,ab 7 48]
def y6:AFunc:=⟨49,[.t 6,.t 7],jJ [0,1,2] y6.r0 (jJ [0,1,2,8] y6.r1 (jJ [0,1,2,8,9,10] y6.r2 (.seq (.post [0,1,2,8,9] (.block 0 (.loop y6.l0))) (jJ [6,7] y6.r8 (.ret)))))⟩
theorem y6.ok:y1v Tryz.prog Tryz.f206 y6=true:=by kernel_rfl
theorem y6.at:Tryz.prog.funcs[y59]?=some Tryz.f206:=Tryz.func206
def y3b.r0:jI:=[a1m 2 0,af 4 0,an 5]
def y3b.r1:jI:=[ac 6 1 2,aq 7 6,ae 8 1 7,ac 9 1 8,ab 10 1,⟨some 11,none,.op (.mkfn y75 [.t 2])⟩,⟨some 12,none,.call y59 [.t 9,.t 10,.t 11]⟩,ai 13 0 12,ai 14 1 12,ab 4 13,ab 5 14]
def y3b:AFunc:=⟨15,[.t 4,.t 5],jJ [1,2] y3b.r0 (jJ [4,5] y3b.r1 (.ret))⟩
theorem y3b.ok:y1v Tryz.prog Tryz.f182 y3b=true:=by kernel_rfl
theorem y3b.at:Tryz.prog.funcs[y7l]?=some Tryz.f182:=Tryz.func182
def y10.r0:jI:=[af 4 0,an 5]
def y10.r1:jI:=[ab 10 0,ab 11 1,⟨some 12,none,.call y7l [.t 10,.t 11]⟩,ab 9 12,ai 13 0 9,ai 14 1 9,ab 6 13,ab 7 14]
def y10.r2:jI:=[ab 15 7]
def y10.r3:jI:=[ab 16 0,aq 17 16,ae 18 1 17,ac 19 1 18,ab 20 6,av 21 1 19 20,ac 22 1 21,ab 4 22,an 5]
def y10.r4:jI:=[ab 23 0,aq 24 23,ae 25 0 24,ac 26 1 25,am 27 26,ab 8 27]
def y10.r5:jI:=[ab 28 0,ab 29 0,aq 30 29,ae 31 0 30,ac 32 1 31,ab 33 1,a2l 34 1 1 0 1 33,a1l 35 1 16 32 34,aq 36 28,ae 37 0 36,ak 1 37 35]
def y10.r6:jI:=[ab 38 0,ab 39 0,aq 40 39,ae 41 1 40,ac 42 1 41,ab 43 6,ab 44 8,⟨some 45,none,.op (.bsl 1 [.i .i64 0] [(0,1,.t 44)])⟩,⟨some 46,none,.call yei [.t 42,.t 43,.t 45]⟩,aq 47 38,ae 48 1 47,ak 1 48 46]
def y10.r7:jI:=[ab 49 8,ab 4 49,a1b 5]
def y10:AFunc:=⟨50,[.t 4,.t 5],jJ [0,1] y10.r0 (jJ [0,1,6,7] y10.r1 (.seq (jJ [0,1,6,15] y10.r2 (.post [0,1,6] (.cond (.t 15) (jJ [4,5] y10.r3 (.ret)) (.skip)))) (jJ [0,1,6,8] y10.r4 (jJ [0,6,8] y10.r5 (jJ [8] y10.r6 (jJ [4,5] y10.r7 (.ret)))))))⟩
theorem y10.ok:y1v Tryz.prog Tryz.f140 y10=true:=by kernel_rfl
theorem y10.at:Tryz.prog.funcs[y86]?=some Tryz.f140:=Tryz.func140
def y18.r0:jI:=[ac 5 1 1,aq 6 5,ae 7 1 6,ac 8 1 7,⟨some 9,none,.call y7p [.t 8]⟩,am 10 9,af 11 0]
def y18.r1:jI:=[ap 12 11 10]
def y18.r2:jI:=[av 13 1 9 11,ac 14 1 13,ab 4 14]
def y18.r3:jI:=[ab 15 0,ac 16 1 1,aq 17 16,ae 18 0 17,ac 19 1 18,ab 20 4,av 21 1 19 20,ac 22 1 21,ab 23 4,⟨some 24,none,.callv (.t 15) [.t 22,.t 23]⟩,a1a 25 24]
def y18.r4:jI:=[ar 26 11 1,ab 11 26]
def y18.l0:ACode:=jJ [0,1,9,10,11,12] y18.r1 (.seq (.post [0,1,9,10,11] (.cond (.t 12) (.skip) (.exit 0))) (.seq (.post [0,1,9,10,11] (.block 1 (jJ [0,1,4,9,10,11] y18.r2 (jJ [0,1,9,10,11,25] y18.r3 (.post [0,1,9,10,11] (.cond (.t 25) (.ret) (.skip))))))) (jK [0,1,9,10,11] y18.r4)))
def y18:AFunc:=⟨27,[],jJ [0,1,9,10,11] y18.r0 (.post [] (.block 0 (.loop y18.l0)))⟩
theorem y18.ok:y1v Tryz.prog Tryz.f184 y18=true:=by kernel_rfl
theorem y18.at:Tryz.prog.funcs[y63]?=some Tryz.f184:=Tryz.func184
def y3a.r0:jI:=[a1m 1 0,⟨some 2,none,.op (.mov (.c (.nf)))⟩]
def y3a.r1:jI:=[⟨some 3,none,.op (.mkfn y63 [.t 1])⟩,ab 2 3]
def y3a:AFunc:=⟨4,[.t 2],jJ [1] y3a.r0 (jJ [2] y3a.r1 (.ret))⟩
theorem y3a.ok:y1v Tryz.prog Tryz.f141 y3a=true:=by kernel_rfl
theorem y3a.at:Tryz.prog.funcs[y7a]?=some Tryz.f141:=Tryz.func141
def yi.r0:jI:=[a1i 2 0 0]
def yi.r1:jI:=[⟨some 8,none,.op (.build [.sl none 0 0,.sl none 0 0] [])⟩,a1m 9 8,ab 3 9]
def yi.r2:jI:=[ab 10 0,am 11 10,af 12 0]
def yi.r3:jI:=[ap 13 12 11]
def yi.r4:jI:=[av 14 1 10 12,ac 15 1 14,ab 5 15]
def yi.r5:jI:=[ab 16 3,ab 17 5,⟨some 18,none,.call y86 [.t 16,.t 17]⟩]
def yi.r6:jI:=[ar 19 12 1,ab 12 19]
def yi.l0:ACode:=jJ [2,3,10,11,12,13] yi.r3 (.seq (.post [2,3,10,11,12] (.cond (.t 13) (.skip) (.exit 0))) (.seq (.post [2,3,10,11,12] (.block 1 (jJ [2,3,5,10,11,12] yi.r4 (jK [2,3,10,11,12] yi.r5)))) (jK [2,3,10,11,12] yi.r6)))
def yi.r7:jI:=[⟨some 6,none,.op (.new [.sl none 0 0])⟩]
def yi.r8:jI:=[ab 20 3,⟨some 21,none,.call y7a [.t 20]⟩]
def yi.r9:jI:=[ab 7 22]
def yi.r10:jI:=[ac 24 1 6,ab 25 7,a2l 26 1 1 0 1 25,a1l 27 1 16 24 26,ak 1 6 27]
def yi.a1:ACode:=jK [6,7] yi.r9
def yi.b1:ACode:=.post [] (.block 3 (jK [] yi.r10))
def yi.r11:jI:=[ac 28 1 6,ab 2 28]
def yi:AFunc:=⟨29,[.t 2],jJ [0,2] yi.r0 (jJ [0,2,3] yi.r1 (.seq (jJ [2,3,10,11,12] yi.r2 (.post [2,3] (.block 0 (.loop yi.l0)))) (jJ [2,3,6] yi.r7 (.seq (jJ [2,6,21] yi.r8 (.post [6] (.block 2 (.post [6] (.rangeFunc (.t 21) [22,23] yi.a1 yi.b1))))) (jJ [2] yi.r11 (.ret))))))⟩
theorem yi.ok:y1v Tryz.prog Tryz.f73 yi=true:=by kernel_rfl
theorem yi.at:Tryz.prog.funcs[y7s]?=some Tryz.f73:=Tryz.func73
def y3t.r0:jI:=[a16 1 0,a1i 2 0 0]
def y3t.r1:jI:=[⟨some 3,none,.op (.new [.sl none 0 0])⟩]
def y3t.r2:jI:=[⟨some 5,none,.op (.mkfn y6g [.t 3])⟩,⟨some 6,none,.op (.build [.p none,.sl none 0 0,.i .i64 0,.p none,.nf,.i .i64 0] [(4,1,.t 5)])⟩,a3m 7 109 0 6,ab 4 7]
def y3t.r3:jI:=[ab 8 4,a10 9 7 1,⟨some 10,none,.call y79 [.t 8,.t 9]⟩]
def y3t.r4:jI:=[ac 11 1 3,⟨some 12,none,.call y7s [.t 11]⟩,ab 2 12]
def y3t:AFunc:=⟨13,[.t 2],jJ [1] y3t.r0 (jJ [1,3] y3t.r1 (jJ [1,3,4] y3t.r2 (jJ [3] y3t.r3 (jJ [2] y3t.r4 (.ret)))))⟩
theorem y3t.ok:y1v Tryz.prog Tryz.f21 y3t=true:=by kernel_rfl
theorem y3t.at:Tryz.prog.funcs[ybt]?=some Tryz.f21:=Tryz.func21
def y80.r0:jI:=[a23 2]
def y80.r1:jI:=[ab 3 0,⟨some 4,none,.call y7s [.t 3]⟩,⟨some 5,none,.op (.build [.sl none 0 0] [(0,1,.t 4)])⟩,a1m 6 5,ab 2 6]
def y80:AFunc:=⟨7,[.t 2],jJ [0] y80.r0 (jJ [2] y80.r1 (.ret))⟩
theorem y80.ok:y1v Tryz.prog Tryz.f22 y80=true:=by kernel_rfl
theorem y80.at:Tryz.prog.funcs[yj8]?=some Tryz.f22:=Tryz.func22
def y6q:AFunc:=⟨2,[],.skip⟩
theorem y6q.ok:y1v Tryz.prog Tryz.f74 y6q=true:=by kernel_rfl
theorem y6q.at:Tryz.prog.funcs[y74]?=some Tryz.f74:=Tryz.func74
def y38.r0:jI:=[aw 2,af 3 0]
def y38.r1:jI:=[ab 4 0,aq 5 4,ae 6 2 5,ac 7 1 6,a17 8 7 0]
def y38.r2:jI:=[ab 9 0,aq 10 9,ae 11 2 10,ac 12 1 11,aw 2,ab 3 12]
def y38.r3:jI:=[ab 13 0,aq 14 13,ae 15 0 14,⟨some 16,none,.call ye9 [.t 15]⟩,ab 2 16,af 3 0]
def y38:AFunc:=⟨17,[.t 2,.t 3],jJ [0] y38.r0 (.seq (jJ [0,8] y38.r1 (.post [0] (.cond (.t 8) (.seq (.post [2,3] (.draw [0,1,3,7,0,31] y38.r2)) (.ret)) (.skip)))) (jJ [2,3] y38.r3 (.ret)))⟩
theorem y38.ok:y1v Tryz.prog Tryz.f27 y38=true:=by kernel_rfl
theorem y38.at:Tryz.prog.funcs[y8d]?=some Tryz.f27:=Tryz.func27
def y3g.r0:jI:=[a16 3 1,aw 4,af 5 0]
def y3g.r1:jI:=[ab 7 0,⟨some 8,none,.op (.build [.p none,.sl none 0 0,.i .i64 0,.p none,.nf,.i .i64 0] [(3,1,.t 7),(4,1,.c (.fn 74 []))])⟩,a3m 9 109 0 8,ab 6 9]
def y3g.r2:jI:=[ab 10 6,a10 11 7 3,⟨some 12,none,.call y79 [.t 10,.t 11]⟩]
def y3g.r3:jI:=[ab 13 6,aq 14 13,ae 15 5 14,ac 16 1 15,a17 17 16 0]
def y3g.r4:jI:=[ab 18 6,aq 19 18,ae 20 5 19,ac 21 1 20,aw 4,ab 5 21]
def y3g.r5:jI:=[ab 22 6,aq 23 22,ae 24 0 23,⟨some 25,none,.call y8d [.t 24]⟩,ai 26 0 25,ai 27 1 25,ab 4 26,ab 5 27]
def y3g:AFunc:=⟨28,[.t 4,.t 5],jJ [0,3] y3g.r0 (jJ [3,6] y3g.r1 (jJ [6] y3g.r2 (.seq (jJ [6,17] y3g.r3 (.post [6] (.cond (.t 17) (.seq (.post [4,5] (.draw [0,1,3,7,0,31] y3g.r4)) (.ret)) (.skip)))) (jJ [4,5] y3g.r5 (.ret)))))⟩
theorem y3g.ok:y1v Tryz.prog Tryz.f23 y3g=true:=by kernel_rfl
theorem y3g.at:Tryz.prog.funcs[ydu]?=some Tryz.f23:=Tryz.func23
def y3h.r0:jI:=[af 4 0]
def y3h.r1:jI:=[af 5 0]
def y3h.r2:jI:=[ab 6 5,ab 7 0,a15 8 7,ab 9 1,a15 10 9,⟨some 11,none,.op (.mn [.t 8,.t 10])⟩,ap 12 6 11,ab 13 12,ah 14 13 0,ah 15 13 5,a29 16 13 14 15,ah 17 13 1,ah 18 13 5,a29 19 13 17 18,a2d 20 13 16 19,aj 21 13 20]
def y3h.r3:jI:=[ab 22 5,ar 23 22 1,ab 5 23]
def y3h.l0:ACode:=.seq (.seq (.post [0,1,5,21] (.draw [0,0,2,0,8,30,63,127,255,255,1023,255,255,6399,16383,32767] y3h.r2)) (.post [0,1,5] (.cond (.t 21) (.skip) (.exit 0)))) (.post [0,1,5] (.block 1 (jK [0,1,5] y3h.r3)))
def y3h.r4:jI:=[ab 24 5,ab 4 24]
def y3h:AFunc:=⟨25,[.t 4],jJ [0,1] y3h.r0 (jJ [0,1,5] y3h.r1 (.seq (.post [5] (.block 0 (.loop y3h.l0))) (jJ [4] y3h.r4 (.ret))))⟩
theorem y3h.ok:y1v Tryz.prog Tryz.f78 y3h=true:=by kernel_rfl
theorem y3h.at:Tryz.prog.funcs[yci]?=some Tryz.f78:=Tryz.func78
def y24.r0:jI:=[af 4 0,a3d 5]
def y24.r1:jI:=[ab 6 0,⟨some 7,none,.call y7j [.t 6]⟩]
def y24.r2:jI:=[ab 8 0,ab 9 0,aq 10 9,ae 11 1 10,ac 12 1 11,ab 13 1,⟨some 14,none,.op (.appT 5 1 1 (.t 12) (.t 13))⟩,aq 15 8,ae 16 1 15,ak 1 16 14]
def y24.r3:jI:=[ab 17 1,a15 18 17,ab 4 18,a3d 5]
def y24:AFunc:=⟨19,[.t 4,.t 5],jJ [0,1] y24.r0 (jJ [0,1] y24.r1 (jJ [1] y24.r2 (jJ [4,5] y24.r3 (.ret))))⟩
theorem y24.ok:y1v Tryz.prog Tryz.f79 y24=true:=by kernel_rfl
theorem y24.at:Tryz.prog.funcs[y73]?=some Tryz.f79:=Tryz.func79
def y2e.r0:jI:=[ab 4 0,aq 5 4,ae 6 2 5,ac 7 1 6,a12 8 7 0,ab 9 8,ah 10 9 1,a1n 11 9 10,a35 12 9 11 200000,aj 13 9 12]
def y2e.r1:jI:=[ab 14 0,aq 15 14,ae 16 2 15,a2b 1 16 9]
def y2e.r2:jI:=[ab 17 0,aq 18 17,ae 19 2 18,ac 20 1 19,a12 21 20 0]
def y2e.r3:jI:=[ab 22 0,ab 23 1,a15 24 23,⟨some 25,none,.call y5p [.t 22,.t 24]⟩]
def y2e.r4:jI:=[ab 26 0,aq 27 26,ae 28 0 27,ab 29 1,⟨some 30,none,.call y73 [.t 28,.t 29]⟩]
def y2e:AFunc:=⟨31,[],.seq (jJ [0,1,13] y2e.r0 (.post [0,1] (.cond (.t 13) (jK [0,1] y2e.r1) (.skip)))) (jJ [0,1,21] y2e.r2 (.post [] (.cond (.t 21) (jJ [0,1] y2e.r3 (jK [] y2e.r4)) (.skip))))⟩
theorem y2e.ok:y1v Tryz.prog Tryz.f26 y2e=true:=by kernel_rfl
theorem y2e.at:Tryz.prog.funcs[y8c]?=some Tryz.f26:=Tryz.func26
def y1g.r0:jI:=[ab 9 0,⟨some 10,none,.call y82 [.t 9]⟩,ab 4 10]
def y1g.r1:jI:=[ab 11 1,ab 12 4,am 13 12,⟨some 14,none,.call y5p [.t 11,.t 13]⟩]
def y1g.r2:jI:=[aw 5]
def y1g.r3:jI:=[ab 15 4,am 16 15,af 17 0]
def y1g.r4:jI:=[ap 18 17 16]
def y1g.r5:jI:=[av 19 1 15 17,ac 20 1 19,ab 7 20]
def y1g.r6:jI:=[ab 21 5,ab 22 7,⟨some 23,none,.call yci [.t 21,.t 22]⟩,ab 8 23]
def y1g.r7:jI:=[ab 24 1,ab 25 8,⟨some 26,none,.call y5p [.t 24,.t 25]⟩]
def y1g.r8:jI:=[ab 27 1,ab 28 7,ab 29 8,a26 30 28 29,⟨some 31,none,.call y8c [.t 27,.t 30]⟩]
def y1g.r9:jI:=[ab 32 7,ab 5 32]
def y1g.r10:jI:=[ar 33 17 1,ab 17 33]
def y1g.l0:ACode:=jJ [1,5,15,16,17,18] y1g.r4 (.seq (.post [1,5,15,16,17] (.cond (.t 18) (.skip) (.exit 0))) (.seq (.post [1,5,15,16,17] (.block 1 (jJ [1,5,7,15,16,17] y1g.r5 (jJ [1,7,8,15,16,17] y1g.r6 (jJ [1,7,8,15,16,17] y1g.r7 (jJ [1,7,15,16,17] y1g.r8 (jK [1,5,15,16,17] y1g.r9))))))) (jK [1,5,15,16,17] y1g.r10)))
def y1g:AFunc:=⟨34,[],jJ [1,4] y1g.r0 (jJ [1,4] y1g.r1 (jJ [1,4,5] y1g.r2 (jJ [1,5,15,16,17] y1g.r3 (.post [] (.block 0 (.loop y1g.l0))))))⟩
theorem y1g.ok:y1v Tryz.prog Tryz.f25 y1g=true:=by kernel_rfl
theorem y1g.at:Tryz.prog.funcs[ybm]?=some Tryz.f25:=Tryz.func25
def y5i.r0:jI:=[a3e 2 0]
def y5i.r1:jI:=[ab 3 0,aq 4 3,ae 5 0 4,ac 6 1 5,a3f 7 6 11994318,ab 2 7]
def y5i:AFunc:=⟨8,[.t 2],jJ [0] y5i.r0 (jJ [2] y5i.r1 (.ret))⟩
theorem y5i.ok:y1v Tryz.prog Tryz.f145 y5i=true:=by kernel_rfl
theorem y5i.at:Tryz.prog.funcs[yb1]?=some Tryz.f145:=Tryz.func145
def y1a.r0:jI:=[ab 6 0,⟨some 7,none,.call yb1 [.t 6]⟩,ab 4 7]
def y1a.r1:jI:=[ab 8 1,a15 9 8,af 10 0]
def y1a.r2:jI:=[ap 11 10 9]
def y1a.r3:jI:=[ab 12 10,ab 5 12]
def y1a.r4:jI:=[ab 13 4,ab 14 1,ab 15 5,a1r 16 14 15,⟨some 17,none,.op (.conv .u32 (.t 16))⟩,a3n 18 17 16,⟨some 19,none,.op (.bin .xor (.t 13) (.t 18))⟩,ab 4 19]
def y1a.r5:jI:=[af 20 0]
def y1a.r6:jI:=[a1p 21 20 8]
def y1a.r7:jI:=[ab 22 4,a3n 23 22 1,ab 4 23]
def y1a.r8:jI:=[ab 24 4,⟨some 25,none,.op (.bin .and (.t 24) (.c (.i .u32 16777216)))⟩,⟨some 26,none,.op (.bin .neq (.t 25) (.c (.i .u32 0)))⟩]
def y1a.r9:jI:=[ab 27 4,a3f 28 27 25578747,ab 4 28]
def y1a.r10:jI:=[ar 29 20 1,ab 20 29]
def y1a.l1:ACode:=jJ [0,1,4,9,10,20,21] y1a.r6 (.seq (.post [0,1,4,9,10,20] (.cond (.t 21) (.skip) (.exit 2))) (.seq (.post [0,1,4,9,10,20] (.block 3 (jJ [0,1,4,9,10,20] y1a.r7 (jJ [0,1,4,9,10,20,26] y1a.r8 (.post [0,1,4,9,10,20] (.cond (.t 26) (jK [0,1,4,9,10,20] y1a.r9) (.skip))))))) (jK [0,1,4,9,10,20] y1a.r10)))
def y1a.r11:jI:=[ar 30 10 1,ab 10 30]
def y1a.l0:ACode:=jJ [0,1,4,9,10,11] y1a.r2 (.seq (.post [0,1,4,9,10] (.cond (.t 11) (.skip) (.exit 0))) (.seq (.post [0,1,4,9,10] (.block 1 (jJ [0,1,4,5,9,10] y1a.r3 (jJ [0,1,4,9,10] y1a.r4 (jJ [0,1,4,9,10,20] y1a.r5 (.post [0,1,4,9,10] (.block 2 (.loop y1a.l1)))))))) (jK [0,1,4,9,10] y1a.r11)))
def y1a.r12:jI:=[ab 31 0,ab 32 4,a3f 33 32 11994318,aq 34 31,ae 35 0 34,ak 1 35 33]
def y1a:AFunc:=⟨36,[],jJ [0,1,4] y1a.r0 (.seq (jJ [0,1,4,9,10] y1a.r1 (.post [0,4] (.block 0 (.loop y1a.l0)))) (jK [] y1a.r12))⟩
theorem y1a.ok:y1v Tryz.prog Tryz.f144 y1a=true:=by kernel_rfl
theorem y1a.at:Tryz.prog.funcs[yd0]?=some Tryz.f144:=Tryz.func144
def y6p.r0:jI:=[a3e 2 0]
def y6p.r1:jI:=[⟨some 3,none,.op (.new [.i .u32 0])⟩]
def y6p.r2:jI:=[ab 4 0,⟨some 5,none,.call yd0 [.t 3,.t 4]⟩]
def y6p.r3:jI:=[⟨some 6,none,.call yb1 [.t 3]⟩,ab 2 6]
def y6p:AFunc:=⟨7,[.t 2],jJ [0] y6p.r0 (jJ [0,3] y6p.r1 (jJ [3] y6p.r2 (jJ [2] y6p.r3 (.ret))))⟩
theorem y6p.ok:y1v Tryz.prog Tryz.f81 y6p=true:=by kernel_rfl
theorem y6p.at:Tryz.prog.funcs[yle]?=some Tryz.f81:=Tryz.func81
def y69.r0:jI:=[aw 2]
def y69.r1:jI:=[ab 4 0,⟨some 5,none,.call yle [.t 4]⟩,ab 3 5]
def y69.r2:jI:=[ab 6 0,ab 7 3,a28 8 7 16,a1s 9 8,ab 10 3,a28 11 10 8,a1s 12 11,ab 13 3,a1s 14 13,⟨some 15,none,.op (.bsl 3 [.i .u8 0] [(0,1,.t 9),(1,1,.t 12),(2,1,.t 14)])⟩,a2m 16 15,a18 17 6 16,ab 2 17]
def y69:AFunc:=⟨18,[.t 2],jJ [0] y69.r0 (jJ [0,3] y69.r1 (jJ [2] y69.r2 (.ret)))⟩
theorem y69.ok:y1v Tryz.prog Tryz.f28 y69=true:=by kernel_rfl
theorem y69.at:Tryz.prog.funcs[yfr]?=some Tryz.f28:=Tryz.func28
def yb.r0:jI:=[a16 1 0,aw 2,af 3 0]
def yb.r1:jI:=[a10 14 7 1,⟨some 15,none,.call yaw [.t 14]⟩,ab 4 15]
def yb.r2:jI:=[ab 16 4,a17 17 16 0]
def yb.r3:jI:=[ab 18 4,aw 2,ab 3 18]
def yb.r4:jI:=[a10 19 7 1,⟨some 20,none,.call ybt [.t 19]⟩,ab 5 20]
def yb.r5:jI:=[ab 21 5,am 22 21,a19 23 22 6000]
def yb.r6:jI:=[aw 2,af 3 4]
def yb.r7:jI:=[ab 24 5,am 25 24,af 26 0]
def yb.r8:jI:=[ap 27 26 25]
def yb.r9:jI:=[av 28 1 24 26,ac 29 1 28,ab 7 29]
def yb.r10:jI:=[ab 30 7,a15 31 30,a19 32 31 1000]
def yb.r11:jI:=[aw 2,af 3 9]
def yb.r12:jI:=[ar 33 26 1,ab 26 33]
def yb.l0:ACode:=jJ [1,5,24,25,26,27] yb.r8 (.seq (.post [1,5,24,25,26] (.cond (.t 27) (.skip) (.exit 0))) (.seq (.post [1,5,24,25,26] (.block 1 (jJ [1,5,7,24,25,26] yb.r9 (jJ [1,5,24,25,26,32] yb.r10 (.post [1,5,24,25,26] (.cond (.t 32) (jJ [2,3] yb.r11 (.ret)) (.skip))))))) (jK [1,5,24,25,26] yb.r12)))
def yb.r13:jI:=[ab 34 5,⟨some 35,none,.call yj8 [.t 34]⟩,ab 8 35]
def yb.r14:jI:=[ab 37 8,a10 38 7 1,⟨some 39,none,.call ydu [.t 37,.t 38]⟩,ab 36 39,ai 40 0 36,ai 41 1 36,ab 9 40,ab 10 41]
def yb.r15:jI:=[ab 42 10,a17 43 42 0]
def yb.r16:jI:=[ab 44 10,aw 2,ab 3 44]
def yb.r17:jI:=[⟨some 45,none,.op (.build [.p none,.sl none 0 0,.i .i64 0] [])⟩,a3m 46 58 0 45,ab 11 46]
def yb.r18:jI:=[ab 47 11,⟨some 48,none,.call y5p [.t 47,.c (.i .i64 1)]⟩]
def yb.r19:jI:=[ab 49 8,ab 50 11,⟨some 51,none,.call ybm [.t 49,.t 50]⟩]
def yb.r20:jI:=[ab 52 11,ab 53 9,⟨some 54,none,.call y8c [.t 52,.t 53]⟩]
def yb.r21:jI:=[ab 56 11,⟨some 57,none,.call y8d [.t 56]⟩,ab 55 57,ai 58 0 55,ai 59 1 55,ab 12 58,ab 10 59]
def yb.r22:jI:=[ab 60 10,a17 61 60 0]
def yb.r23:jI:=[ab 62 10,aw 2,ab 3 62]
def yb.r24:jI:=[ab 63 12,⟨some 64,none,.op (.bin .add (.c (.s [119,101,102,116])) (.t 63))⟩,⟨some 65,none,.call yfr [.t 64]⟩,ab 13 65]
def yb.r25:jI:=[ab 66 13,a15 67 66,a19 68 67 200000]
def yb.r26:jI:=[aw 2,af 3 9]
def yb.r27:jI:=[ab 69 13,ab 2 69,af 3 0]
def yb:AFunc:=⟨70,[.t 2,.t 3],jJ [1] yb.r0 (.seq (jJ [1,4] yb.r1 (jJ [1,4,17] yb.r2 (.post [1] (.cond (.t 17) (jJ [2,3] yb.r3 (.ret)) (.skip))))) (jJ [1,5] yb.r4 (.seq (jJ [1,5,23] yb.r5 (.post [1,5] (.cond (.t 23) (jJ [2,3] yb.r6 (.ret)) (.skip)))) (.seq (jJ [1,5,24,25,26] yb.r7 (.post [1,5] (.block 0 (.loop yb.l0)))) (jJ [1,8] yb.r13 (jJ [8,9,10] yb.r14 (.seq (jJ [8,9,10,43] yb.r15 (.post [8,9] (.cond (.t 43) (jJ [2,3] yb.r16 (.ret)) (.skip)))) (jJ [8,9,11] yb.r17 (jJ [8,9,11] yb.r18 (jJ [9,11] yb.r19 (jJ [11] yb.r20 (jJ [10,12] yb.r21 (.seq (jJ [10,12,61] yb.r22 (.post [12] (.cond (.t 61) (jJ [2,3] yb.r23 (.ret)) (.skip)))) (jJ [13] yb.r24 (.seq (jJ [13,68] yb.r25 (.post [13] (.cond (.t 68) (jJ [2,3] yb.r26 (.ret)) (.skip)))) (jJ [2,3] yb.r27 (.ret)))))))))))))))))⟩
theorem yb.ok:y1v Tryz.prog Tryz.f8 yb=true:=by kernel_rfl
theorem yb.at:Tryz.prog.funcs[yad]?=some Tryz.f8:=Tryz.func8
def y4q.r0:jI:=[an 2]
def y4q.r1:jI:=[ab 3 0,a2q 4 3 65,ab 5 4,ah 6 5 0,a2h 7 5 6 90,aj 8 5 7,ab 9 8,a14 10 9 0,⟨some 11,(some (9,false)),.op (.bin .geq (.t 10) (.c (.i .u8 97)))⟩,a14 12 9 11,ah 13 12 0,a2h 14 12 13 122,a1e 15 9 12 14,ax 16 9 15,ab 17 16,a14 18 17 0,⟨some 19,(some (17,false)),.op (.bin .eql (.t 18) (.c (.i .u8 95)))⟩,ax 20 17 19,ab 2 20]
def y4q:AFunc:=⟨21,[.t 2],jJ [0] y4q.r0 (jJ [2] y4q.r1 (.ret))⟩
theorem y4q.ok:y1v Tryz.prog Tryz.f99 y4q=true:=by kernel_rfl
theorem y4q.at:Tryz.prog.funcs[y6y]?=some Tryz.f99:=Tryz.func99
def y4w.r0:jI:=[an 2]
def y4w.r1:jI:=[ab 3 0,a2q 4 3 48,ab 5 4,ah 6 5 0,a2h 7 5 6 57,aj 8 5 7,ab 2 8]
def y4w:AFunc:=⟨9,[.t 2],jJ [0] y4w.r0 (jJ [2] y4w.r1 (.ret))⟩
theorem y4w.ok:y1v Tryz.prog Tryz.f100 y4w=true:=by kernel_rfl
theorem y4w.at:Tryz.prog.funcs[y8l]?=some Tryz.f100:=Tryz.func100
def y1x.r0:jI:=[an 2]
def y1x.r1:jI:=[ab 4 0,a25 5 4,ab 6 5,a14 7 6 0,a1t 8 6 7,a1d 9 6 8 16,ax 10 6 9,ab 11 10,a14 12 11 0,⟨some 13,(some (11,false)),.op (.idx (.t 12) (.c (.i .i64 0)))⟩,⟨some 14,(some (11,false)),.call y6y [.t 13]⟩,a1z 15 11 14,ax 16 11 15]
def y1x.r2:jI:=[an 2]
def y1x.r3:jI:=[af 3 0]
def y1x.r4:jI:=[ab 17 3,ab 18 0,a15 19 18,ap 20 17 19]
def y1x.r5:jI:=[ab 23 0,ab 24 3,a1r 25 23 24,⟨some 26,none,.call y6y [.t 25]⟩,a1a 27 26,ab 28 27,ah 29 28 0,ah 30 28 3,a29 31 28 29 30,⟨some 32,(some (28,true)),.call y8l [.t 31]⟩,a1u 33 28 32,aj 34 28 33]
def y1x.r6:jI:=[an 2]
def y1x.r7:jI:=[ab 21 3,ar 22 21 1,ab 3 22]
def y1x.l0:ACode:=.seq (jJ [0,3,20] y1x.r4 (.post [0,3] (.cond (.t 20) (.skip) (.exit 0)))) (.seq (.post [0,3] (.block 1 (jJ [0,3,34] y1x.r5 (.post [0,3] (.cond (.t 34) (jJ [2] y1x.r6 (.ret)) (.skip)))))) (jK [0,3] y1x.r7))
def y1x.r8:jI:=[a1b 2]
def y1x:AFunc:=⟨35,[.t 2],jJ [0] y1x.r0 (.seq (jJ [0,16] y1x.r1 (.post [0] (.cond (.t 16) (jJ [2] y1x.r2 (.ret)) (.skip)))) (.seq (jJ [0,3] y1x.r3 (.post [] (.block 0 (.loop y1x.l0)))) (jJ [2] y1x.r8 (.ret))))⟩
theorem y1x.ok:y1v Tryz.prog Tryz.f40 y1x=true:=by kernel_rfl
theorem y1x.at:Tryz.prog.funcs[y92]?=some Tryz.f40:=Tryz.func40
def y2d.r0:jI:=[aw 2,aw 3]
def y2d.r1:jI:=[ab 6 0,a15 7 6,a19 8 7 0,ab 9 8,ah 10 9 0,a2s 11 9 10 0,⟨some 12,(some (9,true)),.call y6y [.t 11]⟩,aj 13 9 12,ab 4 13]
def y2d.r2:jI:=[af 5 0]
def y2d.r3:jI:=[ab 14 5,ab 15 0,a15 16 15,ap 17 14 16,ab 18 17,ah 19 18 0,ah 20 18 5,a29 21 18 19 20,⟨some 22,(some (18,true)),.call y8l [.t 21]⟩,ah 23 18 22,a14 24 23 4,a14 25 23 24,ah 26 25 0,ah 27 25 5,a29 28 25 26 27,⟨some 29,(some (25,true)),.call y6y [.t 28]⟩,a1e 30 23 25 29,a1h 31 18 23 30,aj 32 18 31]
def y2d.r4:jI:=[ab 33 5,ar 34 33 1,ab 5 34]
def y2d.l0:ACode:=.seq (jJ [0,4,5,32] y2d.r3 (.post [0,4,5] (.cond (.t 32) (.skip) (.exit 0)))) (.post [0,4,5] (.block 1 (jK [0,4,5] y2d.r4)))
def y2d.r5:jI:=[ab 35 0,ab 36 5,a1w 37 35 36,ab 38 0,ab 39 5,a26 40 38 39,ab 2 37,ab 3 40]
def y2d:AFunc:=⟨41,[.t 2,.t 3],jJ [0] y2d.r0 (jJ [0,4] y2d.r1 (jJ [0,4,5] y2d.r2 (.seq (.post [0,5] (.block 0 (.loop y2d.l0))) (.seq (.post [2,3] (.draw [0,0,3,0,0,24,7,127] y2d.r5)) (.ret)))))⟩
theorem y2d.ok:y1v Tryz.prog Tryz.f189 y2d=true:=by kernel_rfl
theorem y2d.at:Tryz.prog.funcs[y8m]?=some Tryz.f189:=Tryz.func189
def yo.r0:jI:=[af 2 0,af 3 0]
def yo.r1:jI:=[ab 7 0,a25 8 7]
def yo.r2:jI:=[af 2 0,af 3 1]
def yo.r3:jI:=[af 4 0]
def yo.r4:jI:=[ab 9 4,ab 10 0,a15 11 10,ap 12 9 11]
def yo.r5:jI:=[ab 15 0,ab 16 4,a1r 17 15 16,⟨some 18,none,.call y8l [.t 17]⟩,a1a 19 18]
def yo.r6:jI:=[af 2 0,af 3 3]
def yo.r7:jI:=[ab 13 4,ar 14 13 1,ab 4 14]
def yo.l0:ACode:=.seq (jJ [0,4,12] yo.r4 (.post [0,4] (.cond (.t 12) (.skip) (.exit 0)))) (.seq (.post [0,4] (.block 1 (jJ [0,4,19] yo.r5 (.post [0,4] (.cond (.t 19) (jJ [2,3] yo.r6 (.ret)) (.skip)))))) (jK [0,4] yo.r7))
def yo.r8:jI:=[ab 20 0,a2r 21 20 0,a24 22 21 48,ab 23 22,ah 24 23 0,a1n 25 23 24,a35 26 23 25 1,aj 27 23 26]
def yo.r9:jI:=[af 2 0,af 3 3]
def yo.r10:jI:=[af 5 0]
def yo.r11:jI:=[af 6 0]
def yo.r12:jI:=[ab 28 6,ab 29 0,a15 30 29,ap 31 28 30]
def yo.r13:jI:=[ab 34 5,a31 35 10 34,ab 36 0,ab 37 6,a1r 38 36 37,⟨some 39,none,.op (.bin .sub (.t 38) (.c (.i .u8 48)))⟩,a3c 40 39,a18 41 35 40,ab 5 41]
def yo.r14:jI:=[ab 42 5,a19 43 42 268435456]
def yo.r15:jI:=[af 2 0,af 3 2]
def yo.r16:jI:=[ab 32 6,ar 33 32 1,ab 6 33]
def yo.l1:ACode:=.seq (jJ [0,5,6,31] yo.r12 (.post [0,5,6] (.cond (.t 31) (.skip) (.exit 2)))) (.seq (.post [0,5,6] (.block 3 (jJ [0,5,6] yo.r13 (jJ [0,5,6,43] yo.r14 (.post [0,5,6] (.cond (.t 43) (jJ [2,3] yo.r15 (.ret)) (.skip))))))) (jK [0,5,6] yo.r16))
def yo.r17:jI:=[ab 44 5,ab 2 44,af 3 0]
def yo:AFunc:=⟨45,[.t 2,.t 3],jJ [0] yo.r0 (.seq (jJ [0,8] yo.r1 (.post [0] (.cond (.t 8) (jJ [2,3] yo.r2 (.ret)) (.skip)))) (.seq (jJ [0,4] yo.r3 (.post [0] (.block 0 (.loop yo.l0)))) (.seq (jJ [0,27] yo.r8 (.post [0] (.cond (.t 27) (jJ [2,3] yo.r9 (.ret)) (.skip)))) (jJ [0,5] yo.r10 (.seq (jJ [0,5,6] yo.r11 (.post [5] (.block 2 (.loop yo.l1)))) (jJ [2,3] yo.r17 (.ret)))))))⟩
theorem yo.ok:y1v Tryz.prog Tryz.f162 yo=true:=by kernel_rfl
theorem yo.at:Tryz.prog.funcs[y91]?=some Tryz.f162:=Tryz.func162
def yr.r0:jI:=[aw 2,af 3 0,aw 4,aw 5,af 6 0]
def yr.r1:jI:=[ab 16 0,⟨some 17,none,.call y8m [.t 16]⟩,ab 15 17,ai 18 0 15,ai 19 1 15,ab 7 18,ab 8 19]
def yr.r2:jI:=[af 9 0,af 10 (-1)]
def yr.r3:jI:=[ab 20 8,a1x 21 20,ab 22 21,ah 23 22 8,a2s 24 22 23 0,⟨some 25,(some (22,true)),.op (.bin .eql (.t 24) (.c (.i .u8 126)))⟩,aj 26 22 25]
def yr.r4:jI:=[ab 28 8,a2v 29 28 1,⟨some 30,none,.call y8m [.t 29]⟩,ab 27 30,ai 31 0 27,ai 32 1 27,ab 11 31,ab 12 32]
def yr.r5:jI:=[ab 34 11,⟨some 35,none,.call y91 [.t 34]⟩,ab 33 35,ai 36 0 33,ai 37 1 33,ab 9 36]
def yr.r6:jI:=[ab 38 12,ab 8 38]
def yr.r7:jI:=[aw 13,aw 14]
def yr.r8:jI:=[ab 39 8,a1x 40 39,ab 41 40,ah 42 41 8,a2s 43 41 42 0,⟨some 44,(some (41,true)),.op (.bin .neq (.t 43) (.c (.i .u8 43)))⟩,aj 45 41 44]
def yr.r9:jI:=[ab 46 8,⟨some 47,none,.op (.sls (.t 46) none (some (.c (.i .i64 1))))⟩,ab 13 47]
def yr.r10:jI:=[ab 49 8,a2v 50 49 1,⟨some 51,none,.call y8m [.t 50]⟩,ab 48 51,ai 52 0 48,ai 53 1 48,ab 14 52,ab 8 53]
def yr.r11:jI:=[ab 54 13,a36 55 54 40,ab 56 55,ah 57 56 8,⟨some 58,(some (56,true)),.op (.bin .eql (.t 57) (.c (.s [41])))⟩,aj 59 56 58]
def yr.r12:jI:=[aw 8]
def yr.r13:jI:=[ab 60 8,a1x 61 60,ab 62 61,ah 63 62 8,a2s 64 62 63 0,⟨some 65,(some (62,true)),.op (.bin .eql (.t 64) (.c (.i .u8 43)))⟩,aj 66 62 65]
def yr.r14:jI:=[ab 68 8,a2v 69 68 1,⟨some 70,none,.call y91 [.t 69]⟩,ab 67 70,ai 71 0 67,ai 72 1 67,ab 10 71]
def yr.r15:jI:=[ab 73 7,ab 74 9,ab 75 13,ab 76 14,ab 77 10,ab 2 73,ab 3 74,ab 4 75,ab 5 76,ab 6 77]
def yr:AFunc:=⟨78,[.t 2,.t 3,.t 4,.t 5,.t 6],jJ [0] yr.r0 (jJ [7,8] yr.r1 (jJ [7,8,9,10] yr.r2 (.seq (jJ [7,8,9,10,26] yr.r3 (.post [7,8,9,10] (.cond (.t 26) (jJ [7,10,11,12] yr.r4 (jJ [7,9,10,12] yr.r5 (jK [7,8,9,10] yr.r6))) (.skip)))) (jJ [7,8,9,10,13,14] yr.r7 (.seq (jJ [7,8,9,10,13,14,45] yr.r8 (.post [7,8,9,10,13,14] (.cond (.t 45) (jJ [7,8,9,10,13] yr.r9 (jJ [7,8,9,10,13,14] yr.r10 (jJ [7,8,9,10,13,14,59] yr.r11 (.post [7,8,9,10,13,14] (.cond (.t 59) (jK [7,8,9,10,13,14] yr.r12) (.skip)))))) (.skip)))) (.seq (jJ [7,8,9,10,13,14,66] yr.r13 (.post [7,9,10,13,14] (.cond (.t 66) (jK [7,9,10,13,14] yr.r14) (.skip)))) (jJ [2,3,4,5,6] yr.r15 (.ret))))))))⟩
theorem yr.ok:y1v Tryz.prog Tryz.f161 yr=true:=by kernel_rfl
theorem yr.at:Tryz.prog.funcs[ybg]?=some Tryz.f161:=Tryz.func161
def y4v.r0:jI:=[an 2]
def y4v.r1:jI:=[ab 3 0,a1c 4 3 0,ab 5 4,ah 6 5 0,a1y 7 5 6 268435456,aj 8 5 7,ab 2 8]
def y4v:AFunc:=⟨9,[.t 2],jJ [0] y4v.r0 (jJ [2] y4v.r1 (.ret))⟩
theorem y4v.ok:y1v Tryz.prog Tryz.f210 y4v=true:=by kernel_rfl
theorem y4v.at:Tryz.prog.funcs[y8k]?=some Tryz.f210:=Tryz.func210
def yy.r0:jI:=[a16 1 0,an 2]
def yy.r1:jI:=[ae 5 0 1,ac 6 1 5,a1p 7 6 1,ab 8 7,az 9 8 0 1,ay 10 8 1 9,a1d 11 8 10 7,ax 12 8 11,ab 13 12,az 14 13 2 1,ay 15 13 1 14,⟨some 16,(some (13,false)),.call y8k [.t 15]⟩,a1z 17 13 16,ax 18 13 17,ab 19 18,az 20 19 4 1,ay 21 19 1 20,⟨some 22,(some (19,false)),.call y8k [.t 21]⟩,a1z 23 19 22,ax 24 19 23,ab 25 24,az 26 25 5 1,ay 27 25 1 26,a27 28 25 27 (-1),a14 29 25 28,a13 30 29 5 1,a11 31 29 1 30,⟨some 32,(some (29,true)),.call y8k [.t 31]⟩,a1u 33 29 32,a1e 34 25 29 33,ax 35 25 34]
def yy.r2:jI:=[an 2]
def yy.r3:jI:=[ae 36 0 1,ac 37 1 36,a12 38 37 1,ab 39 38,az 40 39 0 1,ay 41 39 1 40,a1q 42 39 41 5,ax 43 39 42,ab 44 43,az 45 44 0 1,ay 46 44 1 45,a1q 47 44 46 6,ax 48 44 47,ab 3 48]
def yy.r4:jI:=[ae 49 0 1,ac 50 1 49,a12 51 50 2,ab 52 51,az 53 52 0 1,ay 54 52 1 53,a1q 55 52 54 3,ax 56 52 55,ab 57 56,az 58 57 0 1,ay 59 57 1 58,a1q 60 57 59 7,ax 61 57 60,ab 4 61]
def yy.r5:jI:=[ae 63 0 1,ac 64 1 63,a12 65 64 5,ae 66 1 1,ac 67 1 66,a25 68 67,⟨some 69,none,.op (.eqk .bool true (.t 65) (.t 68))⟩,ab 70 69,az 71 70 1 1,ay 72 70 1 71,a3l 73 70 72,a14 74 70 73,a13 75 74 1 1,a11 76 74 1 75,⟨some 77,(some (74,true)),.call y92 [.t 76]⟩,a1u 78 74 77,a1e 79 70 74 78,ax 80 70 79,ab 81 80,az 82 81 0 1,ay 83 81 1 82,a1q 84 81 83 5,a14 85 81 84,a13 86 85 2 1,a11 87 85 1 86,a3o 88 85 87 0,a1e 89 81 85 88,ax 90 81 89,ab 62 90]
def yy.r6:jI:=[an 2]
def yy.r7:jI:=[ab 92 3,ae 93 3 1,ac 94 1 93,a1x 95 94,⟨some 96,none,.op (.eqk .bool true (.t 92) (.t 95))⟩,ab 97 96,a14 98 97 3,a14 99 97 98,a13 100 99 3 1,a11 101 99 1 100,⟨some 102,(some (99,true)),.call y92 [.t 101]⟩,a1u 103 99 102,a1e 104 97 99 103,ax 105 97 104,ab 91 105]
def yy.r8:jI:=[an 2]
def yy.r9:jI:=[ab 107 4,a1a 108 107,ab 109 108,a13 110 109 4 1,a11 111 109 1 110,a3o 112 109 111 0,aj 113 109 112,ab 114 113,az 115 114 4 1,ay 116 114 1 115,a1q 117 114 116 0,a14 118 114 117,a13 119 118 0 1,a11 120 118 1 119,a1o 121 118 120 3,ah 122 118 121,az 123 122 0 1,ay 124 122 1 123,a1q 125 122 124 7,a1h 126 118 122 125,a1e 127 114 118 126,ax 128 114 127,ab 106 128]
def yy.r10:jI:=[an 2]
def yy.r11:jI:=[ae 129 0 1,ac 130 1 129,a1c 131 130 5,ab 132 131,az 133 132 5 1,ay 134 132 1 133,a1q 135 132 134 (-1),ax 136 132 135,ab 2 136]
def yy:AFunc:=⟨137,[.t 2],jJ [1] yy.r0 (.seq (jJ [1,35] yy.r1 (.post [1] (.cond (.t 35) (jJ [2] yy.r2 (.ret)) (.skip)))) (jJ [1,3] yy.r3 (jJ [1,3,4] yy.r4 (.seq (.post [1] (.block 0 (jJ [1,3,4,62] yy.r5 (.post [1] (.cond (.t 62) (jJ [2] yy.r6 (.ret)) (jJ [1,4,91] yy.r7 (.post [1] (.cond (.t 91) (jJ [2] yy.r8 (.ret)) (jJ [1,106] yy.r9 (.post [1] (.cond (.t 106) (jJ [2] yy.r10 (.ret)) (.skip)))))))))))) (jJ [2] yy.r11 (.ret))))))⟩
theorem yy.ok:y1v Tryz.prog Tryz.f190 yy=true:=by kernel_rfl
theorem yy.at:Tryz.prog.funcs[ybh]?=some Tryz.f190:=Tryz.func190
def y2o.r0:jI:=[aw 2]
def y2o.r1:jI:=[ab 4 0,⟨some 5,none,.op (.bin .rem (.t 4) (.c (.i .u64 10)))⟩,a1s 6 5,⟨some 7,none,.op (.bin .add (.c (.i .u8 48)) (.t 6))⟩,a3g 8 1 0 0 1 7,a2m 9 8,ab 3 9]
def y2o.r2:jI:=[ab 10 0,⟨some 11,none,.op (.bin .geq (.t 10) (.c (.i .u64 10)))⟩]
def y2o.r3:jI:=[ab 12 0,⟨some 13,none,.op (.bin .quo (.t 12) (.c (.i .u64 10)))⟩,ab 0 13]
def y2o.r4:jI:=[ab 14 0,⟨some 15,none,.op (.bin .rem (.t 14) (.c (.i .u64 10)))⟩,a1s 16 15,⟨some 17,none,.op (.bin .add (.c (.i .u8 48)) (.t 16))⟩,a3g 18 1 0 0 1 17,a2m 19 18,ab 20 3,a18 21 19 20,ab 3 21]
def y2o.l0:ACode:=.seq (jJ [0,3,11] y2o.r2 (.post [0,3] (.cond (.t 11) (.skip) (.exit 0)))) (.post [0,3] (.block 1 (jJ [0,3] y2o.r3 (jK [0,3] y2o.r4))))
def y2o.r5:jI:=[ab 22 3,ab 2 22]
def y2o:AFunc:=⟨23,[.t 2],jJ [0] y2o.r0 (jJ [0,3] y2o.r1 (.seq (.post [3] (.block 0 (.loop y2o.l0))) (jJ [2] y2o.r5 (.ret))))⟩
theorem y2o.ok:y1v Tryz.prog Tryz.f211 y2o=true:=by kernel_rfl
theorem y2o.at:Tryz.prog.funcs[y9p]?=some Tryz.f211:=Tryz.func211
def y40.r0:jI:=[aw 2]
def y40.r1:jI:=[ab 3 0,a1c 4 3 0]
def y40.r2:jI:=[ab 5 0,a3b 6 5,⟨some 7,none,.call y9p [.t 6]⟩,ab 2 7]
def y40.r3:jI:=[ab 8 0,a3b 9 8,⟨some 10,none,.op (.un .neg (.t 9))⟩,⟨some 11,none,.call y9p [.t 10]⟩,⟨some 12,none,.op (.bin .add (.c (.s [45])) (.t 11))⟩,ab 2 12]
def y40:AFunc:=⟨13,[.t 2],jJ [0] y40.r0 (.seq (jJ [0,4] y40.r1 (.post [0] (.cond (.t 4) (jJ [2] y40.r2 (.ret)) (.skip)))) (jJ [2] y40.r3 (.ret)))⟩
theorem y40.ok:y1v Tryz.prog Tryz.f191 y40=true:=by kernel_rfl
theorem y40.at:Tryz.prog.funcs[y6f]?=some Tryz.f191:=Tryz.func191
def y9.r0:jI:=[a16 1 0,aw 2,af 3 0]
def y9.r1:jI:=[a10 5 6 1,⟨some 6,none,.call ybh [.t 5]⟩,a1a 7 6]
def y9.r2:jI:=[aw 2,af 3 11]
def y9.r3:jI:=[ae 8 1 1,ac 9 1 8,ab 4 9]
def y9.r4:jI:=[ae 10 2 1,ac 11 1 10,a19 12 11 0]
def y9.r5:jI:=[ab 13 4,a2e 14 13 126,ae 15 2 1,ac 16 1 15,⟨some 17,none,.call y6f [.t 16]⟩,a18 18 14 17,ab 4 18]
def y9.r6:jI:=[ae 19 0 1,ac 20 1 19]
def y9.r7:jI:=[a12 22 20 1,ab 21 22]
def y9.r8:jI:=[ab 23 4,a2e 24 23 46,ae 25 3 1,ac 26 1 25,a18 27 24 26,ab 4 27]
def y9.r9:jI:=[a12 29 20 2,ab 28 29]
def y9.r10:jI:=[ab 30 4,a2e 31 30 36,ae 32 4 1,ac 33 1 32,⟨some 34,none,.call y6f [.t 33]⟩,a18 35 31 34,ab 4 35]
def y9.r11:jI:=[a12 37 20 3,ab 36 37]
def y9.r12:jI:=[ab 38 4,a2e 39 38 64,ae 40 4 1,ac 41 1 40,⟨some 42,none,.call y6f [.t 41]⟩,a18 43 39 42,ab 4 43]
def y9.r13:jI:=[a12 45 20 4,ab 44 45]
def y9.r14:jI:=[ab 46 4,⟨some 47,none,.op (.bin .add (.t 46) (.c (.s [40,41])))⟩,ab 4 47]
def y9.r15:jI:=[a12 49 20 5,ab 48 49]
def y9.r16:jI:=[ae 50 3 1,ac 51 1 50,ab 4 51]
def y9.r17:jI:=[a12 53 20 6,ab 52 53]
def y9.r18:jI:=[ab 54 4,a2e 55 54 37,ae 56 3 1,ac 57 1 56,a18 58 55 57,ab 4 58]
def y9.r19:jI:=[a12 60 20 7,ab 59 60]
def y9.r20:jI:=[ab 61 4,a2e 62 61 35,ae 63 4 1,ac 64 1 63,⟨some 65,none,.call y6f [.t 64]⟩,a18 66 62 65,ab 4 66]
def y9.r21:jI:=[ae 67 5 1,ac 68 1 67,a1c 69 68 0]
def y9.r22:jI:=[ab 70 4,a2e 71 70 43,ae 72 5 1,ac 73 1 72,⟨some 74,none,.call y6f [.t 73]⟩,a18 75 71 74,ab 4 75]
def y9.r23:jI:=[ab 76 4,ab 2 76,af 3 0]
def y9:AFunc:=⟨77,[.t 2,.t 3],jJ [1] y9.r0 (.seq (jJ [1,7] y9.r1 (.post [1] (.cond (.t 7) (jJ [2,3] y9.r2 (.ret)) (.skip)))) (jJ [1,4] y9.r3 (.seq (jJ [1,4,12] y9.r4 (.post [1,4] (.cond (.t 12) (jK [1,4] y9.r5) (.skip)))) (.seq (jJ [1,4,20] y9.r6 (.post [1,4] (.block 0 (jJ [1,4,20,21] y9.r7 (.post [1,4] (.cond (.t 21) (jK [1,4] y9.r8) (jJ [1,4,20,28] y9.r9 (.post [1,4] (.cond (.t 28) (jK [1,4] y9.r10) (jJ [1,4,20,36] y9.r11 (.post [1,4] (.cond (.t 36) (jK [1,4] y9.r12) (jJ [1,4,20,44] y9.r13 (.post [1,4] (.cond (.t 44) (jK [1,4] y9.r14) (jJ [1,4,20,48] y9.r15 (.post [1,4] (.cond (.t 48) (jK [1,4] y9.r16) (jJ [1,4,20,52] y9.r17 (.post [1,4] (.cond (.t 52) (jK [1,4] y9.r18) (jJ [1,4,59] y9.r19 (.post [1,4] (.cond (.t 59) (jK [1,4] y9.r20) (.skip))))))))))))))))))))))))) (.seq (jJ [1,4,69] y9.r21 (.post [4] (.cond (.t 69) (jK [4] y9.r22) (.skip)))) (jJ [2,3] y9.r23 (.ret)))))))⟩
theorem y9.ok:y1v Tryz.prog Tryz.f163 y9=true:=by kernel_rfl
theorem y9.at:Tryz.prog.funcs[yc9]?=some Tryz.f163:=Tryz.func163
def y1h.r0:jI:=[a1g 2 0 0 0 0,af 3 0]
def y1h.r1:jI:=[ab 16 0,⟨some 17,none,.call ybg [.t 16]⟩,ab 15 17,ai 18 0 15,ai 19 1 15,ai 20 2 15,ai 21 3 15,ai 22 4 15,ab 4 18,ab 5 19,ab 6 20,ab 7 21,ab 8 22]
def y1h.r2:jI:=[ab 24 7,⟨some 25,none,.call y91 [.t 24]⟩,ab 23 25,ai 26 0 23,ai 27 1 23,ab 9 26,ab 10 27]
def y1h.r3:jI:=[ab 28 4,ab 29 5,ab 30 7,a3p 31 0 0 0 0 0 1 1 1 1 28 2 1 29 3 1 30 5 1 (-1),ab 32 4,ab 33 5,ab 34 9,a3p 35 0 0 0 0 0 1 2 1 1 32 2 1 33 4 1 34 5 1 (-1),ab 36 4,ab 37 5,ab 38 9,a3p 39 0 0 0 0 0 1 3 1 1 36 2 1 37 4 1 38 5 1 (-1),ab 40 4,ab 41 5,⟨some 42,none,.op (.build [.i .i64 0,.s [],.i .i64 0,.s [],.i .i64 0,.i .i64 0] [(0,1,.c (.i .i64 4)),(1,1,.t 40),(2,1,.t 41),(5,1,.c (.i .i64 (-1)))])⟩,ab 43 4,ab 44 8,⟨some 45,none,.op (.build [.i .i64 0,.s [],.i .i64 0,.s [],.i .i64 0,.i .i64 0] [(0,1,.c (.i .i64 5)),(3,1,.t 43),(5,1,.t 44)])⟩,ab 46 4,ab 47 5,ab 48 7,ab 49 8,⟨some 50,none,.op (.build [.i .i64 0,.s [],.i .i64 0,.s [],.i .i64 0,.i .i64 0] [(0,1,.c (.i .i64 6)),(1,1,.t 46),(2,1,.t 47),(3,1,.t 48),(5,1,.t 49)])⟩,ab 51 4,ab 52 5,ab 53 9,ab 54 8,⟨some 55,none,.op (.build [.i .i64 0,.s [],.i .i64 0,.s [],.i .i64 0,.i .i64 0] [(0,1,.c (.i .i64 7)),(1,1,.t 51),(2,1,.t 52),(4,1,.t 53),(5,1,.t 54)])⟩,⟨some 56,none,.op (.bfz 7 6 [.i .i64 0,.s [],.i .i64 0,.s [],.i .i64 0,.i .i64 0] [(0,6,.t 31),(6,6,.t 35),(12,6,.t 39),(18,6,.t 42),(24,6,.t 45),(30,6,.t 50),(36,6,.t 55)])⟩,ab 11 56]
def y1h.r4:jI:=[af 12 0]
def y1h.r5:jI:=[ab 57 12,ab 58 11,am 59 58,ap 60 57 59]
def y1h.r6:jI:=[ab 64 11,ab 65 12,av 66 6 64 65,a10 67 6 66,⟨some 68,none,.call yc9 [.t 67]⟩,ab 63 68,ai 69 0 63,ai 70 1 63,ab 13 69,ab 14 70]
def y1h.r7:jI:=[ab 71 14,a12 72 71 0,ab 73 72,ah 74 73 13,ah 75 73 0,a2d 76 73 74 75,aj 77 73 76,ab 78 77,ah 79 78 6,⟨some 80,(some (78,true)),.op (.bin .neq (.t 79) (.c (.s [])))⟩,ah 81 78 80,a14 82 81 11,a14 83 81 12,a32 84 81 6 82 83,az 85 81 0 84,ay 86 81 1 85,a1q 87 81 86 5,a1h 88 78 81 87,aj 89 78 88]
def y1h.r8:jI:=[ab 90 11,ab 91 12,av 92 6 90 91,a10 93 6 92,ak 6 2 93,af 3 0]
def y1h.r9:jI:=[ab 61 12,ar 62 61 1,ab 12 62]
def y1h.l0:ACode:=.seq (jJ [0,2,6,11,12,60] y1h.r5 (.post [0,2,6,11,12] (.cond (.t 60) (.skip) (.exit 0)))) (.seq (.post [0,2,6,11,12] (.block 1 (jJ [0,2,6,11,12,13,14] y1h.r6 (jJ [0,2,6,11,12,89] y1h.r7 (.post [0,2,6,11,12] (.cond (.t 89) (jJ [2,3] y1h.r8 (.ret)) (.skip))))))) (jK [0,2,6,11,12] y1h.r9))
def y1h.r10:jI:=[⟨some 94,none,.op (.build [.i .i64 0,.s [],.i .i64 0,.s [],.i .i64 0,.i .i64 0] [])⟩,ak 6 2 94,af 3 11]
def y1h:AFunc:=⟨95,[.cell 2 true 6,.t 3],jJ [0,2] y1h.r0 (jJ [0,2,4,5,6,7,8] y1h.r1 (jJ [0,2,4,5,6,7,8,9] y1h.r2 (jJ [0,2,6,11] y1h.r3 (.seq (jJ [0,2,6,11,12] y1h.r4 (.post [2] (.block 0 (.loop y1h.l0)))) (jJ [2,3] y1h.r10 (.ret))))))⟩
theorem y1h.ok:y1v Tryz.prog Tryz.f104 y1h=true:=by kernel_rfl
theorem y1h.at:Tryz.prog.funcs[y72]?=some Tryz.f104:=Tryz.func104
def y22.r0:jI:=[an 6]
def y22.r1:jI:=[af 7 0]
def y22.r2:jI:=[ab 8 7,ab 9 0,a15 10 9,ap 11 8 10]
def y22.r3:jI:=[ab 14 0,ab 15 7,a1r 16 14 15,⟨some 17,none,.op (.bin .neq (.t 16) (.c (.i .u8 105)))⟩,ab 18 17,ah 19 18 0,ah 20 18 7,a29 21 18 19 20,⟨some 22,(some (18,true)),.op (.bin .neq (.t 21) (.c (.i .u8 112)))⟩,aj 23 18 22]
def y22.r4:jI:=[an 6]
def y22.r5:jI:=[ab 12 7,ar 13 12 1,ab 7 13]
def y22.l0:ACode:=.seq (jJ [0,1,2,7,11] y22.r2 (.post [0,1,2,7] (.cond (.t 11) (.skip) (.exit 0)))) (.seq (.post [0,1,2,7] (.block 1 (jJ [0,1,2,7,23] y22.r3 (.post [0,1,2,7] (.cond (.t 23) (jJ [6] y22.r4 (.ret)) (.skip)))))) (jK [0,1,2,7] y22.r5))
def y22.r6:jI:=[ab 24 0,a15 25 24,ab 26 1,a39 27 25 26,ab 28 27,ah 29 28 0,a1n 30 28 29,ah 31 28 2,a3k 32 28 30 31,aj 33 28 32,ab 6 33]
def y22:AFunc:=⟨34,[.t 6],jJ [0,1,2] y22.r0 (.seq (jJ [0,1,2,7] y22.r1 (.post [0,1,2] (.block 0 (.loop y22.l0)))) (jJ [6] y22.r6 (.ret)))⟩
theorem y22.ok:y1v Tryz.prog Tryz.f158 y22=true:=by kernel_rfl
theorem y22.at:Tryz.prog.funcs[y8j]?=some Tryz.f158:=Tryz.func158
def yd.r0:jI:=[a16 1 0,af 2 0]
def yd.r1:jI:=[ae 9 0 1,ac 10 1 9,⟨some 11,none,.call y72 [.t 10]⟩,ab 8 11,ai 12 0 8,ai 13 1 8,a1g 3 0 0 0 0,ak 6 3 12,ab 4 13]
def yd.r2:jI:=[ab 14 4,a17 15 14 0,ab 16 15,az 17 16 0 3,ay 18 16 1 17,a2w 19 16 18 5,ax 20 16 19,ab 21 20,az 22 21 5 3,ay 23 21 1 22,a2i 24 21 23 0,ax 25 21 24]
def yd.r3:jI:=[af 2 11]
def yd.r4:jI:=[ae 26 1 1,ac 27 1 26,⟨some 28,none,.call y8j [.t 27,.c (.i .i64 1),.c (.i .i64 64)]⟩,a1a 29 28]
def yd.r5:jI:=[af 2 5]
def yd.r6:jI:=[af 5 0]
def yd.r7:jI:=[ab 30 5,ae 31 2 1,ac 32 1 31,am 33 32,ap 34 30 33]
def yd.r8:jI:=[ae 37 2 1,ac 38 1 37,ab 39 5,av 40 2 38 39,a10 41 2 40,a3a 6 0,ak 2 6 41]
def yd.r9:jI:=[ae 42 0 6,ac 43 1 42,a1p 44 43 0,ab 45 44,az 46 45 0 6,ay 47 45 1 46,az 48 45 1 1,ay 49 45 1 48,a1t 50 45 49,⟨some 51,(some (45,false)),.op (.bin .geq (.t 47) (.t 50))⟩,ax 52 45 51,ab 53 52,az 54 53 1 6,ay 55 53 1 54,a1t 56 53 55,a2w 57 53 56 1,ax 58 53 57,ab 59 58,az 60 59 1 6,ay 61 59 1 60,a1t 62 59 61,a1d 63 59 62 60,ax 64 59 63,ab 65 64,a14 66 65 5,a1d 67 65 66 0,a14 68 65 67,a13 69 68 0 6,a11 70 68 1 69,a13 71 68 2 1,a11 72 68 1 71,ah 73 68 5,a2a 74 68 73 1,a1k 75 68 2 72 74,a13 76 68 0 75,a11 77 68 1 76,a2n 78 68 70 77,a1e 79 65 68 78,ax 80 65 79]
def yd.r10:jI:=[af 2 3]
def yd.r11:jI:=[af 7 0]
def yd.r12:jI:=[ab 81 7,ab 82 5,ap 83 81 82]
def yd.r13:jI:=[ae 86 2 1,ac 87 1 86,ab 88 7,av 89 2 87 88,a10 90 2 89,a10 91 2 6,⟨some 92,none,.op (.eqa false [0,1] (.t 90) (.t 91))⟩]
def yd.r14:jI:=[af 2 3]
def yd.r15:jI:=[ab 84 7,ar 85 84 1,ab 7 85]
def yd.l1:ACode:=.seq (jJ [1,5,6,7,83] yd.r12 (.post [1,5,6,7] (.cond (.t 83) (.skip) (.exit 2)))) (.seq (.post [1,5,6,7] (.block 3 (.seq (.post [1,5,6,7,92] (.draw [0,1,0,7,15,0,63] yd.r13)) (.post [1,5,6,7] (.cond (.t 92) (jJ [2] yd.r14 (.ret)) (.skip)))))) (jK [1,5,6,7] yd.r15))
def yd.r16:jI:=[ab 35 5,ar 36 35 1,ab 5 36]
def yd.l0:ACode:=.seq (jJ [1,5,34] yd.r7 (.post [1,5] (.cond (.t 34) (.skip) (.exit 0)))) (.seq (.post [1,5] (.block 1 (jJ [1,5,6] yd.r8 (.seq (.seq (.post [1,5,6,80] (.draw [0,1,3,7,15,31,15,79,207,511,1023,2047,4095,8191,16383,32767,65535,131071,262143,524287,1048575,2097151,4194303,8388607,16777215,33554431,67108863,134217727,268435455,134217727,671088639,134217727,2281701375,8187281407,16777215999,33957085183,68719476735,137438953471,274877906943] yd.r9)) (.post [1,5,6] (.cond (.t 80) (jJ [2] yd.r10 (.ret)) (.skip)))) (jJ [1,5,6,7] yd.r11 (.post [1,5] (.block 2 (.loop yd.l1)))))))) (jK [1,5] yd.r16))
def yd.r17:jI:=[af 2 0]
def yd:AFunc:=⟨93,[.t 2],jJ [1] yd.r0 (jJ [1,3,4] yd.r1 (.seq (jJ [1,25] yd.r2 (.post [1] (.cond (.t 25) (jJ [2] yd.r3 (.ret)) (.skip)))) (.seq (jJ [1,29] yd.r4 (.post [1] (.cond (.t 29) (jJ [2] yd.r5 (.ret)) (.skip)))) (.seq (jJ [1,5] yd.r6 (.post [] (.block 0 (.loop yd.l0)))) (jJ [2] yd.r17 (.ret))))))⟩
theorem yd.ok:y1v Tryz.prog Tryz.f101 yd=true:=by kernel_rfl
theorem yd.at:Tryz.prog.funcs[yas]?=some Tryz.f101:=Tryz.func101
end C
end Go.Proofs.YthmkcebbeehbeaaGreatDoor
