/- Part 15 of the proof of the laws of the queries: CodeA. -/
import Derived.Test.YtjajpilacdfnbaaGreatDoorProg
import Derived.Test.YtjajpilacdfnbaaGreatDoorX14
namespace Go.Proofs.YtjajpilacdfnbaaGreatDoor
open Am Go.Proofs
set_option maxRecDepth 100000
namespace C
@[simp] def ab (x0 x1 : Nat) : AStep := ⟨some x0, none, .op (.mov (.t x1))⟩
@[simp] def ac (x0 : Nat) (x1 : Int) : AStep := ⟨some x0, none, .op (.mov (.c (.i .i64 x1)))⟩
@[simp] def ae (x0 x1 x2 : Nat) : AStep := ⟨some x0, none, .op (.load false x1 (.t x2))⟩
@[simp] def af (x0 x1 x2 : Nat) : AStep := ⟨some x0, none, .op (.fadr x1 (.t x2))⟩
@[simp] def ah (x0 : Nat) : AStep := ⟨some x0, none, .op (.mov (.c (.b false)))⟩
@[simp] def ai (x0 x1 : Nat) : AStep := ⟨some x0, none, .op (.len false (.t x1))⟩
@[simp] def aj (x0 x1 x2 : Nat) : AStep := ⟨some x0, (some (x1, true)), .op (.mov (.t x2))⟩
@[simp] def ak (x0 x1 x2 x3 : Nat) : AStep := ⟨some x0, none, .op (.iad x1 (.t x2) (.t x3))⟩
@[simp] def al (x0 x1 x2 : Nat) : AStep := ⟨some x0, none, .op (.ext x1 (.t x2))⟩
@[simp] def am (x0 x1 x2 : Nat) : AStep := ⟨some x0, none, .op (.bin .lss (.t x1) (.t x2))⟩
@[simp] def an (x0 x1 x2 : Nat) : AStep := ⟨some x0, none, .op (.pick (.t x1) (.t x2) (.c (.b false)))⟩
@[simp] def ap (x0 x1 : Nat) (x2 : Int) : AStep := ⟨some x0, none, .op (.bin .add (.t x1) (.c (.i .i64 x2)))⟩
@[simp] def aq (x0 x1 x2 : Nat) : AStep := ⟨none, none, .op (.store x0 (.t x1) (.t x2))⟩
@[simp] def ar (x0 x1 x2 : Nat) : AStep := ⟨some x0, none, .op (.load true x1 (.t x2))⟩
@[simp] def av (x0 x1 x2 : Nat) : AStep := ⟨some x0, none, .op (.pick (.t x1) (.c (.b true)) (.t x2))⟩
@[simp] def aw (x0 x1 x2 x3 : Nat) : AStep := ⟨some x0, (some (x1, false)), .op (.fadr x2 (.t x3))⟩
@[simp] def ax (x0 x1 x2 x3 : Nat) : AStep := ⟨some x0, (some (x1, false)), .op (.load false x2 (.t x3))⟩
@[simp] def ay (x0 x1 x2 x3 : Nat) : AStep := ⟨some x0, (some (x1, true)), .op (.load false x2 (.t x3))⟩
@[simp] def az (x0 x1 x2 x3 : Nat) : AStep := ⟨some x0, (some (x1, true)), .op (.fadr x2 (.t x3))⟩
@[simp] def a10 (x0 x1 x2 : Nat) : AStep := ⟨some x0, (some (x1, false)), .op (.mov (.t x2))⟩
@[simp] def a11 (x0 x1 : Nat) (x2 : Int) : AStep := ⟨some x0, none, .op (.bin .eql (.t x1) (.c (.i .i64 x2)))⟩
@[simp] def a14 (x0 x1 : Nat) : AStep := ⟨some x0, none, .op (.boxf (.t x1))⟩
@[simp] def a17 (x0 : Nat) : AStep := ⟨some x0, none, .op (.mov (.c (.s [])))⟩
@[simp] def a18 (x0 x1 : Nat) : AStep := ⟨some x0, none, .op (.un .not (.t x1))⟩
@[simp] def a19 (x0 x1 : Nat) (x2 : Int) : AStep := ⟨some x0, none, .op (.bin .gtr (.t x1) (.c (.i .i64 x2)))⟩
@[simp] def a1a (x0 : Nat) : AStep := ⟨some x0, none, .op (.mov (.c (.b true)))⟩
@[simp] def a1b (x0 x1 : Nat) : AStep := ⟨some x0, none, .op (.len true (.t x1))⟩
@[simp] def a1c (x0 x1 : Nat) (x2 : Int) : AStep := ⟨some x0, none, .op (.bin .neq (.t x1) (.c (.i .i64 x2)))⟩
@[simp] def a1d (x0 x1 x2 : Nat) : AStep := ⟨some x0, none, .op (.bin .add (.t x1) (.t x2))⟩
@[simp] def a1e (x0 x1 : Nat) (x2 : Int) : AStep := ⟨some x0, none, .op (.bin .geq (.t x1) (.c (.i .i64 x2)))⟩
@[simp] def a1f (x0 x1 x2 x3 : Nat) : AStep := ⟨some x0, (some (x1, false)), .op (.pick (.t x2) (.t x3) (.c (.b false)))⟩
@[simp] def a1g (x0 x1 x2 : Nat) (x3 : Int) : AStep := ⟨some x0, (some (x1, false)), .op (.bin .gtr (.t x2) (.c (.i .i64 x3)))⟩
@[simp] def a1h (x0 x1 x2 x3 : Nat) : AStep := ⟨some x0, (some (x1, true)), .op (.load true x2 (.t x3))⟩
@[simp] def a1i (x0 : Nat) (x1 x2 x3 x4 : Int) : AStep := ⟨some x0, none, .op (.new [.i .i64 x1, .s [], .i .i64 x2, .s [], .i .i64 x3, .i .i64 x4])⟩
@[simp] def a1j (x0 x1 x2 : Nat) : AStep := ⟨some x0, none, .op (.mov (.c (.sl none x1 x2)))⟩
@[simp] def a1k (x0 x1 x2 x3 : Nat) : AStep := ⟨some x0, (some (x1, true)), .op (.pick (.t x2) (.c (.b true)) (.t x3))⟩
@[simp] def a1l (x0 x1 x2 x3 x4 : Nat) : AStep := ⟨some x0, (some (x1, true)), .op (.iad x2 (.t x3) (.t x4))⟩
@[simp] def a1m (x0 x1 x2 : Nat) : AStep := ⟨some x0, none, .op (.bin .neq (.t x1) (.t x2))⟩
@[simp] def a1n (x0 x1 x2 x3 x4 : Nat) : AStep := ⟨some x0, none, .op (.app x1 x2 (.t x3) (.t x4))⟩
@[simp] def a1o (x0 x1 x2 : Nat) : AStep := ⟨some x0, none, .op (.new [.s [], .s [], .sl none x1 x2])⟩
@[simp] def a1p (x0 x1 x2 : Nat) : AStep := ⟨some x0, (some (x1, false)), .op (.len false (.t x2))⟩
@[simp] def a1q (x0 x1 x2 : Nat) (x3 : Int) : AStep := ⟨some x0, (some (x1, true)), .op (.bin .eql (.t x2) (.c (.i .i64 x3)))⟩
@[simp] def a1r (x0 x1 x2 : Nat) : AStep := ⟨some x0, (some (x1, true)), .op (.un .not (.t x2))⟩
@[simp] def a1s (x0 x1 x2 : Nat) : AStep := ⟨some x0, (some (x1, false)), .op (.un .not (.t x2))⟩
@[simp] def a1t (x0 x1 x2 : Nat) (x3 : Int) : AStep := ⟨some x0, (some (x1, false)), .op (.bin .eql (.t x2) (.c (.i .i64 x3)))⟩
@[simp] def a1u (x0 x1 x2 : Nat) : AStep := ⟨some x0, (some (x1, false)), .op (.len true (.t x2))⟩
@[simp] def a1v (x0 x1 : Nat) : AStep := ⟨some x0, none, .op (.bin .neq (.t x1) (.c (.s [])))⟩
@[simp] def a1w (x0 x1 x2 : Nat) : AStep := ⟨some x0, none, .callv (.t x1) [.t x2]⟩
@[simp] def a1x (x0 x1 x2 : Nat) : AStep := ⟨some x0, none, .op (.bin .eql (.t x1) (.t x2))⟩
@[simp] def a1y (x0 x1 : Nat) : AStep := ⟨some x0, none, .op (.nilc (.t x1))⟩
@[simp] def a1z (x0 x1 x2 : Nat) : AStep := ⟨some x0, none, .op (.idx (.t x1) (.t x2))⟩
@[simp] def a23 (x0 x1 x2 : Nat) (x3 : Int) : AStep := ⟨some x0, (some (x1, true)), .op (.bin .leq (.t x2) (.c (.i .i64 x3)))⟩
@[simp] def a24 (x0 x1 : Nat) : AStep := ⟨some x0, none, .op (.bin .eql (.t x1) (.c (.s [])))⟩
@[simp] def a25 (x0 x1 x2 : Nat) (x3 : Int) : AStep := ⟨some x0, (some (x1, false)), .op (.bin .neq (.t x2) (.c (.i .i64 x3)))⟩
@[simp] def a26 (x0 x1 x2 x3 : Nat) : AStep := ⟨some x0, (some (x1, false)), .op (.bin .neq (.t x2) (.t x3))⟩
@[simp] def a27 (x0 x1 x2 x3 x4 : Nat) : AStep := ⟨some x0, (some (x1, false)), .op (.iad x2 (.t x3) (.t x4))⟩
@[simp] def a28 (x0 x1 : Nat) (x2 : Int) : AStep := ⟨some x0, none, .op (.bin .eql (.t x1) (.c (.i .u8 x2)))⟩
@[simp] def a29 (x0 x1 x2 : Nat) : AStep := ⟨some x0, none, .op (.sls (.t x1) none (some (.t x2)))⟩
@[simp] def a2a (x0 x1 x2 : Nat) (x3 : Int) : AStep := ⟨some x0, (some (x1, true)), .op (.bin .sub (.t x2) (.c (.i .i64 x3)))⟩
@[simp] def a2b (x0 x1 : Nat) (x2 : UInt8) : AStep := ⟨some x0, none, .op (.bin .add (.t x1) (.c (.s [x2])))⟩
@[simp] def a2c (x0 x1 x2 x3 : Nat) : AStep := ⟨some x0, (some (x1, false)), .op (.load true x2 (.t x3))⟩
@[simp] def a2d (x0 x1 x2 : Nat) (x3 : Int) : AStep := ⟨some x0, (some (x1, true)), .op (.bin .leq (.t x2) (.c (.i .u8 x3)))⟩
@[simp] def a2e (x0 x1 x2 : Nat) : AStep := ⟨some x0, (some (x1, true)), .op (.len true (.t x2))⟩
@[simp] def a2f (x0 x1 x2 : Nat) (x3 : Int) : AStep := ⟨some x0, (some (x1, true)), .op (.bin .geq (.t x2) (.c (.i .i64 x3)))⟩
@[simp] def a2g (x0 x1 x2 : Nat) (x3 : Int) : AStep := ⟨some x0, (some (x1, false)), .op (.bin .geq (.t x2) (.c (.i .i64 x3)))⟩
@[simp] def a2h (x0 x1 x2 : Nat) (x3 : UInt8) : AStep := ⟨some x0, (some (x1, true)), .op (.bin .neq (.t x2) (.c (.s [x3])))⟩
@[simp] def a2i (x0 x1 : Nat) : AStep := ⟨some x0, none, .op (.box (.t x1))⟩
@[simp] def a2j (x0 x1 : Nat) (x2 : Int) : AStep := ⟨some x0, none, .op (.bin .lss (.t x1) (.c (.i .i64 x2)))⟩
@[simp] def a2k (x0 x1 x2 x3 x4 x5 : Nat) : AStep := ⟨some x0, none, .op (.bfz x1 x2 [.s []] [(x3, x4, .t x5)])⟩
@[simp] def a2l (x0 x1 x2 : Nat) : AStep := ⟨some x0, (some (x1, true)), .op (.len false (.t x2))⟩
@[simp] def a2m (x0 x1 x2 x3 : Nat) : AStep := ⟨some x0, (some (x1, true)), .op (.bin .lss (.t x2) (.t x3))⟩
@[simp] def a2n (x0 x1 x2 : Nat) : AStep := ⟨some x0, none, .op (.bin .gtr (.t x1) (.t x2))⟩
@[simp] def a2o (x0 x1 : Nat) (x2 : Int) : AStep := ⟨some x0, none, .op (.bin .geq (.t x1) (.c (.i .u8 x2)))⟩
@[simp] def a2p (x0 x1 : Nat) (x2 : Int) : AStep := ⟨some x0, none, .op (.idx (.t x1) (.c (.i .i64 x2)))⟩
@[simp] def a2q (x0 x1 x2 : Nat) : AStep := ⟨some x0, none, .op (.sls (.t x1) (some (.t x2)) none)⟩
@[simp] def a2r (x0 x1 x2 : Nat) (x3 : Int) : AStep := ⟨some x0, (some (x1, true)), .op (.idx (.t x2) (.c (.i .i64 x3)))⟩
@[simp] def a2s (x0 x1 : Nat) (x2 : Int) : AStep := ⟨some x0, none, .op (.sls (.t x1) (some (.c (.i .i64 x2))) none)⟩
@[simp] def a2t (x0 x1 x2 : Nat) (x3 : Int) : AStep := ⟨some x0, (some (x1, false)), .op (.bin .lss (.t x2) (.c (.i .i64 x3)))⟩
@[simp] def a2u (x0 : Nat) : AStep := ⟨some x0, none, .op (.new [.s [], .s [], .s []])⟩
@[simp] def a2v (x0 x1 x2 x3 : Nat) : AStep := ⟨some x0, none, .callv (.t x1) [.t x2, .t x3]⟩
@[simp] def a2w (x0 x1 x2 : Nat) : AStep := ⟨some x0, none, .op (.build [.s [], .s [], .sl none x1 x2] [])⟩
@[simp] def a2x (x0 : Nat) (x1 x2 : Int) (x3 x4 : Nat) : AStep := ⟨some x0, none, .op (.new [.i .i64 x1, .s [], .s [], .i .i64 x2, .s [], .sl none x3 x4])⟩
@[simp] def a2y (x0 x1 x2 x3 x4 : Nat) : AStep := ⟨some x0, (some (x1, true)), .callv (.t x2) [.t x3, .t x4]⟩
@[simp] def a2z (x0 x1 : Nat) (x2 : UInt8) : AStep := ⟨some x0, none, .op (.bin .eql (.t x1) (.c (.s [x2])))⟩
@[simp] def a30 (x0 x1 x2 x3 x4 x5 x6 x7 x8 x9 : Nat) : AStep := ⟨some x0, (some (x1, true)), .op (.eqa false [x2, x3, x4, x5, x6, x7] (.t x8) (.t x9))⟩
@[simp] def a32 (x0 x1 : Nat) (x2 : Int) : AStep := ⟨some x0, none, .op (.bin .sub (.t x1) (.c (.i .i64 x2)))⟩
@[simp] def a33 (x0 x1 x2 x3 : Nat) : AStep := ⟨some x0, (some (x1, true)), .op (.idx (.t x2) (.t x3))⟩
@[simp] def a34 (x0 : Nat) (x1 : Int) (x2 : Nat) : AStep := ⟨some x0, none, .op (.bin .mul (.c (.i .i64 x1)) (.t x2))⟩
@[simp] def a35 (x0 x1 x2 : Nat) : AStep := ⟨some x0, (some (x1, true)), .op (.bin .eql (.t x2) (.c (.s [])))⟩
@[simp] def a36 (x0 x1 x2 : Nat) (x3 : Int) : AStep := ⟨some x0, (some (x1, true)), .op (.bin .gtr (.t x2) (.c (.i .i64 x3)))⟩
@[simp] def a38 (x0 x1 : Nat) (x2 : Int) : AStep := ⟨none, none, .op (.store x0 (.t x1) (.c (.i .i64 x2)))⟩
@[simp] def a39 (x0 x1 x2 : Nat) : AStep := ⟨some x0, none, .op (.bin .geq (.t x1) (.t x2))⟩
@[simp] def a3a (x0 x1 x2 : Nat) : AStep := ⟨some x0, (some (x1, false)), .op (.bin .neq (.t x2) (.c (.s [])))⟩
@[simp] def a3b (x0 x1 x2 x3 x4 x5 x6 x7 x8 x9 x10 x11 x12 : Nat) : AStep := ⟨some x0, none, .op (.new [.s [], .sl none x1 x2, .sl none x3 x4, .sl none x5 x6, .sl none x7 x8, .sl none x9 x10, .sl none x11 x12])⟩
@[simp] def a3c (x0 x1 x2 x3 x4 : Nat) : AStep := ⟨some x0, none, .op (.lkm false (.sl none x1 x2) (.t x3) (.t x4))⟩
@[simp] def a3d (x0 x1 x2 x3 x4 x5 x6 x7 : Nat) : AStep := ⟨some x0, none, .op (.bfz x1 x2 [.s [], .s [], .sl none x3 x4] [(x5, x6, .t x7)])⟩
@[simp] def a3e (x0 x1 x2 x3 : Nat) : AStep := ⟨some x0, none, .op (.build [.fs [], .fs [], .fs []] [(x1, x2, .t x3)])⟩
@[simp] def a3f (x0 x1 : Nat) : AStep := ⟨some x0, none, .op (.conv .u64 (.t x1))⟩
@[simp] def a3g (x0 x1 x2 x3 : Nat) : AStep := ⟨some x0, (some (x1, true)), .op (.bin .eql (.t x2) (.t x3))⟩
@[simp] def a3h (x0 x1 x2 x3 x4 : Nat) (x5 x6 x7 : UInt8) : AStep := ⟨some x0, none, .op (.bfz x1 x2 [.s []] [(x3, x4, .c (.s [x5, x6, x7]))])⟩
@[simp] def a3i (x0 x1 x2 : Nat) (x3 : UInt8) (x4 x5 x6 x7 x8 x9 : Nat) : AStep := ⟨some x0, none, .op (.build [.s [], .fs [], .fs [], .fs [], .fs [], .fs [], .fs []] [(x1, x2, .c (.s [x3])), (x4, x5, .t x6), (x7, x8, .t x9)])⟩
@[simp] def a3j (x0 x1 x2 x3 : Nat) (x4 : Int) : AStep := ⟨some x0, (some (x1, true)), .op (.iad x2 (.t x3) (.c (.i .i64 x4)))⟩
@[simp] def a3k (x0 x1 x2 : Nat) (x3 : Int) : AStep := ⟨some x0, (some (x1, true)), .op (.bin .neq (.t x2) (.c (.i .i64 x3)))⟩
@[simp] def a3l (x0 : Nat) (x1 x2 x3 x4 : Int) (x5 x6 : Nat) (x7 : Int) (x8 x9 x10 x11 x12 x13 x14 x15 x16 x17 x18 : Nat) (x19 : Int) : AStep := ⟨some x0, none, .op (.build [.i .i64 x1, .s [], .i .i64 x2, .s [], .i .i64 x3, .i .i64 x4] [(x5, x6, .c (.i .i64 x7)), (x8, x9, .t x10), (x11, x12, .t x13), (x14, x15, .t x16), (x17, x18, .c (.i .i64 x19))])⟩
def y7w : FuncId := 23
def y54 : FuncId := 24
def y65 : FuncId := 25
def y7v : FuncId := 11
def y6t : FuncId := 5
def y64 : FuncId := 56
def ybp : FuncId := 97
def y6y : FuncId := 55
def y6p : FuncId := 26
def y6f : FuncId := 57
def y8s : FuncId := 137
def ye5 : FuncId := 172
def y9t : FuncId := 161
def y6x : FuncId := 138
def ya9 : FuncId := 107
def y56 : FuncId := 139
def y7h : FuncId := 108
def ybq : FuncId := 109
def y6h : FuncId := 70
def yb1 : FuncId := 133
def y4y : FuncId := 98
def y6m : FuncId := 99
def y4g : FuncId := 134
def y3t : FuncId := 100
def y6e : FuncId := 58
def y68 : FuncId := 115
def y3p : FuncId := 101
def y6w : FuncId := 59
def y6u : FuncId := 60
def y5t : FuncId := 61
def y7f : FuncId := 62
def y6g : FuncId := 63
def y5h : FuncId := 39
def y99 : FuncId := 102
def y67 : FuncId := 170
def y5b : FuncId := 159
def y9r : FuncId := 135
def y7e : FuncId := 103
def y83 : FuncId := 64
def y7i : FuncId := 136
def y6q : FuncId := 105
def y4m : FuncId := 106
def yaa : FuncId := 104
def y62 : FuncId := 65
def y9a : FuncId := 27
def y5y : FuncId := 30
def y4c : FuncId := 66
def y45 : FuncId := 29
def y5x : FuncId := 32
def y4i : FuncId := 67
def y4b : FuncId := 31
def y3w : FuncId := 28
def y7g : FuncId := 33
def y6o : FuncId := 35
def y4h : FuncId := 68
def y3d : FuncId := 34
def y4t : FuncId := 69
def y3r : FuncId := 37
def y6n : FuncId := 36
def y7x : FuncId := 38
def y8r : FuncId := 12
def y5w : FuncId := 14
def y3v : FuncId := 40
def y3s : FuncId := 13
def y89 : FuncId := 15
def y4d : FuncId := 16
def y4r : FuncId := 146
def y3h : FuncId := 145
def y4z : FuncId := 116
def y9s : FuncId := 117
def y5j : FuncId := 82
def y55 : FuncId := 119
def y47 : FuncId := 118
def y4v : FuncId := 83
def y57 : FuncId := 43
def y3f : FuncId := 85
def y4j : FuncId := 120
def y71 : FuncId := 86
def y4u : FuncId := 87
def y3g : FuncId := 88
def ya1 : FuncId := 89
def y8e : FuncId := 46
def y5i : FuncId := 45
def y3o : FuncId := 84
def y2n : FuncId := 44
def y8a : FuncId := 17
def y5u : FuncId := 6
def y46 : FuncId := 19
def y70 : FuncId := 8
def y6d : FuncId := 22
def y7u : FuncId := 9
def y0.r0 : List AStep := [a14 2 0,ah 4]
def y0.r1 : List AStep := [af 12 0 2,ae 13 1 12,ai 14 13,ab 15 1,a2n 16 14 15,ab 17 16,aw 18 17 1 2,ax 19 17 1 18,a1p 20 17 19,a10 21 17 1,⟨some 22, (some (17, false)), .op (.bin .gtr (.t 20) (.t 21))⟩,av 23 17 22,ab 24 23,aw 25 24 2 2,ax 26 24 1 25,a1p 27 24 26,a10 28 24 1,⟨some 29, (some (24, false)), .op (.bin .gtr (.t 27) (.t 28))⟩,av 30 24 29]
def y0.r2 : List AStep := [a1a 4]
def y0.r3 : List AStep := [ac 5 0]
def y0.r4 : List AStep := [ac 6 0]
def y0.r5 : List AStep := [ab 31 6,af 32 0 2,ae 33 1 32,ai 34 33,am 35 31 34]
def y0.r6 : List AStep := [ab 38 5,af 39 0 2,ae 40 1 39,ab 41 6,ak 42 3 40 41,af 43 0 42,ae 44 1 43,a1b 45 44,a1d 46 38 45,af 47 0 2,ae 48 1 47,ab 49 6,ak 50 3 48 49,af 51 1 50,ae 52 1 51,a1b 53 52,a1d 54 46 53,af 55 0 2,ae 56 1 55,ab 57 6,ak 58 3 56 57,af 59 2 58,ae 60 1 59,ai 61 60,a34 62 10 61,a1d 63 54 62,ab 5 63]
def y0.r7 : List AStep := [ac 7 0]
def y0.r8 : List AStep := [ab 64 7,af 65 0 2,ae 66 1 65,ab 67 6,ak 68 3 66 67,af 69 2 68,ae 70 1 69,ai 71 70,am 72 64 71,ab 73 72,aj 74 73 7,⟨some 75, (some (73, true)), .op (.bin .lss (.t 74) (.c (.i .i64 100)))⟩,an 76 73 75]
def y0.r9 : List AStep := [ab 79 5,af 80 0 2,ae 81 1 80,ab 82 6,ak 83 3 81 82,af 84 2 83,ae 85 1 84,ab 86 7,ak 87 2 85 86,af 88 1 87,ae 89 1 88,a1b 90 89,a1d 91 79 90,ab 5 91]
def y0.r10 : List AStep := [ab 77 7,ap 78 77 1,ab 7 78]
def y0.l1 : ACode := .seq (.seq (.post [2, 5, 6, 7, 76] (.region y0.r8)) (.post [2, 5, 6, 7] (.cond (.t 76) (.skip) (.exit 2)))) (.seq (.post [2, 5, 6, 7] (.block 3 (.post [2, 5, 6, 7] (.region y0.r9)))) (.post [2, 5, 6, 7] (.region y0.r10)))
def y0.r11 : List AStep := [ab 92 5,a19 93 92 30000]
def y0.r12 : List AStep := [a1a 4]
def y0.r13 : List AStep := [ab 36 6,ap 37 36 1,ab 6 37]
def y0.l0 : ACode := .seq (.seq (.post [2, 5, 6, 35] (.region y0.r5)) (.post [2, 5, 6] (.cond (.t 35) (.skip) (.exit 0)))) (.seq (.post [2, 5, 6] (.block 1 (.seq (.post [2, 5, 6] (.draw [0, 0, 2, 0, 14, 30, 62, 126, 255, 0, 512, 0, 3584, 7680, 15872, 32256, 65535, 0, 131072, 0, 917504, 1966080, 4063232, 8257536, 16646144, 33554431, 67108863] y0.r6)) (.seq (.seq (.post [2, 5, 6, 7] (.region y0.r7)) (.post [2, 5, 6] (.block 2 (.loop y0.l1)))) (.seq (.post [2, 5, 6, 93] (.region y0.r11)) (.post [2, 5, 6] (.cond (.t 93) (.seq (.post [4] (.region y0.r12)) (.ret)) (.skip)))))))) (.post [2, 5, 6] (.region y0.r13)))
def y0.r14 : List AStep := [ac 8 0]
def y0.r15 : List AStep := [ab 94 8,af 95 1 2,ae 96 1 95,ai 97 96,am 98 94 97]
def y0.r16 : List AStep := [ab 101 5,af 102 1 2,ae 103 1 102,ab 104 8,ak 105 3 103 104,af 106 0 105,ae 107 1 106,a1b 108 107,a1d 109 101 108,af 110 1 2,ae 111 1 110,ab 112 8,ak 113 3 111 112,af 114 1 113,ae 115 1 114,a1b 116 115,a1d 117 109 116,af 118 1 2,ae 119 1 118,ab 120 8,ak 121 3 119 120,af 122 2 121,ae 123 1 122,a1b 124 123,a1d 125 117 124,ab 5 125]
def y0.r17 : List AStep := [ab 126 5,a19 127 126 30000]
def y0.r18 : List AStep := [a1a 4]
def y0.r19 : List AStep := [ab 99 8,ap 100 99 1,ab 8 100]
def y0.l2 : ACode := .seq (.seq (.post [2, 5, 8, 98] (.region y0.r15)) (.post [2, 5, 8] (.cond (.t 98) (.skip) (.exit 4)))) (.seq (.post [2, 5, 8] (.block 5 (.seq (.post [2, 5, 8] (.draw [0, 0, 2, 0, 14, 30, 62, 126, 255, 0, 512, 0, 3584, 7680, 15872, 32256, 65535, 0, 131072, 0, 917504, 1966080, 4063232, 8257536, 16777215, 33554431] y0.r16)) (.seq (.post [2, 5, 8, 127] (.region y0.r17)) (.post [2, 5, 8] (.cond (.t 127) (.seq (.post [4] (.region y0.r18)) (.ret)) (.skip))))))) (.post [2, 5, 8] (.region y0.r19)))
def y0.r20 : List AStep := [ac 9 0]
def y0.r21 : List AStep := [ab 128 9,af 129 2 2,ae 130 1 129,ai 131 130,am 132 128 131]
def y0.r22 : List AStep := [af 135 2 2,ae 136 1 135,ab 137 9,ak 138 6 136 137,ar 139 6 138,a2x 10 0 0 0 0,aq 6 10 139]
def y0.r23 : List AStep := [ab 140 5,af 141 1 10,ae 142 1 141,a1b 143 142,a1d 144 140 143,af 145 2 10,ae 146 1 145,a1b 147 146,a1d 148 144 147,af 149 4 10,ae 150 1 149,a1b 151 150,a1d 152 148 151,af 153 5 10,ae 154 1 153,ai 155 154,a34 156 10 155,a1d 157 152 156,ab 5 157]
def y0.r24 : List AStep := [ac 11 0]
def y0.r25 : List AStep := [ab 158 11,af 159 5 10,ae 160 1 159,ai 161 160,am 162 158 161,ab 163 162,aj 164 163 11,⟨some 165, (some (163, true)), .op (.bin .lss (.t 164) (.c (.i .i64 100)))⟩,an 166 163 165]
def y0.r26 : List AStep := [ab 169 5,af 170 5 10,ae 171 1 170,ab 172 11,ak 173 1 171 172,ae 174 1 173,a1b 175 174,a1d 176 169 175,ab 5 176]
def y0.r27 : List AStep := [ab 167 11,ap 168 167 1,ab 11 168]
def y0.l4 : ACode := .seq (.seq (.post [2, 5, 9, 10, 11, 166] (.region y0.r25)) (.post [2, 5, 9, 10, 11] (.cond (.t 166) (.skip) (.exit 8)))) (.seq (.post [2, 5, 9, 10, 11] (.block 9 (.post [2, 5, 9, 10, 11] (.region y0.r26)))) (.post [2, 5, 9, 10, 11] (.region y0.r27)))
def y0.r28 : List AStep := [ab 177 5,a19 178 177 60000]
def y0.r29 : List AStep := [a1a 4]
def y0.r30 : List AStep := [ab 133 9,ap 134 133 1,ab 9 134]
def y0.l3 : ACode := .seq (.seq (.post [2, 5, 9, 132] (.region y0.r21)) (.post [2, 5, 9] (.cond (.t 132) (.skip) (.exit 6)))) (.seq (.post [2, 5, 9] (.block 7 (.seq (.post [2, 5, 9, 10] (.region y0.r22)) (.seq (.post [2, 5, 9, 10] (.region y0.r23)) (.seq (.seq (.post [2, 5, 9, 10, 11] (.region y0.r24)) (.post [2, 5, 9] (.block 8 (.loop y0.l4)))) (.seq (.post [2, 5, 9, 178] (.region y0.r28)) (.post [2, 5, 9] (.cond (.t 178) (.seq (.post [4] (.region y0.r29)) (.ret)) (.skip))))))))) (.post [2, 5, 9] (.region y0.r30)))
def y0.r31 : List AStep := [ah 4]
def y0 : AFunc := ⟨179, [.t 4], .seq (.post [1, 2] (.region y0.r0)) (.seq (.seq (.post [2, 30] (.region y0.r1)) (.post [2] (.cond (.t 30) (.seq (.post [4] (.region y0.r2)) (.ret)) (.skip)))) (.seq (.post [2, 5] (.region y0.r3)) (.seq (.seq (.post [2, 5, 6] (.region y0.r4)) (.post [2, 5] (.block 0 (.loop y0.l0)))) (.seq (.seq (.post [2, 5, 8] (.region y0.r14)) (.post [2, 5] (.block 4 (.loop y0.l2)))) (.seq (.seq (.post [2, 5, 9] (.region y0.r20)) (.post [] (.block 6 (.loop y0.l3)))) (.seq (.post [4] (.region y0.r31)) (.ret)))))))⟩
theorem y0.ok : y23 Tryz.prog Tryz.f23 y0 = true := by kernel_rfl
theorem y0.at : Tryz.prog.funcs[y7w]? = some Tryz.f23 := Tryz.func23
def y1j.r0 : List AStep := [ah 2]
def y1j.r1 : List AStep := [ac 3 0]
def y1j.r2 : List AStep := [ab 4 3,ab 5 0,ai 6 5,am 7 4 6]
def y1j.r3 : List AStep := [ab 10 3,a1e 11 10 60,ab 12 11,a10 13 12 0,a10 14 12 3,a27 15 12 1 13 14,ax 16 12 1 15,a1u 17 12 16,a1g 18 12 17 100,av 19 12 18]
def y1j.r4 : List AStep := [a1a 2]
def y1j.r5 : List AStep := [ab 8 3,ap 9 8 1,ab 3 9]
def y1j.l0 : ACode := .seq (.seq (.post [0, 3, 7] (.region y1j.r2)) (.post [0, 3] (.cond (.t 7) (.skip) (.exit 0)))) (.seq (.post [0, 3] (.block 1 (.seq (.post [0, 3, 19] (.region y1j.r3)) (.post [0, 3] (.cond (.t 19) (.seq (.post [2] (.region y1j.r4)) (.ret)) (.skip)))))) (.post [0, 3] (.region y1j.r5)))
def y1j.r6 : List AStep := [ah 2]
def y1j : AFunc := ⟨20, [.t 2], .seq (.post [0] (.region y1j.r0)) (.seq (.seq (.post [0, 3] (.region y1j.r1)) (.post [] (.block 0 (.loop y1j.l0)))) (.seq (.post [2] (.region y1j.r6)) (.ret)))⟩
theorem y1j.ok : y23 Tryz.prog Tryz.f24 y1j = true := by kernel_rfl
theorem y1j.at : Tryz.prog.funcs[y54]? = some Tryz.f24 := Tryz.func24
def y1m.r0 : List AStep := [ah 2]
def y1m.r1 : List AStep := [ac 3 0]
def y1m.r2 : List AStep := [ab 4 3,ab 5 0,ai 6 5,am 7 4 6]
def y1m.r3 : List AStep := [ab 10 0,ab 11 3,ak 12 1 10 11,ae 13 1 12,a1b 14 13,a19 15 14 100]
def y1m.r4 : List AStep := [a1a 2]
def y1m.r5 : List AStep := [ab 8 3,ap 9 8 1,ab 3 9]
def y1m.l0 : ACode := .seq (.seq (.post [0, 3, 7] (.region y1m.r2)) (.post [0, 3] (.cond (.t 7) (.skip) (.exit 0)))) (.seq (.post [0, 3] (.block 1 (.seq (.post [0, 3, 15] (.region y1m.r3)) (.post [0, 3] (.cond (.t 15) (.seq (.post [2] (.region y1m.r4)) (.ret)) (.skip)))))) (.post [0, 3] (.region y1m.r5)))
def y1m.r6 : List AStep := [ah 2]
def y1m : AFunc := ⟨16, [.t 2], .seq (.post [0] (.region y1m.r0)) (.seq (.seq (.post [0, 3] (.region y1m.r1)) (.post [] (.block 0 (.loop y1m.l0)))) (.seq (.post [2] (.region y1m.r6)) (.ret)))⟩
theorem y1m.ok : y23 Tryz.prog Tryz.f25 y1m = true := by kernel_rfl
theorem y1m.at : Tryz.prog.funcs[y65]? = some Tryz.f25 := Tryz.func25
def y2w.r0 : List AStep := [a14 1 0,ah 2]
def y2w.r1 : List AStep := [af 3 0 1,ae 4 1 3,a1b 5 4,a19 6 5 100,ab 7 6,aw 8 7 4 1,a2c 9 7 3 8,⟨some 10, (some (7, false)), .call y7w [.t 9, .c (.i .i64 80)]⟩,av 11 7 10,ab 12 11,aw 13 12 1 1,ax 14 12 1 13,⟨some 15, (some (12, false)), .call y54 [.t 14]⟩,av 16 12 15,ab 17 16,aw 18 17 2 1,ax 19 17 1 18,⟨some 20, (some (17, false)), .call y54 [.t 19]⟩,av 21 17 20,ab 22 21,aw 23 22 3 1,ax 24 22 1 23,a1p 25 22 24,a1g 26 22 25 200,av 27 22 26,ab 28 27,aw 29 28 3 1,ax 30 28 1 29,⟨some 31, (some (28, false)), .call y65 [.t 30]⟩,av 32 28 31,ab 2 32]
def y2w : AFunc := ⟨33, [.t 2], .seq (.post [1] (.region y2w.r0)) (.seq (.post [2] (.region y2w.r1)) (.ret))⟩
theorem y2w.ok : y23 Tryz.prog Tryz.f11 y2w = true := by kernel_rfl
theorem y2w.at : Tryz.prog.funcs[y7v]? = some Tryz.f11 := Tryz.func11
def y1g.r0 : List AStep := [ah 2]
def y1g.r1 : List AStep := [ab 4 0,ai 5 4,a19 6 5 12]
def y1g.r2 : List AStep := [a1a 2]
def y1g.r3 : List AStep := [ac 3 0]
def y1g.r4 : List AStep := [ab 7 3,ab 8 0,ai 9 8,am 10 7 9]
def y1g.r5 : List AStep := [ab 13 0,ab 14 3,ak 15 7 13 14,ar 16 7 15,⟨some 17, none, .call y7v [.t 16]⟩]
def y1g.r6 : List AStep := [a1a 2]
def y1g.r7 : List AStep := [ab 11 3,ap 12 11 1,ab 3 12]
def y1g.l0 : ACode := .seq (.seq (.post [0, 3, 10] (.region y1g.r4)) (.post [0, 3] (.cond (.t 10) (.skip) (.exit 0)))) (.seq (.post [0, 3] (.block 1 (.seq (.post [0, 3, 17] (.region y1g.r5)) (.post [0, 3] (.cond (.t 17) (.seq (.post [2] (.region y1g.r6)) (.ret)) (.skip)))))) (.post [0, 3] (.region y1g.r7)))
def y1g.r8 : List AStep := [ah 2]
def y1g : AFunc := ⟨18, [.t 2], .seq (.post [0] (.region y1g.r0)) (.seq (.seq (.post [0, 6] (.region y1g.r1)) (.post [0] (.cond (.t 6) (.seq (.post [2] (.region y1g.r2)) (.ret)) (.skip)))) (.seq (.seq (.post [0, 3] (.region y1g.r3)) (.post [] (.block 0 (.loop y1g.l0)))) (.seq (.post [2] (.region y1g.r8)) (.ret))))⟩
theorem y1g.ok : y23 Tryz.prog Tryz.f5 y1g = true := by kernel_rfl
theorem y1g.at : Tryz.prog.funcs[y6t]? = some Tryz.f5 := Tryz.func5
def y22.r0 : List AStep := [ac 2 0]
def y22.r1 : List AStep := [ac 3 2]
def y22.r2 : List AStep := [ab 5 0,a2o 6 5 48,ab 7 6,aj 8 7 0,a2d 9 7 8 57,an 10 7 9,ab 4 10]
def y22.r3 : List AStep := [ab 12 0,a2o 13 12 65,ab 14 13,aj 15 14 0,a2d 16 14 15 90,an 17 14 16,ab 11 17]
def y22.r4 : List AStep := [ab 18 0,a2o 19 18 97,ab 20 19,aj 21 20 0,a2d 22 20 21 122,an 23 20 22,ab 11 23]
def y22.r5 : List AStep := [ab 24 0,a28 25 24 95,ab 11 25]
def y22.r6 : List AStep := [ac 3 1]
def y22.r7 : List AStep := [ab 26 3,ab 2 26]
def y22.r8 : List AStep := [ac 2 0]
def y22 : AFunc := ⟨27, [.t 2], .seq (.post [0] (.region y22.r0)) (.seq (.post [0, 3] (.region y22.r1)) (.seq (.post [] (.block 0 (.seq (.post [3] (.block 2 (.seq (.post [] (.block 1 (.seq (.seq (.seq (.post [0, 3, 4] (.region y22.r2)) (.post [0, 3] (.cond (.t 4) (.exit 1) (.skip)))) (.seq (.seq (.post [0, 3, 11] (.region y22.r3)) (.post [3, 11] (.cond (.t 11) (.skip) (.seq (.post [0, 3, 11] (.region y22.r4)) (.post [3, 11] (.cond (.t 11) (.skip) (.post [3, 11] (.region y22.r5)))))))) (.post [] (.cond (.t 11) (.exit 2) (.skip))))) (.exit 0)))) (.post [3] (.region y22.r6))))) (.seq (.seq (.post [2] (.region y22.r7)) (.ret)) (.exit 0))))) (.seq (.post [2] (.region y22.r8)) (.ret))))⟩
theorem y22.ok : y23 Tryz.prog Tryz.f56 y22 = true := by kernel_rfl
theorem y22.at : Tryz.prog.funcs[y64]? = some Tryz.f56 := Tryz.func56
def y1l.r0 : List AStep := [a17 2,a17 3]
def y1l.r1 : List AStep := [ab 7 0,a24 8 7]
def y1l.r2 : List AStep := [a17 2,a17 3]
def y1l.r3 : List AStep := [ac 4 1]
def y1l.r4 : List AStep := [ab 9 0,a2p 10 9 0,⟨some 11, none, .call y64 [.t 10]⟩,a1c 12 11 2]
def y1l.r5 : List AStep := [ab 13 0,⟨some 14, none, .call ybp [.t 13, .c (.s [48, 49, 50, 51, 52, 53, 54, 55, 56, 57])]⟩,ab 5 14]
def y1l.r6 : List AStep := [ab 15 0,ab 16 0,a1b 17 16,ab 18 5,a1b 19 18,⟨some 20, none, .op (.bin .sub (.t 17) (.t 19))⟩,a29 21 15 20,ab 22 5,ab 2 21,ab 3 22]
def y1l.r7 : List AStep := [ab 23 0,a1b 24 23,ac 25 0]
def y1l.r8 : List AStep := [am 26 25 24]
def y1l.r9 : List AStep := [ab 27 25,ab 6 27]
def y1l.r10 : List AStep := [ab 28 0,ab 29 6,a1z 30 28 29,⟨some 31, none, .call y64 [.t 30]⟩,ab 32 4,am 33 31 32]
def y1l.r11 : List AStep := [ab 34 0,ab 35 6,a29 36 34 35,ab 37 0,ab 38 6,a2q 39 37 38,ab 2 36,ab 3 39]
def y1l.r12 : List AStep := [ap 40 25 1,ab 25 40]
def y1l.l0 : ACode := .seq (.post [0, 4, 24, 25, 26] (.region y1l.r8)) (.seq (.post [0, 4, 24, 25] (.cond (.t 26) (.skip) (.exit 0))) (.seq (.post [0, 4, 24, 25] (.block 1 (.seq (.post [0, 4, 6, 24, 25] (.region y1l.r9)) (.seq (.post [0, 4, 6, 24, 25, 33] (.region y1l.r10)) (.post [0, 4, 24, 25] (.cond (.t 33) (.seq (.post [2, 3] (.draw [0, 0, 3, 0, 0, 24, 7, 127] y1l.r11)) (.ret)) (.skip))))))) (.post [0, 4, 24, 25] (.region y1l.r12))))
def y1l.r13 : List AStep := [ab 41 0,ab 2 41,a17 3]
def y1l : AFunc := ⟨42, [.t 2, .t 3], .seq (.post [0] (.region y1l.r0)) (.seq (.seq (.post [0, 8] (.region y1l.r1)) (.post [0] (.cond (.t 8) (.seq (.post [2, 3] (.region y1l.r2)) (.ret)) (.skip)))) (.seq (.post [0, 4] (.region y1l.r3)) (.seq (.seq (.post [0, 4, 12] (.region y1l.r4)) (.post [0, 4] (.cond (.t 12) (.seq (.post [0, 5] (.region y1l.r5)) (.seq (.post [2, 3] (.region y1l.r6)) (.ret))) (.skip)))) (.seq (.seq (.post [0, 4, 24, 25] (.region y1l.r7)) (.post [0] (.block 0 (.loop y1l.l0)))) (.seq (.post [2, 3] (.region y1l.r13)) (.ret))))))⟩
theorem y1l.ok : y23 Tryz.prog Tryz.f55 y1l = true := by kernel_rfl
theorem y1l.at : Tryz.prog.funcs[y6y]? = some Tryz.f55 := Tryz.func55
def y2t.r0 : List AStep := [ah 2]
def y2t.r1 : List AStep := [ab 6 0,⟨some 7, none, .call y6y [.t 6]⟩,ab 5 7,al 8 0 5,al 9 1 5,ab 3 8,ab 4 9]
def y2t.r2 : List AStep := [ab 10 3,a1v 11 10,ab 12 11,aj 13 12 4,a35 14 12 13,an 15 12 14,ab 16 15,aj 17 16 0,a2e 18 16 17,a23 19 16 18 16,an 20 16 19,ab 21 20,aj 22 21 0,a2r 23 21 22 0,⟨some 24, (some (21, true)), .call y64 [.t 23]⟩,a1q 25 21 24 2,an 26 21 25,ab 2 26]
def y2t : AFunc := ⟨27, [.t 2], .seq (.post [0] (.region y2t.r0)) (.seq (.post [0, 3, 4] (.region y2t.r1)) (.seq (.post [2] (.region y2t.r2)) (.ret)))⟩
theorem y2t.ok : y23 Tryz.prog Tryz.f26 y2t = true := by kernel_rfl
theorem y2t.at : Tryz.prog.funcs[y6p]? = some Tryz.f26 := Tryz.func26
def yy.r0 : List AStep := [ac 6 0]
def yy.r1 : List AStep := [ab 10 0,ai 11 10,ac 12 0]
def yy.r2 : List AStep := [am 13 12 11]
def yy.r3 : List AStep := [ab 14 12,ak 15 3 10 12,ar 16 3 15,a1o 8 0 0,ab 7 14,aq 3 8 16]
def yy.r4 : List AStep := [ab 17 1,ar 18 3 8,a1w 19 17 18,ab 9 19]
def yy.r5 : List AStep := [ab 20 9,a1c 21 20 0]
def yy.r6 : List AStep := [ab 22 9,ab 6 22]
def yy.r7 : List AStep := [ab 23 7,a19 24 23 0,ab 25 24,aj 26 25 2,aj 27 25 0,aj 28 25 7,a2a 29 25 28 1,a1l 30 25 3 27 29,a1h 31 25 3 30,a1h 32 25 3 8,a2y 33 25 26 31 32,a2f 34 25 33 0,an 35 25 34]
def yy.r8 : List AStep := [ac 6 13]
def yy.r9 : List AStep := [ap 36 12 1,ab 12 36]
def yy.l0 : ACode := .seq (.post [0, 1, 2, 10, 11, 12, 13] (.region yy.r2)) (.seq (.post [0, 1, 2, 10, 11, 12] (.cond (.t 13) (.skip) (.exit 0))) (.seq (.post [0, 1, 2, 10, 11, 12] (.block 1 (.seq (.post [0, 1, 2, 7, 8, 10, 11, 12] (.region yy.r3)) (.seq (.seq (.post [0, 1, 2, 7, 8, 9, 10, 11, 12] (.region yy.r4)) (.seq (.post [0, 1, 2, 7, 8, 9, 10, 11, 12, 21] (.region yy.r5)) (.post [0, 1, 2, 7, 8, 10, 11, 12] (.cond (.t 21) (.seq (.post [6] (.region yy.r6)) (.ret)) (.skip))))) (.seq (.post [0, 1, 2, 10, 11, 12, 35] (.draw [0, 1, 3, 7, 7, 7, 39, 119, 247, 7, 1023, 2047, 4095] yy.r7)) (.post [0, 1, 2, 10, 11, 12] (.cond (.t 35) (.seq (.post [6] (.region yy.r8)) (.ret)) (.skip)))))))) (.post [0, 1, 2, 10, 11, 12] (.region yy.r9))))
def yy.r10 : List AStep := [ac 6 0]
def yy : AFunc := ⟨37, [.t 6], .seq (.post [0, 1, 2] (.region yy.r0)) (.seq (.seq (.post [0, 1, 2, 10, 11, 12] (.region yy.r1)) (.post [] (.block 0 (.loop yy.l0)))) (.seq (.post [6] (.region yy.r10)) (.ret)))⟩
theorem yy.ok : y23 Tryz.prog Tryz.f57 yy = true := by kernel_rfl
theorem yy.at : Tryz.prog.funcs[y6f]? = some Tryz.f57 := Tryz.func57
def y1f.r0 : List AStep := [ac 2 0,ac 3 0]
def y1f.r1 : List AStep := [ab 7 0,a24 8 7]
def y1f.r2 : List AStep := [ac 2 0,ac 3 1]
def y1f.r3 : List AStep := [ab 9 0,a1b 10 9,ac 11 0]
def y1f.r4 : List AStep := [am 12 11 10]
def y1f.r5 : List AStep := [ab 13 11,ab 4 13]
def y1f.r6 : List AStep := [ab 14 0,ab 15 4,a1z 16 14 15,⟨some 17, none, .call y64 [.t 16]⟩,a1c 18 17 1]
def y1f.r7 : List AStep := [ac 2 0,ac 3 3]
def y1f.r8 : List AStep := [ap 19 11 1,ab 11 19]
def y1f.l0 : ACode := .seq (.post [0, 10, 11, 12] (.region y1f.r4)) (.seq (.post [0, 10, 11] (.cond (.t 12) (.skip) (.exit 0))) (.seq (.post [0, 10, 11] (.block 1 (.seq (.post [0, 4, 10, 11] (.region y1f.r5)) (.seq (.post [0, 10, 11, 18] (.region y1f.r6)) (.post [0, 10, 11] (.cond (.t 18) (.seq (.post [2, 3] (.region y1f.r7)) (.ret)) (.skip))))))) (.post [0, 10, 11] (.region y1f.r8))))
def y1f.r9 : List AStep := [ab 21 0,a2p 22 21 0,a28 23 22 48,ab 24 23,aj 25 24 0,a2e 26 24 25,a36 27 24 26 1,an 28 24 27,ab 20 28]
def y1f.r10 : List AStep := [ac 2 0,ac 3 3]
def y1f.r11 : List AStep := [ab 30 0,a1b 31 30,a19 32 31 9,ab 29 32]
def y1f.r12 : List AStep := [ac 2 0,ac 3 2]
def y1f.r13 : List AStep := [ab 34 0,⟨some 35, none, .call ye5 [.t 34]⟩,ab 33 35,al 36 0 33,al 37 1 33,ab 5 36,ab 6 37]
def y1f.r14 : List AStep := [ab 38 6,⟨some 39, none, .op (.eqk .ifn true (.t 38) (.c (.nifc)))⟩,ab 40 39,a10 41 40 5,a1g 42 40 41 268435456,av 43 40 42]
def y1f.r15 : List AStep := [ac 2 0,ac 3 2]
def y1f.r16 : List AStep := [ab 44 5,ab 2 44,ac 3 0]
def y1f : AFunc := ⟨45, [.t 2, .t 3], .seq (.post [0] (.region y1f.r0)) (.seq (.seq (.post [0, 8] (.region y1f.r1)) (.post [0] (.cond (.t 8) (.seq (.post [2, 3] (.region y1f.r2)) (.ret)) (.skip)))) (.seq (.seq (.post [0, 10, 11] (.region y1f.r3)) (.post [0] (.block 0 (.loop y1f.l0)))) (.seq (.post [0] (.block 2 (.seq (.post [0, 20] (.region y1f.r9)) (.post [0] (.cond (.t 20) (.seq (.post [2, 3] (.region y1f.r10)) (.ret)) (.seq (.post [0, 29] (.region y1f.r11)) (.post [0] (.cond (.t 29) (.seq (.post [2, 3] (.region y1f.r12)) (.ret)) (.skip))))))))) (.seq (.post [5, 6] (.region y1f.r13)) (.seq (.seq (.post [5, 43] (.region y1f.r14)) (.post [5] (.cond (.t 43) (.seq (.post [2, 3] (.region y1f.r15)) (.ret)) (.skip)))) (.seq (.post [2, 3] (.region y1f.r16)) (.ret)))))))⟩
theorem y1f.ok : y23 Tryz.prog Tryz.f161 y1f = true := by kernel_rfl
theorem y1f.at : Tryz.prog.funcs[y9t]? = some Tryz.f161 := Tryz.func161
def y3c.r0 : List AStep := [ac 2 0,ah 3]
def y3c.r1 : List AStep := [ab 7 0,⟨some 8, none, .call y9t [.t 7]⟩,ab 6 8,al 9 0 6,al 10 1 6,ab 4 9,ab 5 10]
def y3c.r2 : List AStep := [ab 11 4,ab 12 5,a11 13 12 0,ab 2 11,ab 3 13]
def y3c : AFunc := ⟨14, [.t 2, .t 3], .seq (.post [0] (.region y3c.r0)) (.seq (.post [4, 5] (.region y3c.r1)) (.seq (.post [2, 3] (.region y3c.r2)) (.ret)))⟩
theorem y3c.ok : y23 Tryz.prog Tryz.f138 y3c = true := by kernel_rfl
theorem y3c.at : Tryz.prog.funcs[y6x]? = some Tryz.f138 := Tryz.func138
def yi.r0 : List AStep := [a1i 2 0 0 0 0,ah 3]
def yi.r1 : List AStep := [⟨some 9, none, .op (.build [.i .i64 0, .s [], .i .i64 0, .s [], .i .i64 0, .i .i64 0] [(5, 1, .c (.i .i64 (-1)))])⟩,a1i 4 0 0 0 0,aq 6 4 9]
def yi.r2 : List AStep := [a1a 5]
def yi.r3 : List AStep := [ab 10 0,⟨some 11, none, .call y8s [.t 10, .c (.i .u8 43)]⟩,ab 6 11]
def yi.r4 : List AStep := [ab 12 6,a1e 13 12 0]
def yi.r5 : List AStep := [ab 15 0,ab 16 6,ap 17 16 1,a2q 18 15 17,⟨some 19, none, .call y6x [.t 18]⟩,ab 14 19,al 20 0 14,al 21 1 14,af 22 5 4,aq 1 22 20,ab 5 21]
def yi.r6 : List AStep := [ab 23 5,a18 24 23]
def yi.r7 : List AStep := [ar 25 6 4,aq 6 2 25,ah 3]
def yi.r8 : List AStep := [ab 26 0,ab 27 6,a29 28 26 27,ab 0 28]
def yi.r9 : List AStep := [ab 30 0,⟨some 31, none, .call y6y [.t 30]⟩,ab 29 31,al 32 0 29,al 33 1 29,ab 7 32,ab 8 33]
def yi.r10 : List AStep := [ab 34 8,a24 35 34]
def yi.r11 : List AStep := [ab 36 7,af 37 0 4,a38 1 37 5,af 38 3 4,aq 1 38 36]
def yi.r12 : List AStep := [ar 39 6 4,aq 6 2 39,a1a 3]
def yi.r13 : List AStep := [ab 40 7,af 41 1 4,aq 1 41 40]
def yi.r14 : List AStep := [ab 42 8,a2p 43 42 0,a28 44 43 126]
def yi.r15 : List AStep := [ab 46 8,a2s 47 46 1,⟨some 48, none, .call y6y [.t 47]⟩,ab 45 48,al 49 0 45,al 50 1 45,ab 7 49,ab 8 50]
def yi.r16 : List AStep := [ab 52 7,⟨some 53, none, .call y6x [.t 52]⟩,ab 51 53,al 54 0 51,al 55 1 51,af 56 2 4,aq 1 56 54,ab 5 55]
def yi.r17 : List AStep := [ab 57 5,a18 58 57,ab 59 58,a10 60 59 8,⟨some 61, (some (59, false)), .op (.bin .eql (.t 60) (.c (.s [])))⟩,av 62 59 61]
def yi.r18 : List AStep := [ar 63 6 4,aq 6 2 63,ah 3]
def yi.r19 : List AStep := [ab 64 8,a2p 65 64 0,⟨some 66, none, .call y8s [.c (.s [32, 46, 36, 64, 40, 32, 37, 35]), .t 65]⟩,af 67 0 4,aq 1 67 66]
def yi.r20 : List AStep := [ab 68 8,a2s 69 68 1,ab 8 69]
def yi.r21 : List AStep := [af 70 0 4,ae 71 1 70]
def yi.r22 : List AStep := [a11 73 71 1,ab 72 73]
def yi.r23 : List AStep := [a11 74 71 6,ab 72 74]
def yi.r24 : List AStep := [ab 75 8,af 76 3 4,aq 1 76 75]
def yi.r25 : List AStep := [a11 78 71 4,ab 77 78]
def yi.r26 : List AStep := [ar 79 6 4,ab 80 8,a2z 81 80 41,aq 6 2 79,ab 3 81]
def yi.r27 : List AStep := [a11 83 71 2,ab 82 83]
def yi.r28 : List AStep := [a11 84 71 3,ab 82 84]
def yi.r29 : List AStep := [a11 85 71 7,ab 82 85]
def yi.r30 : List AStep := [ab 87 8,⟨some 88, none, .call y6x [.t 87]⟩,ab 86 88,al 89 0 86,al 90 1 86,af 91 4 4,aq 1 91 89,ab 5 90]
def yi.r31 : List AStep := [ah 5]
def yi.r32 : List AStep := [ar 92 6 4,ab 93 5,aq 6 2 92,ab 3 93]
def yi : AFunc := ⟨94, [.cell 2 true 6, .t 3], .seq (.post [0, 2] (.region yi.r0)) (.seq (.post [0, 2, 4] (.region yi.r1)) (.seq (.post [0, 2, 4, 5] (.region yi.r2)) (.seq (.seq (.post [0, 2, 4, 5, 6] (.region yi.r3)) (.seq (.post [0, 2, 4, 5, 6, 13] (.region yi.r4)) (.post [0, 2, 4, 5] (.cond (.t 13) (.seq (.seq (.post [0, 2, 4, 5, 6] (.region yi.r5)) (.seq (.post [0, 2, 4, 5, 6, 24] (.region yi.r6)) (.post [0, 2, 4, 5, 6] (.cond (.t 24) (.seq (.post [2, 3] (.region yi.r7)) (.ret)) (.skip))))) (.post [0, 2, 4, 5] (.region yi.r8))) (.skip))))) (.seq (.post [2, 4, 5, 7, 8] (.region yi.r9)) (.seq (.seq (.post [2, 4, 5, 7, 8, 35] (.region yi.r10)) (.post [2, 4, 5, 7, 8] (.cond (.t 35) (.seq (.post [2, 4] (.region yi.r11)) (.seq (.post [2, 3] (.region yi.r12)) (.ret))) (.skip)))) (.seq (.post [2, 4, 5, 8] (.region yi.r13)) (.seq (.seq (.post [2, 4, 5, 8, 44] (.region yi.r14)) (.post [2, 4, 5, 8] (.cond (.t 44) (.seq (.post [2, 4, 7, 8] (.region yi.r15)) (.seq (.post [2, 4, 5, 8] (.region yi.r16)) (.seq (.post [2, 4, 5, 8, 62] (.region yi.r17)) (.post [2, 4, 5, 8] (.cond (.t 62) (.seq (.post [2, 3] (.region yi.r18)) (.ret)) (.skip)))))) (.skip)))) (.seq (.post [2, 4, 5, 8] (.region yi.r19)) (.seq (.seq (.post [2, 4, 5, 8] (.region yi.r20)) (.seq (.post [2, 4, 5, 8, 71] (.region yi.r21)) (.post [2, 4, 5] (.block 0 (.seq (.seq (.post [2, 4, 5, 8, 71, 72] (.region yi.r22)) (.post [2, 4, 5, 8, 71, 72] (.cond (.t 72) (.skip) (.post [2, 4, 5, 8, 71, 72] (.region yi.r23))))) (.post [2, 4, 5] (.cond (.t 72) (.post [2, 4, 5] (.region yi.r24)) (.seq (.post [2, 4, 8, 71, 77] (.region yi.r25)) (.post [2, 4, 5] (.cond (.t 77) (.seq (.post [2, 3] (.region yi.r26)) (.ret)) (.seq (.seq (.post [2, 4, 8, 71, 82] (.region yi.r27)) (.post [2, 4, 8, 82] (.cond (.t 82) (.skip) (.seq (.post [2, 4, 8, 71, 82] (.region yi.r28)) (.post [2, 4, 8, 82] (.cond (.t 82) (.skip) (.post [2, 4, 8, 82] (.region yi.r29)))))))) (.post [2, 4, 5] (.cond (.t 82) (.post [2, 4, 5] (.region yi.r30)) (.post [2, 4, 5] (.region yi.r31))))))))))))))) (.seq (.post [2, 3] (.region yi.r32)) (.ret)))))))))))⟩
theorem yi.ok : y23 Tryz.prog Tryz.f107 yi = true := by kernel_rfl
theorem yi.at : Tryz.prog.funcs[ya9]? = some Tryz.f107 := Tryz.func107
def y2g.r0 : List AStep := [a14 1 0,ah 2]
def y2g.r1 : List AStep := [af 3 5 1,ae 4 1 3,a1e 5 4 (-1),ab 6 5,az 7 6 5 1,ay 8 6 1 7,a23 9 6 8 268435456,an 10 6 9,ab 2 10]
def y2g : AFunc := ⟨11, [.t 2], .seq (.post [1] (.region y2g.r0)) (.seq (.post [2] (.region y2g.r1)) (.ret))⟩
theorem y2g.ok : y23 Tryz.prog Tryz.f139 y2g = true := by kernel_rfl
theorem y2g.at : Tryz.prog.funcs[y56]? = some Tryz.f139 := Tryz.func139
def y4.r0 : List AStep := [a14 1 0,ah 2]
def y4.r1 : List AStep := [ar 5 6 1,a1i 3 0 0 0 0,aq 6 3 5]
def y4.r2 : List AStep := [af 6 0 3,a38 1 6 0,af 7 1 3,⟨none, none, .op (.store 1 (.t 7) (.c (.s [])))⟩,af 8 2 3,a38 1 8 0]
def y4.r3 : List AStep := [af 9 0 1,ae 10 1 9,a1c 11 10 5,ab 12 11,az 13 12 1 1,ay 14 12 1 13,⟨some 15, (some (12, true)), .call y6p [.t 14]⟩,a1r 16 12 15,aj 17 12 16,aw 18 17 2 1,ax 19 17 1 18,a2t 20 17 19 0,a1k 21 12 17 20,aj 22 12 21,aw 23 22 2 1,ax 24 22 1 23,a1g 25 22 24 268435456,a1k 26 12 22 25,an 27 12 26]
def y4.r4 : List AStep := [ah 2]
def y4.r5 : List AStep := [ac 4 0]
def y4.r6 : List AStep := [af 28 0 1,ae 29 1 28]
def y4.r7 : List AStep := [a11 31 29 5,ab 30 31]
def y4.r8 : List AStep := [a11 33 29 6,ab 32 33]
def y4.r9 : List AStep := [a11 35 29 1,ab 34 35]
def y4.r10 : List AStep := [a11 37 29 7,ab 36 37]
def y4.r11 : List AStep := [a11 39 29 4,ab 38 39]
def y4.r12 : List AStep := [a11 41 29 3,ab 40 41]
def y4.r13 : List AStep := [a11 43 29 2,ab 42 43]
def y4.r14 : List AStep := [af 44 1 1,ae 45 1 44,a1v 46 45,ab 47 46,aw 48 47 2 1,ax 49 47 1 48,a25 50 47 49 0,av 51 47 50]
def y4.r15 : List AStep := [ah 2]
def y4.r16 : List AStep := [af 52 3 1,ae 53 1 52,⟨some 54, none, .call y6p [.t 53]⟩,ab 55 54,a1h 56 55 6 3,az 57 55 3 1,ay 58 55 1 57,az 59 55 5 1,ay 60 55 1 59,⟨some 61, (some (55, true)), .op (.build [.i .i64 0, .s [], .i .i64 0, .s [], .i .i64 0, .i .i64 0] [(3, 1, .t 58), (5, 1, .t 60)])⟩,a30 62 55 0 1 0 1 0 0 56 61,an 63 55 62,ab 64 63,a1h 65 64 6 1,⟨some 66, (some (64, true)), .call y56 [.t 65]⟩,an 67 64 66,ab 2 67]
def y4.r17 : List AStep := [af 68 3 1,ae 69 1 68,⟨some 70, none, .call y6p [.t 69]⟩,ab 71 70,a1h 72 71 6 3,az 73 71 3 1,ay 74 71 1 73,⟨some 75, (some (71, true)), .op (.build [.i .i64 0, .s [], .i .i64 0, .s [], .i .i64 0, .i .i64 0] [(3, 1, .t 74), (5, 1, .c (.i .i64 (-1)))])⟩,a30 76 71 0 1 0 1 0 0 72 75,an 77 71 76,ab 2 77]
def y4.r18 : List AStep := [af 78 4 1,ae 79 1 78,a1e 80 79 1,ab 81 80,az 82 81 4 1,ay 83 81 1 82,a23 84 81 83 268435456,an 85 81 84,ab 86 85,a1h 87 86 6 3,az 88 86 4 1,ay 89 86 1 88,az 90 86 5 1,ay 91 86 1 90,⟨some 92, (some (86, true)), .op (.build [.i .i64 0, .s [], .i .i64 0, .s [], .i .i64 0, .i .i64 0] [(4, 1, .t 89), (5, 1, .t 91)])⟩,a30 93 86 0 1 0 1 0 0 87 92,an 94 86 93,ab 95 94,a1h 96 95 6 1,⟨some 97, (some (95, true)), .call y56 [.t 96]⟩,an 98 95 97,ab 2 98]
def y4.r19 : List AStep := [ar 99 6 3,⟨some 100, none, .op (.build [.i .i64 0, .s [], .i .i64 0, .s [], .i .i64 0, .i .i64 0] [(5, 1, .c (.i .i64 (-1)))])⟩,⟨some 101, none, .op (.eqa false [0, 1, 0, 1, 0, 0] (.t 99) (.t 100))⟩,ab 2 101]
def y4.r20 : List AStep := [ac 4 1]
def y4.r21 : List AStep := [af 102 4 1,ae 103 1 102,ab 104 4,a39 105 103 104,ab 106 105,az 107 106 4 1,ay 108 106 1 107,a23 109 106 108 268435456,an 110 106 109,ab 111 110,a1h 112 111 6 3,az 113 111 4 1,ay 114 111 1 113,⟨some 115, (some (111, true)), .op (.build [.i .i64 0, .s [], .i .i64 0, .s [], .i .i64 0, .i .i64 0] [(4, 1, .t 114), (5, 1, .c (.i .i64 (-1)))])⟩,a30 116 111 0 1 0 1 0 0 112 115,an 117 111 116,ab 2 117]
def y4.r22 : List AStep := [ah 2]
def y4 : AFunc := ⟨118, [.t 2], .seq (.post [1] (.region y4.r0)) (.seq (.post [1, 3] (.region y4.r1)) (.seq (.post [1, 3] (.region y4.r2)) (.seq (.seq (.post [1, 3, 27] (.region y4.r3)) (.post [1, 3] (.cond (.t 27) (.seq (.post [2] (.region y4.r4)) (.ret)) (.skip)))) (.seq (.post [1, 3, 4] (.region y4.r5)) (.seq (.seq (.post [1, 3, 4, 29] (.region y4.r6)) (.post [] (.block 0 (.seq (.post [1, 3, 4] (.block 7 (.seq (.post [1, 3] (.block 6 (.seq (.post [3] (.block 5 (.seq (.post [1, 3] (.block 4 (.seq (.post [1, 3] (.block 3 (.seq (.post [1, 3] (.block 2 (.seq (.post [1, 3] (.block 1 (.seq (.seq (.seq (.post [1, 3, 4, 29, 30] (.region y4.r7)) (.post [1, 3, 4, 29] (.cond (.t 30) (.exit 1) (.skip)))) (.seq (.seq (.post [1, 3, 4, 29, 32] (.region y4.r8)) (.post [1, 3, 4, 29] (.cond (.t 32) (.exit 2) (.skip)))) (.seq (.seq (.post [1, 3, 4, 29, 34] (.region y4.r9)) (.post [1, 3, 4, 29] (.cond (.t 34) (.exit 3) (.skip)))) (.seq (.seq (.post [1, 3, 4, 29, 36] (.region y4.r10)) (.post [1, 3, 4, 29] (.cond (.t 36) (.exit 4) (.skip)))) (.seq (.seq (.post [1, 3, 4, 29, 38] (.region y4.r11)) (.post [1, 3, 4, 29] (.cond (.t 38) (.exit 5) (.skip)))) (.seq (.seq (.post [1, 3, 4, 29, 40] (.region y4.r12)) (.post [1, 3, 4, 29] (.cond (.t 40) (.exit 6) (.skip)))) (.seq (.post [1, 3, 4, 42] (.region y4.r13)) (.post [] (.cond (.t 42) (.exit 7) (.skip)))))))))) (.exit 0)))) (.seq (.post [1, 3, 51] (.region y4.r14)) (.post [1, 3] (.cond (.t 51) (.seq (.post [2] (.region y4.r15)) (.ret)) (.skip))))))) (.seq (.seq (.post [2] (.region y4.r16)) (.ret)) (.exit 0))))) (.seq (.seq (.post [2] (.region y4.r17)) (.ret)) (.exit 0))))) (.seq (.seq (.post [2] (.region y4.r18)) (.ret)) (.exit 0))))) (.seq (.seq (.post [2] (.region y4.r19)) (.ret)) (.exit 0))))) (.post [1, 3, 4] (.region y4.r20))))) (.seq (.seq (.post [2] (.region y4.r21)) (.ret)) (.exit 0)))))) (.seq (.post [2] (.region y4.r22)) (.ret)))))))⟩
theorem y4.ok : y23 Tryz.prog Tryz.f108 y4 = true := by kernel_rfl
theorem y4.at : Tryz.prog.funcs[y7h]? = some Tryz.f108 := Tryz.func108
def y2m.r0 : List AStep := [a1i 2 0 0 0 0,ac 3 0]
def y2m.r1 : List AStep := [ab 7 0,⟨some 8, none, .call ya9 [.t 7]⟩,ab 6 8,al 9 0 6,al 10 1 6,a1i 4 0 0 0 0,aq 6 4 9,ab 5 10]
def y2m.r2 : List AStep := [ab 11 5,a18 12 11,ab 13 12,a2c 14 13 6 4,⟨some 15, (some (13, false)), .call y7h [.t 14]⟩,a1s 16 13 15,av 17 13 16,ab 18 17,a2c 19 18 6 4,⟨some 20, (some (18, false)), .call ybq [.t 19]⟩,a10 21 18 0,a26 22 18 20 21,av 23 18 22]
def y2m.r3 : List AStep := [⟨some 24, none, .op (.build [.i .i64 0, .s [], .i .i64 0, .s [], .i .i64 0, .i .i64 0] [])⟩,aq 6 2 24,ac 3 11]
def y2m.r4 : List AStep := [ar 25 6 4,aq 6 2 25,ac 3 0]
def y2m : AFunc := ⟨26, [.cell 2 true 6, .t 3], .seq (.post [0, 2] (.region y2m.r0)) (.seq (.post [0, 2, 4, 5] (.region y2m.r1)) (.seq (.seq (.post [2, 4, 23] (.region y2m.r2)) (.post [2, 4] (.cond (.t 23) (.seq (.post [2, 3] (.region y2m.r3)) (.ret)) (.skip)))) (.seq (.post [2, 3] (.region y2m.r4)) (.ret))))⟩
theorem y2m.ok : y23 Tryz.prog Tryz.f70 y2m = true := by kernel_rfl
theorem y2m.at : Tryz.prog.funcs[y6h]? = some Tryz.f70 := Tryz.func70
def y2p.r0 : List AStep := [ah 4]
def y2p.r1 : List AStep := [ab 5 0,⟨some 6, none, .call yb1 [.t 5, .c (.s [105, 112])]⟩,a24 7 6,ab 8 7,aj 9 8 0,a2e 10 8 9,aj 11 8 1,⟨some 12, (some (8, true)), .op (.bin .leq (.t 10) (.t 11))⟩,an 13 8 12,ab 4 13]
def y2p : AFunc := ⟨14, [.t 4], .seq (.post [0, 1] (.region y2p.r0)) (.seq (.post [4] (.region y2p.r1)) (.ret))⟩
theorem y2p.ok : y23 Tryz.prog Tryz.f98 y2p = true := by kernel_rfl
theorem y2p.at : Tryz.prog.funcs[y4y]? = some Tryz.f98 := Tryz.func98
def y2x.r0 : List AStep := [ah 2]
def y2x.r1 : List AStep := [ab 3 0,a1v 4 3,ab 5 4,aj 6 5 0,a2e 7 5 6,a23 8 5 7 60,an 9 5 8,ab 2 9]
def y2x : AFunc := ⟨10, [.t 2], .seq (.post [0] (.region y2x.r0)) (.seq (.post [2] (.region y2x.r1)) (.ret))⟩
theorem y2x.ok : y23 Tryz.prog Tryz.f99 y2x = true := by kernel_rfl
theorem y2x.at : Tryz.prog.funcs[y6m]? = some Tryz.f99 := Tryz.func99
def yn.r0 : List AStep := [a14 3 1,ac 4 0]
def yn.r1 : List AStep := [ab 6 0,ai 7 6,ac 8 0]
def yn.r2 : List AStep := [am 9 8 7]
def yn.r3 : List AStep := [ab 10 8,ab 5 10]
def yn.r4 : List AStep := [ar 11 2 3,ab 12 0,ab 13 5,ak 14 2 12 13,ar 15 2 14,⟨some 16, none, .op (.eqa false [0, 1] (.t 11) (.t 15))⟩]
def yn.r5 : List AStep := [ab 17 5,ab 4 17]
def yn.r6 : List AStep := [ap 18 8 1,ab 8 18]
def yn.l0 : ACode := .seq (.post [0, 3, 7, 8, 9] (.region yn.r2)) (.seq (.post [0, 3, 7, 8] (.cond (.t 9) (.skip) (.exit 0))) (.seq (.post [0, 3, 7, 8] (.block 1 (.seq (.post [0, 3, 5, 7, 8] (.region yn.r3)) (.seq (.post [0, 3, 5, 7, 8, 16] (.draw [0, 0, 0, 6, 14, 31] yn.r4)) (.post [0, 3, 7, 8] (.cond (.t 16) (.seq (.post [4] (.region yn.r5)) (.ret)) (.skip))))))) (.post [0, 3, 7, 8] (.region yn.r6))))
def yn.r7 : List AStep := [ac 4 (-1)]
def yn : AFunc := ⟨19, [.t 4], .seq (.post [0, 3] (.region yn.r0)) (.seq (.seq (.post [0, 3, 7, 8] (.region yn.r1)) (.post [] (.block 0 (.loop yn.l0)))) (.seq (.post [4] (.region yn.r7)) (.ret)))⟩
theorem yn.ok : y23 Tryz.prog Tryz.f134 yn = true := by kernel_rfl
theorem yn.at : Tryz.prog.funcs[y4g]? = some Tryz.f134 := Tryz.func134
def y1z.r0 : List AStep := [a14 3 1,ah 4]
def y1z.r1 : List AStep := [ab 5 0,ar 6 2 3,⟨some 7, none, .call y4g [.t 5, .t 6]⟩,a1e 8 7 0,ab 4 8]
def y1z : AFunc := ⟨9, [.t 4], .seq (.post [0, 3] (.region y1z.r0)) (.seq (.post [4] (.region y1z.r1)) (.ret))⟩
theorem y1z.ok : y23 Tryz.prog Tryz.f100 y1z = true := by kernel_rfl
theorem y1z.at : Tryz.prog.funcs[y3t]? = some Tryz.f100 := Tryz.func100
def y15.r0 : List AStep := [a14 1 0,ac 2 0]
def y15.r1 : List AStep := [af 9 0 1,ae 10 1 9,⟨some 11, none, .call y6h [.t 10]⟩,ab 8 11,al 12 0 8,al 13 1 8,a1i 3 0 0 0 0,aq 6 3 12,ab 4 13]
def y15.r2 : List AStep := [ab 15 4,a1c 16 15 0,ab 17 16,aw 18 17 0 3,ax 19 17 1 18,a2t 20 17 19 5,av 21 17 20,ab 22 21,aw 23 22 5 3,ax 24 22 1 23,a2g 25 22 24 0,av 26 22 25,ab 14 26]
def y15.r3 : List AStep := [ac 2 11]
def y15.r4 : List AStep := [af 28 1 1,ae 29 1 28,a24 30 29,ab 31 30,aw 32 31 1 1,ax 33 31 1 32,⟨some 34, (some (31, false)), .call y4y [.t 33, .c (.i .i64 64)]⟩,a1s 35 31 34,av 36 31 35,ab 27 36]
def y15.r5 : List AStep := [ac 2 5]
def y15.r6 : List AStep := [ac 5 0]
def y15.r7 : List AStep := [af 37 2 1,ae 38 1 37,ai 39 38,ac 40 0]
def y15.r8 : List AStep := [am 41 40 39]
def y15.r9 : List AStep := [ab 42 40,ak 43 2 38 40,ar 44 2 43,⟨some 7, none, .op (.new [.i .i64 0, .s []])⟩,ab 6 42,aq 2 7 44]
def y15.r10 : List AStep := [af 45 0 7,ae 46 1 45,ab 47 5,am 48 46 47,ab 49 48,aw 50 49 0 7,ax 51 49 1 50,aw 52 49 1 1,ax 53 49 1 52,a1u 54 49 53,⟨some 55, (some (49, false)), .op (.bin .geq (.t 51) (.t 54))⟩,av 56 49 55,ab 57 56,aw 58 57 1 7,ax 59 57 1 58,⟨some 60, (some (57, false)), .call y6m [.t 59]⟩,a1s 61 57 60,av 62 57 61,ab 63 62,aw 64 63 2 1,ax 65 63 1 64,a10 66 63 6,⟨some 67, (some (63, false)), .op (.slc 2 (.t 65) none (some (.t 66)))⟩,a2c 68 63 2 7,⟨some 69, (some (63, false)), .call y3t [.t 67, .t 68]⟩,av 70 63 69]
def y15.r11 : List AStep := [ac 2 3]
def y15.r12 : List AStep := [af 71 0 7,ae 72 1 71,ab 5 72]
def y15.r13 : List AStep := [ap 73 40 1,ab 40 73]
def y15.l0 : ACode := .seq (.post [1, 5, 38, 39, 40, 41] (.region y15.r8)) (.seq (.post [1, 5, 38, 39, 40] (.cond (.t 41) (.skip) (.exit 1))) (.seq (.post [1, 5, 38, 39, 40] (.block 2 (.seq (.post [1, 5, 6, 7, 38, 39, 40] (.region y15.r9)) (.seq (.seq (.post [1, 7, 38, 39, 40, 70] (.draw [0, 1, 0, 7, 15, 31, 63, 31, 159, 415, 1023, 2047, 4095, 8191, 16383, 32767, 65535, 131071, 262143, 524287, 1048575, 524287, 4194303, 524287, 16777215, 33554431] y15.r10)) (.post [1, 7, 38, 39, 40] (.cond (.t 70) (.seq (.post [2] (.region y15.r11)) (.ret)) (.skip)))) (.post [1, 5, 38, 39, 40] (.region y15.r12)))))) (.post [1, 5, 38, 39, 40] (.region y15.r13))))
def y15.r14 : List AStep := [ac 2 0]
def y15 : AFunc := ⟨74, [.t 2], .seq (.post [1] (.region y15.r0)) (.seq (.post [1, 3, 4] (.region y15.r1)) (.seq (.post [1] (.block 0 (.seq (.post [1, 14] (.region y15.r2)) (.post [1] (.cond (.t 14) (.seq (.post [2] (.region y15.r3)) (.ret)) (.seq (.post [1, 27] (.region y15.r4)) (.post [1] (.cond (.t 27) (.seq (.post [2] (.region y15.r5)) (.ret)) (.skip))))))))) (.seq (.post [1, 5] (.region y15.r6)) (.seq (.seq (.post [1, 5, 38, 39, 40] (.region y15.r7)) (.post [] (.block 1 (.loop y15.l0)))) (.seq (.post [2] (.region y15.r14)) (.ret))))))⟩
theorem y15.ok : y23 Tryz.prog Tryz.f58 y15 = true := by kernel_rfl
theorem y15.at : Tryz.prog.funcs[y6e]? = some Tryz.f58 := Tryz.func58
def y32.r0 : List AStep := [ah 2]
def y32.r1 : List AStep := [ab 3 0,ab 4 0,a1m 5 3 4,ab 2 5]
def y32 : AFunc := ⟨6, [.t 2], .seq (.post [0] (.region y32.r0)) (.seq (.post [2] (.region y32.r1)) (.ret))⟩
theorem y32.ok : y23 Tryz.prog Tryz.f115 y32 = true := by kernel_rfl
theorem y32.at : Tryz.prog.funcs[y68]? = some Tryz.f115 := Tryz.func115
def y11.r0 : List AStep := [ac 4 0]
def y11.r1 : List AStep := [ab 7 0,⟨some 8, none, .call y68 [.t 7]⟩,ab 5 8]
def y11.r2 : List AStep := [ab 9 1,⟨some 10, none, .call y68 [.t 9]⟩,ab 6 10]
def y11.r3 : List AStep := [ab 11 5]
def y11.r4 : List AStep := [ab 12 6]
def y11.r5 : List AStep := [ac 4 0]
def y11.r6 : List AStep := [ac 4 (-1)]
def y11.r7 : List AStep := [ab 13 6]
def y11.r8 : List AStep := [ac 4 1]
def y11.r9 : List AStep := [ab 14 0,ab 15 1,am 16 14 15]
def y11.r10 : List AStep := [ac 4 (-1)]
def y11.r11 : List AStep := [ab 17 0,ab 18 1,a2n 19 17 18]
def y11.r12 : List AStep := [ac 4 1]
def y11.r13 : List AStep := [ac 4 0]
def y11 : AFunc := ⟨20, [.t 4], .seq (.post [0, 1] (.region y11.r0)) (.seq (.post [0, 1, 5] (.region y11.r1)) (.seq (.post [0, 1, 5, 6] (.region y11.r2)) (.seq (.seq (.post [0, 1, 6, 11] (.region y11.r3)) (.post [0, 1, 6] (.cond (.t 11) (.seq (.seq (.post [12] (.region y11.r4)) (.post [] (.cond (.t 12) (.seq (.post [4] (.region y11.r5)) (.ret)) (.skip)))) (.seq (.post [4] (.region y11.r6)) (.ret))) (.skip)))) (.seq (.seq (.post [0, 1, 13] (.region y11.r7)) (.post [0, 1] (.cond (.t 13) (.seq (.post [4] (.region y11.r8)) (.ret)) (.skip)))) (.seq (.seq (.post [0, 1, 16] (.region y11.r9)) (.post [0, 1] (.cond (.t 16) (.seq (.post [4] (.region y11.r10)) (.ret)) (.skip)))) (.seq (.seq (.post [19] (.region y11.r11)) (.post [] (.cond (.t 19) (.seq (.post [4] (.region y11.r12)) (.ret)) (.skip)))) (.seq (.post [4] (.region y11.r13)) (.ret))))))))⟩
theorem y11.ok : y23 Tryz.prog Tryz.f101 y11 = true := by kernel_rfl
theorem y11.at : Tryz.prog.funcs[y3p]? = some Tryz.f101 := Tryz.func101
def y3u.r0 : List AStep := [a14 2 0,a14 3 1,ac 4 0]
def y3u.r1 : List AStep := [af 5 0 2,ae 6 1 5,af 7 0 3,ae 8 1 7,⟨some 9, none, .call y3p [.t 6, .t 8]⟩,ab 4 9]
def y3u : AFunc := ⟨10, [.t 4], .seq (.post [2, 3] (.region y3u.r0)) (.seq (.post [4] (.region y3u.r1)) (.ret))⟩
theorem y3u.ok : y23 Tryz.prog Tryz.f59 y3u = true := by kernel_rfl
theorem y3u.at : Tryz.prog.funcs[y6w]? = some Tryz.f59 := Tryz.func59
def y13.r0 : List AStep := [ac 6 0]
def y13.r1 : List AStep := [ab 10 0,ai 11 10,ac 12 0]
def y13.r2 : List AStep := [am 13 12 11]
def y13.r3 : List AStep := [ab 14 12,ak 15 3 10 12,ar 16 3 15,a2u 8,ab 7 14,aq 3 8 16]
def y13.r4 : List AStep := [ab 17 1,ar 18 3 8,a1w 19 17 18,ab 9 19]
def y13.r5 : List AStep := [ab 20 9,a1c 21 20 0]
def y13.r6 : List AStep := [ab 22 9,ab 6 22]
def y13.r7 : List AStep := [ab 23 7,a19 24 23 0,ab 25 24,aj 26 25 2,aj 27 25 0,aj 28 25 7,a2a 29 25 28 1,a1l 30 25 3 27 29,a1h 31 25 3 30,a1h 32 25 3 8,a2y 33 25 26 31 32,a2f 34 25 33 0,an 35 25 34]
def y13.r8 : List AStep := [ac 6 13]
def y13.r9 : List AStep := [ap 36 12 1,ab 12 36]
def y13.l0 : ACode := .seq (.post [0, 1, 2, 10, 11, 12, 13] (.region y13.r2)) (.seq (.post [0, 1, 2, 10, 11, 12] (.cond (.t 13) (.skip) (.exit 0))) (.seq (.post [0, 1, 2, 10, 11, 12] (.block 1 (.seq (.post [0, 1, 2, 7, 8, 10, 11, 12] (.region y13.r3)) (.seq (.seq (.post [0, 1, 2, 7, 8, 9, 10, 11, 12] (.region y13.r4)) (.seq (.post [0, 1, 2, 7, 8, 9, 10, 11, 12, 21] (.region y13.r5)) (.post [0, 1, 2, 7, 8, 10, 11, 12] (.cond (.t 21) (.seq (.post [6] (.region y13.r6)) (.ret)) (.skip))))) (.seq (.post [0, 1, 2, 10, 11, 12, 35] (.draw [0, 1, 3, 7, 7, 7, 39, 119, 247, 7, 1023, 2047, 4095] y13.r7)) (.post [0, 1, 2, 10, 11, 12] (.cond (.t 35) (.seq (.post [6] (.region y13.r8)) (.ret)) (.skip)))))))) (.post [0, 1, 2, 10, 11, 12] (.region y13.r9))))
def y13.r10 : List AStep := [ac 6 0]
def y13 : AFunc := ⟨37, [.t 6], .seq (.post [0, 1, 2] (.region y13.r0)) (.seq (.seq (.post [0, 1, 2, 10, 11, 12] (.region y13.r1)) (.post [] (.block 0 (.loop y13.l0)))) (.seq (.post [6] (.region y13.r10)) (.ret)))⟩
theorem y13.ok : y23 Tryz.prog Tryz.f60 y13 = true := by kernel_rfl
theorem y13.at : Tryz.prog.funcs[y6u]? = some Tryz.f60 := Tryz.func60
def y1u.r0 : List AStep := [a14 1 0,ac 2 0]
def y1u.r1 : List AStep := [af 6 0 1,ae 7 1 6,⟨some 8, none, .call y6h [.t 7]⟩,ab 5 8,al 9 0 5,al 10 1 5,a1i 3 0 0 0 0,aq 6 3 9,ab 4 10]
def y1u.r2 : List AStep := [ab 12 4,a1c 13 12 0,ab 14 13,aw 15 14 0 3,ax 16 14 1 15,a25 17 14 16 4,av 18 14 17,ab 11 18]
def y1u.r3 : List AStep := [ac 2 11]
def y1u.r4 : List AStep := [af 20 1 1,ae 21 1 20,⟨some 22, none, .call y4y [.t 21, .c (.i .i64 6)]⟩,a18 23 22,ab 24 23,aw 25 24 2 1,ax 26 24 1 25,⟨some 27, (some (24, false)), .op (.bin .neq (.t 26) (.c (.s [105])))⟩,a10 28 24 27,az 29 28 2 1,ay 30 28 1 29,a2h 31 28 30 112,a1f 32 24 28 31,a10 33 24 32,az 34 33 2 1,ay 35 33 1 34,a2h 36 33 35 118,a1f 37 24 33 36,av 38 24 37,ab 19 38]
def y1u.r5 : List AStep := [ac 2 5]
def y1u.r6 : List AStep := [ac 2 0]
def y1u : AFunc := ⟨39, [.t 2], .seq (.post [1] (.region y1u.r0)) (.seq (.post [1, 3, 4] (.region y1u.r1)) (.seq (.post [] (.block 0 (.seq (.post [1, 11] (.region y1u.r2)) (.post [] (.cond (.t 11) (.seq (.post [2] (.region y1u.r3)) (.ret)) (.seq (.post [19] (.region y1u.r4)) (.post [] (.cond (.t 19) (.seq (.post [2] (.region y1u.r5)) (.ret)) (.skip))))))))) (.seq (.post [2] (.region y1u.r6)) (.ret))))⟩
theorem y1u.ok : y23 Tryz.prog Tryz.f61 y1u = true := by kernel_rfl
theorem y1u.at : Tryz.prog.funcs[y5t]? = some Tryz.f61 := Tryz.func61
def y40.r0 : List AStep := [a14 2 0,a14 3 1,ac 4 0]
def y40.r1 : List AStep := [af 5 0 2,ae 6 1 5,af 7 0 3,ae 8 1 7,⟨some 9, none, .call y3p [.t 6, .t 8]⟩,ab 4 9]
def y40 : AFunc := ⟨10, [.t 4], .seq (.post [2, 3] (.region y40.r0)) (.seq (.post [4] (.region y40.r1)) (.ret))⟩
theorem y40.ok : y23 Tryz.prog Tryz.f62 y40 = true := by kernel_rfl
theorem y40.at : Tryz.prog.funcs[y7f]? = some Tryz.f62 := Tryz.func62
def yz.r0 : List AStep := [ac 6 0]
def yz.r1 : List AStep := [ab 10 0,ai 11 10,ac 12 0]
def yz.r2 : List AStep := [am 13 12 11]
def yz.r3 : List AStep := [ab 14 12,ak 15 6 10 12,ar 16 6 15,a2x 8 0 0 0 0,ab 7 14,aq 6 8 16]
def yz.r4 : List AStep := [ab 17 1,ar 18 6 8,a1w 19 17 18,ab 9 19]
def yz.r5 : List AStep := [ab 20 9,a1c 21 20 0]
def yz.r6 : List AStep := [ab 22 9,ab 6 22]
def yz.r7 : List AStep := [ab 23 7,a19 24 23 0,ab 25 24,aj 26 25 2,aj 27 25 0,aj 28 25 7,a2a 29 25 28 1,a1l 30 25 6 27 29,a1h 31 25 6 30,a1h 32 25 6 8,a2y 33 25 26 31 32,a2f 34 25 33 0,an 35 25 34]
def yz.r8 : List AStep := [ac 6 13]
def yz.r9 : List AStep := [ap 36 12 1,ab 12 36]
def yz.l0 : ACode := .seq (.post [0, 1, 2, 10, 11, 12, 13] (.region yz.r2)) (.seq (.post [0, 1, 2, 10, 11, 12] (.cond (.t 13) (.skip) (.exit 0))) (.seq (.post [0, 1, 2, 10, 11, 12] (.block 1 (.seq (.post [0, 1, 2, 7, 8, 10, 11, 12] (.region yz.r3)) (.seq (.seq (.post [0, 1, 2, 7, 8, 9, 10, 11, 12] (.region yz.r4)) (.seq (.post [0, 1, 2, 7, 8, 9, 10, 11, 12, 21] (.region yz.r5)) (.post [0, 1, 2, 7, 8, 10, 11, 12] (.cond (.t 21) (.seq (.post [6] (.region yz.r6)) (.ret)) (.skip))))) (.seq (.post [0, 1, 2, 10, 11, 12, 35] (.draw [0, 1, 3, 7, 7, 7, 39, 119, 247, 7, 1023, 2047, 4095] yz.r7)) (.post [0, 1, 2, 10, 11, 12] (.cond (.t 35) (.seq (.post [6] (.region yz.r8)) (.ret)) (.skip)))))))) (.post [0, 1, 2, 10, 11, 12] (.region yz.r9))))
def yz.r10 : List AStep := [ac 6 0]
def yz : AFunc := ⟨37, [.t 6], .seq (.post [0, 1, 2] (.region yz.r0)) (.seq (.seq (.post [0, 1, 2, 10, 11, 12] (.region yz.r1)) (.post [] (.block 0 (.loop yz.l0)))) (.seq (.post [6] (.region yz.r10)) (.ret)))⟩
theorem yz.ok : y23 Tryz.prog Tryz.f63 yz = true := by kernel_rfl
theorem yz.at : Tryz.prog.funcs[y6g]? = some Tryz.f63 := Tryz.func63
def y33.r0 : List AStep := [ah 2]
def y33.r1 : List AStep := [ab 6 0,⟨some 7, none, .call y6h [.t 6]⟩,ab 5 7,al 8 0 5,al 9 1 5,a1i 3 0 0 0 0,aq 6 3 8,ab 4 9]
def y33.r2 : List AStep := [ab 10 4,a11 11 10 0,ab 12 11,az 13 12 0 3,ay 14 12 1 13,a23 15 12 14 3,aj 16 12 15,aw 17 16 5 3,ax 18 16 1 17,a2g 19 16 18 0,a1k 20 12 16 19,an 21 12 20,ab 2 21]
def y33 : AFunc := ⟨22, [.t 2], .seq (.post [0] (.region y33.r0)) (.seq (.post [3, 4] (.region y33.r1)) (.seq (.post [2] (.region y33.r2)) (.ret)))⟩
theorem y33.ok : y23 Tryz.prog Tryz.f39 y33 = true := by kernel_rfl
theorem y33.at : Tryz.prog.funcs[y5h]? = some Tryz.f39 := Tryz.func39
def y2u.r0 : List AStep := [ah 2]
def y2u.r1 : List AStep := [ab 6 0,⟨some 7, none, .call y6h [.t 6]⟩,ab 5 7,al 8 0 5,al 9 1 5,a1i 3 0 0 0 0,aq 6 3 8,ab 4 9]
def y2u.r2 : List AStep := [ab 10 4,a11 11 10 0,ab 12 11,az 13 12 0 3,ay 14 12 1 13,a1q 15 12 14 4,aj 16 12 15,aw 17 16 5 3,ax 18 16 1 17,a2g 19 16 18 0,a1k 20 12 16 19,an 21 12 20,ab 2 21]
def y2u : AFunc := ⟨22, [.t 2], .seq (.post [0] (.region y2u.r0)) (.seq (.post [3, 4] (.region y2u.r1)) (.seq (.post [2] (.region y2u.r2)) (.ret)))⟩
theorem y2u.ok : y23 Tryz.prog Tryz.f102 y2u = true := by kernel_rfl
theorem y2u.at : Tryz.prog.funcs[y99]? = some Tryz.f102 := Tryz.func102
def y1q.r0 : List AStep := [a17 4,a17 5,ah 6]
def y1q.r1 : List AStep := [ab 8 0,ab 9 1,⟨some 10, none, .call y67 [.t 8, .t 9]⟩,ab 7 10]
def y1q.r2 : List AStep := [ab 11 7,a1e 12 11 0]
def y1q.r3 : List AStep := [ab 13 0,ab 14 7,a29 15 13 14,ab 16 0,ab 17 7,ab 18 1,a1b 19 18,a1d 20 17 19,a2q 21 16 20,ab 4 15,ab 5 21,a1a 6]
def y1q.r4 : List AStep := [ab 22 0,ab 4 22,a17 5,ah 6]
def y1q : AFunc := ⟨23, [.t 4, .t 5, .t 6], .seq (.post [0, 1] (.region y1q.r0)) (.seq (.seq (.post [0, 1, 7] (.region y1q.r1)) (.seq (.post [0, 1, 7, 12] (.region y1q.r2)) (.post [0] (.cond (.t 12) (.seq (.post [4, 5, 6] (.draw [0, 0, 3, 0, 0, 0, 32, 112, 248, 7, 1023, 2047] y1q.r3)) (.ret)) (.skip))))) (.seq (.post [4, 5, 6] (.region y1q.r4)) (.ret)))⟩
theorem y1q.ok : y23 Tryz.prog Tryz.f159 y1q = true := by kernel_rfl
theorem y1q.at : Tryz.prog.funcs[y5b]? = some Tryz.f159 := Tryz.func159
def y42.r0 : List AStep := [a17 4,a17 5,ah 6]
def y42.r1 : List AStep := [ab 7 0,ab 8 1,⟨some 9, none, .call y5b [.t 7, .t 8]⟩,al 10 0 9,al 11 1 9,al 12 2 9,ab 4 10,ab 5 11,ab 6 12]
def y42 : AFunc := ⟨13, [.t 4, .t 5, .t 6], .seq (.post [0, 1] (.region y42.r0)) (.seq (.post [4, 5, 6] (.region y42.r1)) (.ret))⟩
theorem y42.ok : y23 Tryz.prog Tryz.f135 y42 = true := by kernel_rfl
theorem y42.at : Tryz.prog.funcs[y9r]? = some Tryz.f135 := Tryz.func135
def y18.r0 : List AStep := [a14 1 0,ah 2]
def y18.r1 : List AStep := [af 10 4 1,ae 11 1 10,⟨some 12, none, .call y9r [.t 11, .c (.s [62])]⟩,ab 9 12,al 13 0 9,al 14 1 9,al 15 2 9,ab 3 13,ab 4 14,ab 5 15]
def y18.r2 : List AStep := [ab 16 5,a18 17 16,ab 18 17,aw 19 18 3 1,ax 20 18 1 19,a25 21 18 20 0,av 22 18 21,ab 23 22,a10 24 23 3,⟨some 25, (some (23, false)), .call y4y [.t 24, .c (.i .i64 6)]⟩,a1s 26 23 25,av 27 23 26,ab 28 27,a10 29 28 4,a3a 30 28 29,a10 31 28 30,aj 32 31 4,a2h 33 31 32 105,a1f 34 28 31 33,a10 35 28 34,aj 36 35 4,a2h 37 35 36 112,a1f 38 28 35 37,av 39 28 38,ab 40 39,aw 41 40 5 1,ax 42 40 1 41,a1p 43 40 42,a10 44 40 3,a1u 45 40 44,⟨some 46, (some (40, false)), .op (.bin .add (.t 45) (.c (.i .i64 1)))⟩,a26 47 40 43 46,av 48 40 47]
def y18.r3 : List AStep := [ah 2]
def y18.r4 : List AStep := [af 49 5 1,ae 50 1 49,ai 51 50,ac 52 0]
def y18.r5 : List AStep := [am 53 52 51]
def y18.r6 : List AStep := [ab 54 52,ak 55 1 50 52,ae 56 1 55,ab 6 54,ab 7 56]
def y18.r7 : List AStep := [ab 57 4,a2z 58 57 112,ab 8 58]
def y18.r8 : List AStep := [ab 59 6,a19 60 59 0]
def y18.r9 : List AStep := [ab 61 3,ab 62 6,a32 63 62 1,a1z 64 61 63,a28 65 64 112,ab 8 65]
def y18.r10 : List AStep := [ab 66 7,a1v 67 66,ab 68 67,aj 69 68 8,a1r 70 68 69,aj 71 68 70,a10 72 71 7,⟨some 73, (some (71, false)), .call y5h [.t 72]⟩,a1s 74 71 73,a1k 75 68 71 74,an 76 68 75]
def y18.r11 : List AStep := [ah 2]
def y18.r12 : List AStep := [ap 77 52 1,ab 52 77]
def y18.l0 : ACode := .seq (.post [3, 4, 50, 51, 52, 53] (.region y18.r5)) (.seq (.post [3, 4, 50, 51, 52] (.cond (.t 53) (.skip) (.exit 0))) (.seq (.post [3, 4, 50, 51, 52] (.block 1 (.seq (.post [3, 4, 6, 7, 50, 51, 52] (.region y18.r6)) (.seq (.post [3, 4, 6, 7, 8, 50, 51, 52] (.region y18.r7)) (.seq (.seq (.post [3, 4, 6, 7, 8, 50, 51, 52, 60] (.region y18.r8)) (.post [3, 4, 7, 8, 50, 51, 52] (.cond (.t 60) (.post [3, 4, 7, 8, 50, 51, 52] (.region y18.r9)) (.skip)))) (.seq (.post [3, 4, 50, 51, 52, 76] (.region y18.r10)) (.post [3, 4, 50, 51, 52] (.cond (.t 76) (.seq (.post [2] (.region y18.r11)) (.ret)) (.skip))))))))) (.post [3, 4, 50, 51, 52] (.region y18.r12))))
def y18.r13 : List AStep := [a1a 2]
def y18 : AFunc := ⟨78, [.t 2], .seq (.post [1] (.region y18.r0)) (.seq (.post [1, 3, 4, 5] (.region y18.r1)) (.seq (.seq (.post [1, 3, 4, 48] (.region y18.r2)) (.post [1, 3, 4] (.cond (.t 48) (.seq (.post [2] (.region y18.r3)) (.ret)) (.skip)))) (.seq (.seq (.post [3, 4, 50, 51, 52] (.region y18.r4)) (.post [] (.block 0 (.loop y18.l0)))) (.seq (.post [2] (.region y18.r13)) (.ret)))))⟩
theorem y18.ok : y23 Tryz.prog Tryz.f103 y18 = true := by kernel_rfl
theorem y18.at : Tryz.prog.funcs[y7e]? = some Tryz.f103 := Tryz.func103
def ym.r0 : List AStep := [a14 1 0,ac 2 0]
def ym.r1 : List AStep := [ah 3]
def ym.r2 : List AStep := [af 6 0 1,ae 7 1 6]
def ym.r3 : List AStep := [a11 9 7 1,ab 8 9]
def ym.r4 : List AStep := [af 10 1 1,ae 11 1 10,⟨some 12, none, .call y5h [.t 11]⟩,ab 13 12,az 14 13 2 1,ay 15 13 1 14,⟨some 16, (some (13, true)), .call y99 [.t 15]⟩,an 17 13 16,ab 3 17]
def ym.r5 : List AStep := [a11 19 7 2,ab 18 19]
def ym.r6 : List AStep := [a11 20 7 3,ab 18 20]
def ym.r7 : List AStep := [a11 21 7 4,ab 18 21]
def ym.r8 : List AStep := [a11 22 7 5,ab 18 22]
def ym.r9 : List AStep := [af 23 1 1,ae 24 1 23,⟨some 25, none, .call y5h [.t 24]⟩,ab 26 25,az 27 26 2 1,ay 28 26 1 27,⟨some 29, (some (26, true)), .call y5h [.t 28]⟩,an 30 26 29,ab 3 30]
def ym.r10 : List AStep := [a11 32 7 6,ab 31 32]
def ym.r11 : List AStep := [af 34 1 1,ae 35 1 34,⟨some 36, none, .call y6h [.t 35]⟩,ab 33 36,al 37 0 33,al 38 1 33,a1i 4 0 0 0 0,aq 6 4 37,ab 5 38]
def ym.r12 : List AStep := [ab 39 5,a11 40 39 0,ab 41 40,az 42 41 0 4,ay 43 41 1 42,a1q 44 41 43 3,an 45 41 44,ab 46 45,az 47 46 2 1,ay 48 46 1 47,⟨some 49, (some (46, true)), .call y5h [.t 48]⟩,an 50 46 49,ab 3 50]
def ym.r13 : List AStep := [ac 2 5]
def ym.r14 : List AStep := [ab 51 3,a18 52 51]
def ym.r15 : List AStep := [ac 2 11]
def ym.r16 : List AStep := [af 53 0 1,ae 54 1 53]
def ym.r17 : List AStep := [a11 70 54 6,ab 69 70]
def ym.r18 : List AStep := [ar 71 6 1,⟨some 72, none, .call y7e [.t 71]⟩,ab 3 72]
def ym.r19 : List AStep := [a11 74 54 5,ab 73 74]
def ym.r20 : List AStep := [af 75 5 1,ae 76 1 75,ai 77 76,a11 78 77 0,ab 79 78,az 80 79 3 1,ay 81 79 1 80,a2f 82 79 81 0,an 83 79 82,ab 84 83,az 85 84 3 1,ay 86 84 1 85,a23 87 84 86 64,an 88 84 87,ab 89 88,az 90 89 4 1,ay 91 89 1 90,⟨some 92, (some (89, true)), .call y6m [.t 91]⟩,an 93 89 92,ab 3 93]
def ym.r21 : List AStep := [af 55 5 1,ae 56 1 55,ai 57 56,a11 58 57 0,ab 59 58,az 60 59 3 1,ay 61 59 1 60,a1q 62 59 61 0,an 63 59 62,ab 64 63,az 65 64 4 1,ay 66 64 1 65,a35 67 64 66,an 68 64 67,ab 3 68]
def ym.r22 : List AStep := [ab 94 3,a18 95 94]
def ym.r23 : List AStep := [ac 2 3]
def ym.r24 : List AStep := [ac 2 0]
def ym : AFunc := ⟨96, [.t 2], .seq (.post [1] (.region ym.r0)) (.seq (.post [1] (.region ym.r1)) (.seq (.seq (.post [1, 7] (.region ym.r2)) (.post [1, 3] (.block 0 (.seq (.post [1, 7, 8] (.region ym.r3)) (.post [1, 3] (.cond (.t 8) (.post [1, 3] (.region ym.r4)) (.seq (.seq (.post [1, 7, 18] (.region ym.r5)) (.post [1, 7, 18] (.cond (.t 18) (.skip) (.seq (.post [1, 7, 18] (.region ym.r6)) (.post [1, 7, 18] (.cond (.t 18) (.skip) (.seq (.post [1, 7, 18] (.region ym.r7)) (.post [1, 7, 18] (.cond (.t 18) (.skip) (.post [1, 7, 18] (.region ym.r8))))))))))) (.post [1, 3] (.cond (.t 18) (.post [1, 3] (.region ym.r9)) (.seq (.post [1, 31] (.region ym.r10)) (.post [1, 3] (.cond (.t 31) (.seq (.post [1, 4, 5] (.region ym.r11)) (.post [1, 3] (.region ym.r12))) (.seq (.post [2] (.region ym.r13)) (.ret)))))))))))))) (.seq (.seq (.post [1, 52] (.region ym.r14)) (.post [1] (.cond (.t 52) (.seq (.post [2] (.region ym.r15)) (.ret)) (.skip)))) (.seq (.seq (.post [1, 54] (.region ym.r16)) (.post [3] (.block 1 (.seq (.post [1, 54, 69] (.region ym.r17)) (.post [3] (.cond (.t 69) (.post [3] (.region ym.r18)) (.seq (.post [1, 73] (.region ym.r19)) (.post [3] (.cond (.t 73) (.post [3] (.region ym.r20)) (.post [3] (.region ym.r21))))))))))) (.seq (.seq (.post [95] (.region ym.r22)) (.post [] (.cond (.t 95) (.seq (.post [2] (.region ym.r23)) (.ret)) (.skip)))) (.seq (.post [2] (.region ym.r24)) (.ret)))))))⟩
theorem ym.ok : y23 Tryz.prog Tryz.f64 ym = true := by kernel_rfl
theorem ym.at : Tryz.prog.funcs[y83]? = some Tryz.f64 := Tryz.func64
def y3q.r0 : List AStep := [ah 2]
def y3q.r1 : List AStep := [ab 3 0,ab 4 0,a1m 5 3 4,ab 2 5]
def y3q : AFunc := ⟨6, [.t 2], .seq (.post [0] (.region y3q.r0)) (.seq (.post [2] (.region y3q.r1)) (.ret))⟩
theorem y3q.ok : y23 Tryz.prog Tryz.f136 y3q = true := by kernel_rfl
theorem y3q.at : Tryz.prog.funcs[y7i]? = some Tryz.f136 := Tryz.func136
def y1c.r0 : List AStep := [ac 4 0]
def y1c.r1 : List AStep := [ab 7 0,⟨some 8, none, .call y7i [.t 7]⟩,ab 5 8]
def y1c.r2 : List AStep := [ab 9 1,⟨some 10, none, .call y7i [.t 9]⟩,ab 6 10]
def y1c.r3 : List AStep := [ab 11 5]
def y1c.r4 : List AStep := [ab 12 6]
def y1c.r5 : List AStep := [ac 4 0]
def y1c.r6 : List AStep := [ac 4 (-1)]
def y1c.r7 : List AStep := [ab 13 6]
def y1c.r8 : List AStep := [ac 4 1]
def y1c.r9 : List AStep := [ab 14 0,ab 15 1,am 16 14 15]
def y1c.r10 : List AStep := [ac 4 (-1)]
def y1c.r11 : List AStep := [ab 17 0,ab 18 1,a2n 19 17 18]
def y1c.r12 : List AStep := [ac 4 1]
def y1c.r13 : List AStep := [ac 4 0]
def y1c : AFunc := ⟨20, [.t 4], .seq (.post [0, 1] (.region y1c.r0)) (.seq (.post [0, 1, 5] (.region y1c.r1)) (.seq (.post [0, 1, 5, 6] (.region y1c.r2)) (.seq (.seq (.post [0, 1, 6, 11] (.region y1c.r3)) (.post [0, 1, 6] (.cond (.t 11) (.seq (.seq (.post [12] (.region y1c.r4)) (.post [] (.cond (.t 12) (.seq (.post [4] (.region y1c.r5)) (.ret)) (.skip)))) (.seq (.post [4] (.region y1c.r6)) (.ret))) (.skip)))) (.seq (.seq (.post [0, 1, 13] (.region y1c.r7)) (.post [0, 1] (.cond (.t 13) (.seq (.post [4] (.region y1c.r8)) (.ret)) (.skip)))) (.seq (.seq (.post [0, 1, 16] (.region y1c.r9)) (.post [0, 1] (.cond (.t 16) (.seq (.post [4] (.region y1c.r10)) (.ret)) (.skip)))) (.seq (.seq (.post [19] (.region y1c.r11)) (.post [] (.cond (.t 19) (.seq (.post [4] (.region y1c.r12)) (.ret)) (.skip)))) (.seq (.post [4] (.region y1c.r13)) (.ret))))))))⟩
theorem y1c.ok : y23 Tryz.prog Tryz.f105 y1c = true := by kernel_rfl
theorem y1c.at : Tryz.prog.funcs[y6q]? = some Tryz.f105 := Tryz.func105
def yc.r0 : List AStep := [ac 4 0]
def yc.r1 : List AStep := [ab 9 0,ai 10 9,ac 11 0]
def yc.r2 : List AStep := [am 12 11 10]
def yc.r3 : List AStep := [ab 13 11,ak 14 1 9 11,ae 15 1 14,ab 5 13,ab 6 15]
def yc.r4 : List AStep := [ab 16 5,ab 17 1,ai 18 17,a39 19 16 18]
def yc.r5 : List AStep := [ac 4 1]
def yc.r6 : List AStep := [ab 20 1,ab 21 5,ak 22 1 20 21,ae 23 1 22,ab 7 23]
def yc.r7 : List AStep := [ab 24 6,ab 25 7,⟨some 26, none, .call y3p [.t 24, .t 25]⟩,ab 8 26]
def yc.r8 : List AStep := [ab 27 8,a1c 28 27 0]
def yc.r9 : List AStep := [ab 29 8,ab 4 29]
def yc.r10 : List AStep := [ap 30 11 1,ab 11 30]
def yc.l0 : ACode := .seq (.post [0, 1, 9, 10, 11, 12] (.region yc.r2)) (.seq (.post [0, 1, 9, 10, 11] (.cond (.t 12) (.skip) (.exit 0))) (.seq (.post [0, 1, 9, 10, 11] (.block 1 (.seq (.post [0, 1, 5, 6, 9, 10, 11] (.region yc.r3)) (.seq (.seq (.post [0, 1, 5, 6, 9, 10, 11, 19] (.region yc.r4)) (.post [0, 1, 5, 6, 9, 10, 11] (.cond (.t 19) (.seq (.post [4] (.region yc.r5)) (.ret)) (.skip)))) (.seq (.post [0, 1, 6, 7, 9, 10, 11] (.region yc.r6)) (.seq (.post [0, 1, 8, 9, 10, 11] (.region yc.r7)) (.seq (.post [0, 1, 8, 9, 10, 11, 28] (.region yc.r8)) (.post [0, 1, 9, 10, 11] (.cond (.t 28) (.seq (.post [4] (.region yc.r9)) (.ret)) (.skip)))))))))) (.post [0, 1, 9, 10, 11] (.region yc.r10))))
def yc.r11 : List AStep := [ab 31 0,ai 32 31,ab 33 1,ai 34 33,am 35 32 34]
def yc.r12 : List AStep := [ac 4 (-1)]
def yc.r13 : List AStep := [ac 4 0]
def yc : AFunc := ⟨36, [.t 4], .seq (.post [0, 1] (.region yc.r0)) (.seq (.seq (.post [0, 1, 9, 10, 11] (.region yc.r1)) (.post [0, 1] (.block 0 (.loop yc.l0)))) (.seq (.seq (.post [35] (.region yc.r11)) (.post [] (.cond (.t 35) (.seq (.post [4] (.region yc.r12)) (.ret)) (.skip)))) (.seq (.post [4] (.region yc.r13)) (.ret))))⟩
theorem yc.ok : y23 Tryz.prog Tryz.f106 yc = true := by kernel_rfl
theorem yc.at : Tryz.prog.funcs[y4m]? = some Tryz.f106 := Tryz.func106
def y26.r0 : List AStep := [ac 2 0]
def y26.r1 : List AStep := [ac 3 0]
def y26.r2 : List AStep := [ab 6 0,ai 7 6,ac 8 0]
def y26.r3 : List AStep := [am 9 8 7]
def y26.r4 : List AStep := [ak 10 1 6 8,ae 11 1 10,ab 5 11]
def y26.r5 : List AStep := [ab 12 5,ab 13 3,a1m 14 12 13]
def y26.r6 : List AStep := [ab 15 5,ab 2 15]
def y26.r7 : List AStep := [ap 16 8 1,ab 8 16]
def y26.l0 : ACode := .seq (.post [3, 6, 7, 8, 9] (.region y26.r3)) (.seq (.post [3, 6, 7, 8] (.cond (.t 9) (.skip) (.exit 0))) (.seq (.post [3, 6, 7, 8] (.block 1 (.seq (.post [3, 5, 6, 7, 8] (.region y26.r4)) (.seq (.post [3, 5, 6, 7, 8, 14] (.region y26.r5)) (.post [3, 6, 7, 8] (.cond (.t 14) (.seq (.post [2] (.region y26.r6)) (.ret)) (.skip))))))) (.post [3, 6, 7, 8] (.region y26.r7))))
def y26.r8 : List AStep := [ab 17 3,ab 2 17]
def y26 : AFunc := ⟨18, [.t 2], .seq (.post [0] (.region y26.r0)) (.seq (.post [0, 3] (.region y26.r1)) (.seq (.seq (.post [3, 6, 7, 8] (.region y26.r2)) (.post [3] (.block 0 (.loop y26.l0)))) (.seq (.post [2] (.region y26.r8)) (.ret))))⟩
theorem y26.ok : y23 Tryz.prog Tryz.f104 y26 = true := by kernel_rfl
theorem y26.at : Tryz.prog.funcs[yaa]? = some Tryz.f104 := Tryz.func104
def y3j.r0 : List AStep := [a14 2 0,a14 3 1,ac 4 0]
def y3j.r1 : List AStep := [af 5 0 2,ae 6 1 5,af 7 0 3,ae 8 1 7,⟨some 9, none, .call y6q [.t 6, .t 8]⟩,af 10 1 2,ae 11 1 10,af 12 1 3,ae 13 1 12,⟨some 14, none, .call y3p [.t 11, .t 13]⟩,af 15 2 2,ae 16 1 15,af 17 2 3,ae 18 1 17,⟨some 19, none, .call y3p [.t 16, .t 18]⟩,af 20 3 2,ae 21 1 20,af 22 3 3,ae 23 1 22,⟨some 24, none, .call y6q [.t 21, .t 23]⟩,af 25 4 2,ae 26 1 25,af 27 4 3,ae 28 1 27,⟨some 29, none, .call y3p [.t 26, .t 28]⟩,af 30 5 2,ae 31 1 30,af 32 5 3,ae 33 1 32,⟨some 34, none, .call y4m [.t 31, .t 33]⟩,⟨some 35, none, .op (.bfz 6 1 [.i .i64 0] [(0, 1, .t 9), (1, 1, .t 14), (2, 1, .t 19), (3, 1, .t 24), (4, 1, .t 29), (5, 1, .t 34)])⟩,⟨some 36, none, .call yaa [.t 35]⟩,ab 4 36]
def y3j : AFunc := ⟨37, [.t 4], .seq (.post [2, 3] (.region y3j.r0)) (.seq (.post [4] (.draw [0, 1, 0, 4, 15, 0, 32, 0, 128, 511, 0, 1024, 0, 4096, 16383, 0, 32768, 0, 131072, 524287, 0, 1048576, 0, 4194304, 16777215, 0, 33554432, 0, 134217728, 536870911, 1073741823, 2147483647, 4294967295] y3j.r1)) (.ret))⟩
theorem y3j.ok : y23 Tryz.prog Tryz.f65 y3j = true := by kernel_rfl
theorem y3j.at : Tryz.prog.funcs[y62]? = some Tryz.f65 := Tryz.func65
def y1v.r0 : List AStep := [a14 1 0,ac 2 0]
def y1v.r1 : List AStep := [af 5 0 1,ae 6 1 5,ai 7 6,a19 8 7 600,ab 9 8,aw 10 9 1 1,ax 11 9 1 10,a1p 12 9 11,a1g 13 9 12 600,av 14 9 13,ab 15 14,aw 16 15 2 1,ax 17 15 1 16,a1p 18 15 17,a1g 19 15 18 6000,av 20 15 19]
def y1v.r2 : List AStep := [ac 2 4]
def y1v.r3 : List AStep := [af 21 0 1,ae 22 1 21,⟨some 23, none, .call y6f [.t 22, .c (.fn 58 []), .c (.fn 59 [])]⟩,ab 3 23]
def y1v.r4 : List AStep := [ab 24 3,a1c 25 24 0]
def y1v.r5 : List AStep := [ab 26 3,ab 2 26]
def y1v.r6 : List AStep := [af 27 1 1,ae 28 1 27,⟨some 29, none, .call y6u [.t 28, .c (.fn 61 []), .c (.fn 62 [])]⟩,ab 4 29]
def y1v.r7 : List AStep := [ab 30 4,a1c 31 30 0]
def y1v.r8 : List AStep := [ab 32 4,ab 2 32]
def y1v.r9 : List AStep := [af 33 2 1,ae 34 1 33,⟨some 35, none, .call y6g [.t 34, .c (.fn 64 []), .c (.fn 65 [])]⟩,ab 2 35]
def y1v : AFunc := ⟨36, [.t 2], .seq (.post [1] (.region y1v.r0)) (.seq (.seq (.post [1, 20] (.region y1v.r1)) (.post [1] (.cond (.t 20) (.seq (.post [2] (.region y1v.r2)) (.ret)) (.skip)))) (.seq (.seq (.post [1, 3] (.region y1v.r3)) (.seq (.post [1, 3, 25] (.region y1v.r4)) (.post [1] (.cond (.t 25) (.seq (.post [2] (.region y1v.r5)) (.ret)) (.skip))))) (.seq (.seq (.post [1, 4] (.region y1v.r6)) (.seq (.post [1, 4, 31] (.region y1v.r7)) (.post [1] (.cond (.t 31) (.seq (.post [2] (.region y1v.r8)) (.ret)) (.skip))))) (.seq (.post [2] (.region y1v.r9)) (.ret)))))⟩
theorem y1v.ok : y23 Tryz.prog Tryz.f27 y1v = true := by kernel_rfl
theorem y1v.at : Tryz.prog.funcs[y9a]? = some Tryz.f27 := Tryz.func27
def y2s.r0 : List AStep := [a14 2 0,ah 3]
def y2s.r1 : List AStep := [af 4 0 2,ae 5 1 4,ae 6 1 1,a1x 7 5 6,ab 3 7]
def y2s : AFunc := ⟨8, [.t 3], .seq (.post [1, 2] (.region y2s.r0)) (.seq (.post [3] (.region y2s.r1)) (.ret))⟩
theorem y2s.ok : y23 Tryz.prog Tryz.f30 y2s = true := by kernel_rfl
theorem y2s.at : Tryz.prog.funcs[y5y]? = some Tryz.f30 := Tryz.func30
def y1e.r0 : List AStep := [ac 4 0]
def y1e.r1 : List AStep := [ab 6 0,ai 7 6,ac 8 0]
def y1e.r2 : List AStep := [am 9 8 7]
def y1e.r3 : List AStep := [ab 10 8,ab 5 10]
def y1e.r4 : List AStep := [ab 11 1,ab 12 0,ab 13 5,ak 14 3 12 13,ar 15 3 14,a1w 16 11 15]
def y1e.r5 : List AStep := [ab 17 5,ab 4 17]
def y1e.r6 : List AStep := [ap 18 8 1,ab 8 18]
def y1e.l0 : ACode := .seq (.post [0, 1, 7, 8, 9] (.region y1e.r2)) (.seq (.post [0, 1, 7, 8] (.cond (.t 9) (.skip) (.exit 0))) (.seq (.post [0, 1, 7, 8] (.block 1 (.seq (.post [0, 1, 5, 7, 8] (.region y1e.r3)) (.seq (.post [0, 1, 5, 7, 8, 16] (.region y1e.r4)) (.post [0, 1, 7, 8] (.cond (.t 16) (.seq (.post [4] (.region y1e.r5)) (.ret)) (.skip))))))) (.post [0, 1, 7, 8] (.region y1e.r6))))
def y1e.r7 : List AStep := [ac 4 (-1)]
def y1e : AFunc := ⟨19, [.t 4], .seq (.post [0, 1] (.region y1e.r0)) (.seq (.seq (.post [0, 1, 7, 8] (.region y1e.r1)) (.post [] (.block 0 (.loop y1e.l0)))) (.seq (.post [4] (.region y1e.r7)) (.ret)))⟩
theorem y1e.at : Tryz.prog.funcs[y4c]? = some Tryz.f66 := Tryz.func66
def y2k.r0 : List AStep := [ah 4]
def y2k.r1 : List AStep := [ab 5 0,ab 6 1,⟨some 7, none, .call y4c [.t 5, .t 6]⟩,a1e 8 7 0,ab 4 8]
def y2k : AFunc := ⟨9, [.t 4], .seq (.post [0, 1] (.region y2k.r0)) (.seq (.post [4] (.region y2k.r1)) (.ret))⟩
theorem y2k.at : Tryz.prog.funcs[y45]? = some Tryz.f29 := Tryz.func29
def y2r.r0 : List AStep := [a14 2 0,ah 3]
def y2r.r1 : List AStep := [af 4 0 2,ae 5 1 4,ae 6 1 1,a1x 7 5 6,ab 3 7]
def y2r : AFunc := ⟨8, [.t 3], .seq (.post [1, 2] (.region y2r.r0)) (.seq (.post [3] (.region y2r.r1)) (.ret))⟩
theorem y2r.ok : y23 Tryz.prog Tryz.f32 y2r = true := by kernel_rfl
theorem y2r.at : Tryz.prog.funcs[y5x]? = some Tryz.f32 := Tryz.func32
def y1k.r0 : List AStep := [ac 4 0]
def y1k.r1 : List AStep := [ab 6 0,ai 7 6,ac 8 0]
def y1k.r2 : List AStep := [am 9 8 7]
def y1k.r3 : List AStep := [ab 10 8,ab 5 10]
def y1k.r4 : List AStep := [ab 11 1,ab 12 0,ab 13 5,ak 14 3 12 13,ar 15 3 14,a1w 16 11 15]
def y1k.r5 : List AStep := [ab 17 5,ab 4 17]
def y1k.r6 : List AStep := [ap 18 8 1,ab 8 18]
def y1k.l0 : ACode := .seq (.post [0, 1, 7, 8, 9] (.region y1k.r2)) (.seq (.post [0, 1, 7, 8] (.cond (.t 9) (.skip) (.exit 0))) (.seq (.post [0, 1, 7, 8] (.block 1 (.seq (.post [0, 1, 5, 7, 8] (.region y1k.r3)) (.seq (.post [0, 1, 5, 7, 8, 16] (.region y1k.r4)) (.post [0, 1, 7, 8] (.cond (.t 16) (.seq (.post [4] (.region y1k.r5)) (.ret)) (.skip))))))) (.post [0, 1, 7, 8] (.region y1k.r6))))
def y1k.r7 : List AStep := [ac 4 (-1)]
def y1k : AFunc := ⟨19, [.t 4], .seq (.post [0, 1] (.region y1k.r0)) (.seq (.seq (.post [0, 1, 7, 8] (.region y1k.r1)) (.post [] (.block 0 (.loop y1k.l0)))) (.seq (.post [4] (.region y1k.r7)) (.ret)))⟩
theorem y1k.at : Tryz.prog.funcs[y4i]? = some Tryz.f67 := Tryz.func67
def y2l.r0 : List AStep := [ah 4]
def y2l.r1 : List AStep := [ab 5 0,ab 6 1,⟨some 7, none, .call y4i [.t 5, .t 6]⟩,a1e 8 7 0,ab 4 8]
def y2l : AFunc := ⟨9, [.t 4], .seq (.post [0, 1] (.region y2l.r0)) (.seq (.post [4] (.region y2l.r1)) (.ret))⟩
theorem y2l.at : Tryz.prog.funcs[y4b]? = some Tryz.f31 := Tryz.func31
def y39.r0 : List AStep := [a2i 2 0,ah 3]
def y39.r1 : List AStep := [af 4 4 1,af 5 0 4,ae 6 1 5,⟨some 7, none, .op (.mkfn y5y [.t 2])⟩,⟨some 8, none, .call y45 [.t 6, .t 7]⟩,ab 9 8,aw 10 9 4 1,aw 11 9 1 10,ax 12 9 1 11,⟨some 13, (some (9, false)), .op (.mkfn y5x [.t 2])⟩,⟨some 14, (some (9, false)), .call y4b [.t 12, .t 13]⟩,av 15 9 14,ab 3 15]
def y39 : AFunc := ⟨16, [.t 3], .seq (.post [1, 2] (.region y39.r0)) (.seq (.post [3] (.region y39.r1)) (.ret))⟩
theorem y39.ok : y23 Tryz.prog Tryz.f28 y39 = true := by kernel_rfl
theorem y39.at : Tryz.prog.funcs[y3w]? = some Tryz.f28 := Tryz.func28
def y1y.r0 : List AStep := [ah 2]
def y1y.r1 : List AStep := [ac 3 1]
def y1y.r2 : List AStep := [ab 4 3,ab 5 0,ai 6 5,am 7 4 6]
def y1y.r3 : List AStep := [ab 10 0,ab 11 3,ak 12 1 10 11,ae 13 1 12,ab 14 0,ab 15 3,a32 16 15 1,ak 17 1 14 16,ae 18 1 17,⟨some 19, none, .op (.bin .leq (.t 13) (.t 18))⟩]
def y1y.r4 : List AStep := [ah 2]
def y1y.r5 : List AStep := [ab 8 3,ap 9 8 1,ab 3 9]
def y1y.l0 : ACode := .seq (.seq (.post [0, 3, 7] (.region y1y.r2)) (.post [0, 3] (.cond (.t 7) (.skip) (.exit 0)))) (.seq (.post [0, 3] (.block 1 (.seq (.post [0, 3, 19] (.draw [0, 0, 3, 7, 0, 0, 32, 112, 240, 511] y1y.r3)) (.post [0, 3] (.cond (.t 19) (.seq (.post [2] (.region y1y.r4)) (.ret)) (.skip)))))) (.post [0, 3] (.region y1y.r5)))
def y1y.r6 : List AStep := [a1a 2]
def y1y : AFunc := ⟨20, [.t 2], .seq (.post [0] (.region y1y.r0)) (.seq (.seq (.post [0, 3] (.region y1y.r1)) (.post [] (.block 0 (.loop y1y.l0)))) (.seq (.post [2] (.region y1y.r6)) (.ret)))⟩
theorem y1y.ok : y23 Tryz.prog Tryz.f33 y1y = true := by kernel_rfl
theorem y1y.at : Tryz.prog.funcs[y7g]? = some Tryz.f33 := Tryz.func33
def y38.r0 : List AStep := [ah 3]
def y38.r1 : List AStep := [ae 4 1 1,ab 5 0,a1w 6 4 5,a18 7 6,ab 3 7]
def y38 : AFunc := ⟨8, [.t 3], .seq (.post [0, 1] (.region y38.r0)) (.seq (.post [3] (.region y38.r1)) (.ret))⟩
theorem y38.ok : y23 Tryz.prog Tryz.f35 y38 = true := by kernel_rfl
theorem y38.at : Tryz.prog.funcs[y6o]? = some Tryz.f35 := Tryz.func35
def yo.r0 : List AStep := [ac 4 0]
def yo.r1 : List AStep := [ab 6 0,ai 7 6,ac 8 0]
def yo.r2 : List AStep := [am 9 8 7]
def yo.r3 : List AStep := [ab 10 8,ab 5 10]
def yo.r4 : List AStep := [ab 11 1,ab 12 0,ab 13 5,ak 14 1 12 13,ae 15 1 14,a1w 16 11 15]
def yo.r5 : List AStep := [ab 17 5,ab 4 17]
def yo.r6 : List AStep := [ap 18 8 1,ab 8 18]
def yo.l0 : ACode := .seq (.post [0, 1, 7, 8, 9] (.region yo.r2)) (.seq (.post [0, 1, 7, 8] (.cond (.t 9) (.skip) (.exit 0))) (.seq (.post [0, 1, 7, 8] (.block 1 (.seq (.post [0, 1, 5, 7, 8] (.region yo.r3)) (.seq (.post [0, 1, 5, 7, 8, 16] (.region yo.r4)) (.post [0, 1, 7, 8] (.cond (.t 16) (.seq (.post [4] (.region yo.r5)) (.ret)) (.skip))))))) (.post [0, 1, 7, 8] (.region yo.r6))))
def yo.r7 : List AStep := [ac 4 (-1)]
def yo : AFunc := ⟨19, [.t 4], .seq (.post [0, 1] (.region yo.r0)) (.seq (.seq (.post [0, 1, 7, 8] (.region yo.r1)) (.post [] (.block 0 (.loop yo.l0)))) (.seq (.post [4] (.region yo.r7)) (.ret)))⟩
theorem yo.ok : y23 Tryz.prog Tryz.f68 yo = true := by kernel_rfl
theorem yo.at : Tryz.prog.funcs[y4h]? = some Tryz.f68 := Tryz.func68
def y20.r0 : List AStep := [ah 4]
def y20.r1 : List AStep := [ab 5 0,ab 6 1,⟨some 7, none, .call y4h [.t 5, .t 6]⟩,a1e 8 7 0,ab 4 8]
def y20 : AFunc := ⟨9, [.t 4], .seq (.post [0, 1] (.region y20.r0)) (.seq (.post [4] (.region y20.r1)) (.ret))⟩
theorem y20.ok : y23 Tryz.prog Tryz.f34 y20 = true := by kernel_rfl
theorem y20.at : Tryz.prog.funcs[y3d]? = some Tryz.f34 := Tryz.func34
def yv.r0 : List AStep := [ac 4 0]
def yv.r1 : List AStep := [ab 6 0,ai 7 6,ac 8 0]
def yv.r2 : List AStep := [am 9 8 7]
def yv.r3 : List AStep := [ab 10 8,ab 5 10]
def yv.r4 : List AStep := [ab 11 1,ab 12 0,ab 13 5,ak 14 1 12 13,ae 15 1 14,a1x 16 11 15]
def yv.r5 : List AStep := [ab 17 5,ab 4 17]
def yv.r6 : List AStep := [ap 18 8 1,ab 8 18]
def yv.l0 : ACode := .seq (.post [0, 1, 7, 8, 9] (.region yv.r2)) (.seq (.post [0, 1, 7, 8] (.cond (.t 9) (.skip) (.exit 0))) (.seq (.post [0, 1, 7, 8] (.block 1 (.seq (.post [0, 1, 5, 7, 8] (.region yv.r3)) (.seq (.post [0, 1, 5, 7, 8, 16] (.region yv.r4)) (.post [0, 1, 7, 8] (.cond (.t 16) (.seq (.post [4] (.region yv.r5)) (.ret)) (.skip))))))) (.post [0, 1, 7, 8] (.region yv.r6))))
def yv.r7 : List AStep := [ac 4 (-1)]
def yv : AFunc := ⟨19, [.t 4], .seq (.post [0, 1] (.region yv.r0)) (.seq (.seq (.post [0, 1, 7, 8] (.region yv.r1)) (.post [] (.block 0 (.loop yv.l0)))) (.seq (.post [4] (.region yv.r7)) (.ret)))⟩
theorem yv.ok : y23 Tryz.prog Tryz.f69 yv = true := by kernel_rfl
theorem yv.at : Tryz.prog.funcs[y4t]? = some Tryz.f69 := Tryz.func69
def y24.r0 : List AStep := [ah 4]
def y24.r1 : List AStep := [ab 5 0,ab 6 1,⟨some 7, none, .call y4t [.t 5, .t 6]⟩,a1e 8 7 0,ab 4 8]
def y24 : AFunc := ⟨9, [.t 4], .seq (.post [0, 1] (.region y24.r0)) (.seq (.post [4] (.region y24.r1)) (.ret))⟩
theorem y24.ok : y23 Tryz.prog Tryz.f37 y24 = true := by kernel_rfl
theorem y24.at : Tryz.prog.funcs[y3r]? = some Tryz.f37 := Tryz.func37
def y37.r0 : List AStep := [ah 3]
def y37.r1 : List AStep := [af 4 2 1,ae 5 1 4,ab 6 0,⟨some 7, none, .call y3r [.t 5, .t 6]⟩,ab 3 7]
def y37 : AFunc := ⟨8, [.t 3], .seq (.post [0, 1] (.region y37.r0)) (.seq (.post [3] (.region y37.r1)) (.ret))⟩
theorem y37.ok : y23 Tryz.prog Tryz.f36 y37 = true := by kernel_rfl
theorem y37.at : Tryz.prog.funcs[y6n]? = some Tryz.f36 := Tryz.func36
def y36.r0 : List AStep := [ah 2]
def y36.r1 : List AStep := [ab 3 0,⟨some 4, none, .call y5h [.t 3]⟩,a18 5 4,ab 2 5]
def y36 : AFunc := ⟨6, [.t 2], .seq (.post [0] (.region y36.r0)) (.seq (.post [2] (.region y36.r1)) (.ret))⟩
theorem y36.ok : y23 Tryz.prog Tryz.f38 y36 = true := by kernel_rfl
theorem y36.at : Tryz.prog.funcs[y7x]? = some Tryz.f38 := Tryz.func38
def yj.r0 : List AStep := [a2i 1 0,ac 2 0]
def yj.r1 : List AStep := [af 7 0 1,ae 8 1 7,⟨some 9, none, .call y6p [.t 8]⟩,a18 10 9]
def yj.r2 : List AStep := [ac 2 11]
def yj.r3 : List AStep := [af 11 4 1,ar 12 3 11,⟨some 13, none, .call y9a [.t 12]⟩,ab 3 13]
def yj.r4 : List AStep := [ab 14 3,a1c 15 14 0]
def yj.r5 : List AStep := [ab 16 3,ab 2 16]
def yj.r6 : List AStep := [⟨some 17, none, .op (.mkfn y3w [.t 1])⟩,⟨some 4, none, .op (.new [.nf])⟩,aq 1 4 17]
def yj.r7 : List AStep := [af 18 1 1,ae 19 1 18,af 20 2 1,ae 21 1 20,⟨some 22, none, .op (.bfz 2 1 [.sl none 0 0] [(0, 1, .t 19), (1, 1, .t 21)])⟩,ai 23 22,ac 24 0]
def yj.r8 : List AStep := [am 25 24 23]
def yj.r9 : List AStep := [ak 26 1 22 24,ae 27 1 26,ab 6 27]
def yj.r10 : List AStep := [ab 29 6,⟨some 30, none, .call y7g [.t 29]⟩,a18 31 30,ab 28 31]
def yj.r11 : List AStep := [ac 2 13]
def yj.r12 : List AStep := [ab 33 6,⟨some 34, none, .op (.mkfn y6o [.t 4])⟩,⟨some 35, none, .call y3d [.t 33, .t 34]⟩,ab 32 35]
def yj.r13 : List AStep := [ac 2 7]
def yj.r14 : List AStep := [ap 36 24 1,ab 24 36]
def yj.l0 : ACode := .seq (.post [1, 4, 22, 23, 24, 25] (.region yj.r8)) (.seq (.post [1, 4, 22, 23, 24] (.cond (.t 25) (.skip) (.exit 0))) (.seq (.post [1, 4, 22, 23, 24] (.block 1 (.seq (.post [1, 4, 6, 22, 23, 24] (.region yj.r9)) (.post [1, 4, 22, 23, 24] (.block 2 (.seq (.post [1, 4, 6, 22, 23, 24, 28] (.region yj.r10)) (.post [1, 4, 22, 23, 24] (.cond (.t 28) (.seq (.post [2] (.region yj.r11)) (.ret)) (.seq (.post [1, 4, 22, 23, 24, 32] (.region yj.r12)) (.post [1, 4, 22, 23, 24] (.cond (.t 32) (.seq (.post [2] (.region yj.r13)) (.ret)) (.skip)))))))))))) (.post [1, 4, 22, 23, 24] (.region yj.r14))))
def yj.r15 : List AStep := [af 38 1 1,ae 39 1 38,⟨some 40, none, .op (.mkfn y6n [.t 1])⟩,⟨some 41, none, .call y3d [.t 39, .t 40]⟩,ab 37 41]
def yj.r16 : List AStep := [ac 2 8]
def yj.r17 : List AStep := [af 43 3 1,ae 44 1 43,ai 45 44,a19 46 45 6000,ab 42 46]
def yj.r18 : List AStep := [ac 2 4]
def yj.r19 : List AStep := [af 48 3 1,ae 49 1 48,⟨some 50, none, .call y7g [.t 49]⟩,a18 51 50,ab 47 51]
def yj.r20 : List AStep := [ac 2 13]
def yj.r21 : List AStep := [af 53 3 1,ae 54 1 53,⟨some 55, none, .call y3d [.t 54, .c (.fn 38 [])]⟩,ab 52 55]
def yj.r22 : List AStep := [ac 2 11]
def yj.r23 : List AStep := [ac 2 0]
def yj : AFunc := ⟨56, [.t 2], .seq (.post [1] (.region yj.r0)) (.seq (.seq (.post [1, 10] (.region yj.r1)) (.post [1] (.cond (.t 10) (.seq (.post [2] (.region yj.r2)) (.ret)) (.skip)))) (.seq (.seq (.post [1, 3] (.region yj.r3)) (.seq (.post [1, 3, 15] (.region yj.r4)) (.post [1] (.cond (.t 15) (.seq (.post [2] (.region yj.r5)) (.ret)) (.skip))))) (.seq (.post [1, 4] (.region yj.r6)) (.seq (.seq (.post [1, 4, 22, 23, 24] (.region yj.r7)) (.post [1] (.block 0 (.loop yj.l0)))) (.seq (.post [] (.block 3 (.seq (.post [1, 37] (.region yj.r15)) (.post [] (.cond (.t 37) (.seq (.post [2] (.region yj.r16)) (.ret)) (.seq (.post [1, 42] (.region yj.r17)) (.post [] (.cond (.t 42) (.seq (.post [2] (.region yj.r18)) (.ret)) (.seq (.post [1, 47] (.region yj.r19)) (.post [] (.cond (.t 47) (.seq (.post [2] (.region yj.r20)) (.ret)) (.seq (.post [52] (.region yj.r21)) (.post [] (.cond (.t 52) (.seq (.post [2] (.region yj.r22)) (.ret)) (.skip))))))))))))))) (.seq (.post [2] (.region yj.r23)) (.ret)))))))⟩
theorem yj.ok : y23 Tryz.prog Tryz.f12 yj = true := by kernel_rfl
theorem yj.at : Tryz.prog.funcs[y8r]? = some Tryz.f12 := Tryz.func12
def y2q.r0 : List AStep := [a14 2 0,ah 3]
def y2q.r1 : List AStep := [af 4 0 2,ae 5 1 4,af 6 0 1,ae 7 1 6,a1x 8 5 7,ab 3 8]
def y2q : AFunc := ⟨9, [.t 3], .seq (.post [1, 2] (.region y2q.r0)) (.seq (.post [3] (.region y2q.r1)) (.ret))⟩
theorem y2q.ok : y23 Tryz.prog Tryz.f14 y2q = true := by kernel_rfl
theorem y2q.at : Tryz.prog.funcs[y5w]? = some Tryz.f14 := Tryz.func14
def yx.r0 : List AStep := [ac 4 0]
def yx.r1 : List AStep := [ab 6 0,ai 7 6,ac 8 0]
def yx.r2 : List AStep := [am 9 8 7]
def yx.r3 : List AStep := [ab 10 8,ab 5 10]
def yx.r4 : List AStep := [ab 11 1,ab 12 0,ab 13 5,ak 14 7 12 13,ar 15 7 14,a1w 16 11 15]
def yx.r5 : List AStep := [ab 17 5,ab 4 17]
def yx.r6 : List AStep := [ap 18 8 1,ab 8 18]
def yx.l0 : ACode := .seq (.post [0, 1, 7, 8, 9] (.region yx.r2)) (.seq (.post [0, 1, 7, 8] (.cond (.t 9) (.skip) (.exit 0))) (.seq (.post [0, 1, 7, 8] (.block 1 (.seq (.post [0, 1, 5, 7, 8] (.region yx.r3)) (.seq (.post [0, 1, 5, 7, 8, 16] (.region yx.r4)) (.post [0, 1, 7, 8] (.cond (.t 16) (.seq (.post [4] (.region yx.r5)) (.ret)) (.skip))))))) (.post [0, 1, 7, 8] (.region yx.r6))))
def yx.r7 : List AStep := [ac 4 (-1)]
def yx : AFunc := ⟨19, [.t 4], .seq (.post [0, 1] (.region yx.r0)) (.seq (.seq (.post [0, 1, 7, 8] (.region yx.r1)) (.post [] (.block 0 (.loop yx.l0)))) (.seq (.post [4] (.region yx.r7)) (.ret)))⟩
theorem yx.at : Tryz.prog.funcs[y3v]? = some Tryz.f40 := Tryz.func40
def y2d.r0 : List AStep := [ah 4]
def y2d.r1 : List AStep := [ab 5 0,ab 6 1,⟨some 7, none, .call y3v [.t 5, .t 6]⟩,a1e 8 7 0,ab 4 8]
def y2d : AFunc := ⟨9, [.t 4], .seq (.post [0, 1] (.region y2d.r0)) (.seq (.post [4] (.region y2d.r1)) (.ret))⟩
theorem y2d.at : Tryz.prog.funcs[y3s]? = some Tryz.f13 := Tryz.func13
def yq.r0 : List AStep := [⟨some 2, none, .op (.mov (.c (.mp none)))⟩]
def yq.r1 : List AStep := [⟨some 10, none, .op (.mkm)⟩,ab 3 10]
def yq.r2 : List AStep := [ab 11 0,ai 12 11,ac 13 0]
def yq.r3 : List AStep := [am 14 13 12]
def yq.r4 : List AStep := [ab 15 13,ak 16 7 11 13,ar 17 7 16,a3b 5 0 0 0 0 0 0 0 0 0 0 0 0,ab 4 15,aq 7 5 17]
def yq.r5 : List AStep := [af 18 4 5,af 19 0 18,ae 20 1 19,ai 21 20,ac 22 0]
def yq.r6 : List AStep := [am 23 22 21]
def yq.r7 : List AStep := [ak 24 3 20 22,ar 25 3 24,a1o 7 0 0,aq 3 7 25]
def yq.r8 : List AStep := [ab 26 3,af 27 0 7,ae 28 1 27,ab 29 3,af 30 0 7,ae 31 1 30,a3c 32 0 0 29 31,ab 33 4,ar 34 3 7,a3d 35 1 3 0 0 0 3 34,a3e 36 0 1 35,⟨some 37, none, .op (.build [.i .i64 0, .fs [], .fs [], .fs []] [(0, 1, .t 33), (1, 3, .t 36)])⟩,⟨some 38, none, .op (.bfz 1 4 [.i .i64 0, .sl none 0 0, .sl none 0 0, .sl none 0 0] [(0, 4, .t 37)])⟩,a1n 39 4 80 32 38,⟨none, none, .op (.upm (.t 26) (.t 28) (.t 39))⟩]
def yq.r9 : List AStep := [ap 40 22 1,ab 22 40]
def yq.l1 : ACode := .seq (.post [3, 4, 5, 11, 12, 13, 20, 21, 22, 23] (.region yq.r6)) (.seq (.post [3, 4, 5, 11, 12, 13, 20, 21, 22] (.cond (.t 23) (.skip) (.exit 2))) (.seq (.post [3, 4, 5, 11, 12, 13, 20, 21, 22] (.block 3 (.seq (.post [3, 4, 5, 7, 11, 12, 13, 20, 21, 22] (.region yq.r7)) (.post [3, 4, 5, 11, 12, 13, 20, 21, 22] (.draw [0, 0, 2, 0, 0, 16, 56, 0, 0, 256, 768, 1920, 3968, 8184, 16383] yq.r8))))) (.post [3, 4, 5, 11, 12, 13, 20, 21, 22] (.region yq.r9))))
def yq.r10 : List AStep := [af 41 4 5,af 42 1 41,ae 43 1 42,ai 44 43,ac 45 0]
def yq.r11 : List AStep := [am 46 45 44]
def yq.r12 : List AStep := [ak 47 3 43 45,ar 48 3 47,a2u 9,aq 3 9 48]
def yq.r13 : List AStep := [ab 49 3,af 50 0 9,ae 51 1 50,ab 52 3,af 53 0 9,ae 54 1 53,a3c 55 0 0 52 54,ab 56 4,ar 57 3 9,⟨some 58, none, .op (.bfz 1 3 [.s [], .s [], .s []] [(0, 3, .t 57)])⟩,a3e 59 1 1 58,⟨some 60, none, .op (.build [.i .i64 0, .fs [], .fs [], .fs []] [(0, 1, .t 56), (1, 3, .t 59)])⟩,⟨some 61, none, .op (.bfz 1 4 [.i .i64 0, .sl none 0 0, .sl none 0 0, .sl none 0 0] [(0, 4, .t 60)])⟩,a1n 62 4 80 55 61,⟨none, none, .op (.upm (.t 49) (.t 51) (.t 62))⟩]
def yq.r14 : List AStep := [ap 63 45 1,ab 45 63]
def yq.l2 : ACode := .seq (.post [3, 4, 11, 12, 13, 43, 44, 45, 46] (.region yq.r11)) (.seq (.post [3, 4, 11, 12, 13, 43, 44, 45] (.cond (.t 46) (.skip) (.exit 4))) (.seq (.post [3, 4, 11, 12, 13, 43, 44, 45] (.block 5 (.seq (.post [3, 4, 9, 11, 12, 13, 43, 44, 45] (.region yq.r12)) (.post [3, 4, 11, 12, 13, 43, 44, 45] (.draw [0, 0, 2, 0, 0, 16, 56, 0, 0, 256, 768, 1920, 3968, 8184, 16383] yq.r13))))) (.post [3, 4, 11, 12, 13, 43, 44, 45] (.region yq.r14))))
def yq.r15 : List AStep := [ap 64 13 1,ab 13 64]
def yq.l0 : ACode := .seq (.post [3, 11, 12, 13, 14] (.region yq.r3)) (.seq (.post [3, 11, 12, 13] (.cond (.t 14) (.skip) (.exit 0))) (.seq (.post [3, 11, 12, 13] (.block 1 (.seq (.post [3, 4, 5, 11, 12, 13] (.region yq.r4)) (.seq (.seq (.post [3, 4, 5, 11, 12, 13, 20, 21, 22] (.region yq.r5)) (.post [3, 4, 5, 11, 12, 13] (.block 2 (.loop yq.l1)))) (.seq (.post [3, 4, 11, 12, 13, 43, 44, 45] (.region yq.r10)) (.post [3, 11, 12, 13] (.block 4 (.loop yq.l2)))))))) (.post [3, 11, 12, 13] (.region yq.r15))))
def yq.r16 : List AStep := [ab 65 3,ab 2 65]
def yq : AFunc := ⟨66, [.t 2], .seq (.post [0] (.region yq.r0)) (.seq (.post [0, 3] (.region yq.r1)) (.seq (.seq (.post [3, 11, 12, 13] (.region yq.r2)) (.post [3] (.block 0 (.loop yq.l0)))) (.seq (.post [2] (.region yq.r16)) (.ret))))⟩
theorem yq.ok : y23 Tryz.prog Tryz.f15 yq = true := by kernel_rfl
theorem yq.at : Tryz.prog.funcs[y89]? = some Tryz.f15 := Tryz.func15
def y27.r0 : List AStep := [ac 5 0]
def y27.r1 : List AStep := [ae 6 1 2,a1y 7 6,af 8 0 7,ae 9 1 8,ab 10 0,ak 11 1 9 10,ae 12 1 11,ab 13 1,⟨some 14, none, .call y3p [.t 12, .t 13]⟩,ab 5 14]
def y27 : AFunc := ⟨15, [.t 5], .seq (.post [0, 1, 2] (.region y27.r0)) (.seq (.post [5] (.region y27.r1)) (.ret))⟩
theorem y27.ok : y23 Tryz.prog Tryz.f146 y27 = true := by kernel_rfl
theorem y27.at : Tryz.prog.funcs[y4r]? = some Tryz.f146 := Tryz.func146
def y5.r0 : List AStep := [ac 6 0,ah 7]
def y5.r1 : List AStep := [ab 12 0,ai 13 12,ab 8 13]
def y5.r2 : List AStep := [ab 14 8,ac 9 0,ab 10 14]
def y5.r3 : List AStep := [ab 15 9,ab 16 10,am 17 15 16]
def y5.r4 : List AStep := [ab 18 9,ab 19 10,a1d 20 18 19,a3f 21 20,⟨some 22, none, .op (.bin .shr (.t 21) (.c (.i .u64 1)))⟩,⟨some 23, none, .op (.conv .i64 (.t 22))⟩,ab 11 23]
def y5.r5 : List AStep := [ab 24 2,ab 25 0,ab 26 11,ak 27 1 25 26,ae 28 1 27,ab 29 1,a2v 30 24 28 29,a2j 31 30 0]
def y5.r6 : List AStep := [ab 32 11,ap 33 32 1,ab 9 33]
def y5.r7 : List AStep := [ab 34 11,ab 10 34]
def y5.l0 : ACode := .seq (.seq (.post [0, 1, 2, 8, 9, 10, 17] (.region y5.r3)) (.post [0, 1, 2, 8, 9, 10] (.cond (.t 17) (.skip) (.exit 0)))) (.post [0, 1, 2, 8, 9, 10] (.block 1 (.seq (.post [0, 1, 2, 8, 9, 10, 11] (.region y5.r4)) (.seq (.post [0, 1, 2, 8, 9, 10, 11, 31] (.region y5.r5)) (.post [0, 1, 2, 8, 9, 10] (.cond (.t 31) (.post [0, 1, 2, 8, 9, 10] (.region y5.r6)) (.post [0, 1, 2, 8, 9, 10] (.region y5.r7))))))))
def y5.r8 : List AStep := [ab 35 9,ab 36 9,ab 37 8,am 38 36 37,ab 39 38,aj 40 39 2,aj 41 39 0,aj 42 39 9,a1l 43 39 1 41 42,ay 44 39 1 43,aj 45 39 1,a2y 46 39 40 44 45,a1q 47 39 46 0,an 48 39 47,ab 6 35,ab 7 48]
def y5 : AFunc := ⟨49, [.t 6, .t 7], .seq (.post [0, 1, 2] (.region y5.r0)) (.seq (.post [0, 1, 2, 8] (.region y5.r1)) (.seq (.post [0, 1, 2, 8, 9, 10] (.region y5.r2)) (.seq (.post [0, 1, 2, 8, 9] (.block 0 (.loop y5.l0))) (.seq (.post [6, 7] (.region y5.r8)) (.ret)))))⟩
theorem y5.ok : y23 Tryz.prog Tryz.f145 y5 = true := by kernel_rfl
theorem y5.at : Tryz.prog.funcs[y3h]? = some Tryz.f145 := Tryz.func145
def y2b.r0 : List AStep := [a2i 2 0,ac 4 0,ah 5]
def y2b.r1 : List AStep := [ae 6 1 2,a1y 7 6,af 8 1 7,ae 9 1 8,ab 10 1,⟨some 11, none, .op (.mkfn y4r [.t 2])⟩,⟨some 12, none, .call y3h [.t 9, .t 10, .t 11]⟩,al 13 0 12,al 14 1 12,ab 4 13,ab 5 14]
def y2b : AFunc := ⟨15, [.t 4, .t 5], .seq (.post [1, 2] (.region y2b.r0)) (.seq (.post [4, 5] (.region y2b.r1)) (.ret))⟩
theorem y2b.ok : y23 Tryz.prog Tryz.f116 y2b = true := by kernel_rfl
theorem y2b.at : Tryz.prog.funcs[y4z]? = some Tryz.f116 := Tryz.func116
def y12.r0 : List AStep := [ac 4 0,ah 5]
def y12.r1 : List AStep := [ab 10 0,ab 11 1,⟨some 12, none, .call y4z [.t 10, .t 11]⟩,ab 9 12,al 13 0 9,al 14 1 9,ab 6 13,ab 7 14]
def y12.r2 : List AStep := [ab 15 7]
def y12.r3 : List AStep := [ab 16 0,a1y 17 16,af 18 1 17,ae 19 1 18,ab 20 6,ak 21 1 19 20,ae 22 1 21,ab 4 22,ah 5]
def y12.r4 : List AStep := [ab 23 0,a1y 24 23,af 25 0 24,ae 26 1 25,ai 27 26,ab 8 27]
def y12.r5 : List AStep := [ab 28 0,ab 29 0,a1y 30 29,af 31 0 30,ae 32 1 31,ab 33 1,a2k 34 1 1 0 1 33,a1n 35 1 16 32 34,a1y 36 28,af 37 0 36,aq 1 37 35]
def y12.r6 : List AStep := [ab 38 0,ab 39 0,a1y 40 39,af 41 1 40,ae 42 1 41,ab 43 6,ab 44 8,⟨some 45, none, .op (.bsl 1 [.i .i64 0] [(0, 1, .t 44)])⟩,⟨some 46, none, .call y9s [.t 42, .t 43, .t 45]⟩,a1y 47 38,af 48 1 47,aq 1 48 46]
def y12.r7 : List AStep := [ab 49 8,ab 4 49,a1a 5]
def y12 : AFunc := ⟨50, [.t 4, .t 5], .seq (.post [0, 1] (.region y12.r0)) (.seq (.post [0, 1, 6, 7] (.region y12.r1)) (.seq (.seq (.post [0, 1, 6, 15] (.region y12.r2)) (.post [0, 1, 6] (.cond (.t 15) (.seq (.post [4, 5] (.region y12.r3)) (.ret)) (.skip)))) (.seq (.post [0, 1, 6, 8] (.region y12.r4)) (.seq (.post [0, 6, 8] (.region y12.r5)) (.seq (.post [8] (.region y12.r6)) (.seq (.post [4, 5] (.region y12.r7)) (.ret)))))))⟩
theorem y12.ok : y23 Tryz.prog Tryz.f82 y12 = true := by kernel_rfl
theorem y12.at : Tryz.prog.funcs[y5j]? = some Tryz.f82 := Tryz.func82
def y1a.r0 : List AStep := [ae 5 1 1,a1y 6 5,af 7 1 6,ae 8 1 7,⟨some 9, none, .call y55 [.t 8]⟩,ai 10 9,ac 11 0]
def y1a.r1 : List AStep := [am 12 11 10]
def y1a.r2 : List AStep := [ak 13 1 9 11,ae 14 1 13,ab 4 14]
def y1a.r3 : List AStep := [ab 15 0,ae 16 1 1,a1y 17 16,af 18 0 17,ae 19 1 18,ab 20 4,ak 21 1 19 20,ae 22 1 21,ab 23 4,a2v 24 15 22 23,a18 25 24]
def y1a.r4 : List AStep := [ap 26 11 1,ab 11 26]
def y1a.l0 : ACode := .seq (.post [0, 1, 9, 10, 11, 12] (.region y1a.r1)) (.seq (.post [0, 1, 9, 10, 11] (.cond (.t 12) (.skip) (.exit 0))) (.seq (.post [0, 1, 9, 10, 11] (.block 1 (.seq (.post [0, 1, 4, 9, 10, 11] (.region y1a.r2)) (.seq (.post [0, 1, 9, 10, 11, 25] (.region y1a.r3)) (.post [0, 1, 9, 10, 11] (.cond (.t 25) (.ret) (.skip))))))) (.post [0, 1, 9, 10, 11] (.region y1a.r4))))
def y1a : AFunc := ⟨27, [], .seq (.post [0, 1, 9, 10, 11] (.region y1a.r0)) (.post [] (.block 0 (.loop y1a.l0)))⟩
theorem y1a.ok : y23 Tryz.prog Tryz.f118 y1a = true := by kernel_rfl
theorem y1a.at : Tryz.prog.funcs[y47]? = some Tryz.f118 := Tryz.func118
def y29.r0 : List AStep := [a2i 1 0,⟨some 2, none, .op (.mov (.c (.nf)))⟩]
def y29.r1 : List AStep := [⟨some 3, none, .op (.mkfn y47 [.t 1])⟩,ab 2 3]
def y29 : AFunc := ⟨4, [.t 2], .seq (.post [1] (.region y29.r0)) (.seq (.post [2] (.region y29.r1)) (.ret))⟩
theorem y29.ok : y23 Tryz.prog Tryz.f83 y29 = true := by kernel_rfl
theorem y29.at : Tryz.prog.funcs[y4v]? = some Tryz.f83 := Tryz.func83
def yk.r0 : List AStep := [a1j 2 0 0]
def yk.r1 : List AStep := [⟨some 8, none, .op (.build [.sl none 0 0, .sl none 0 0] [])⟩,a2i 9 8,ab 3 9]
def yk.r2 : List AStep := [ab 10 0,ai 11 10,ac 12 0]
def yk.r3 : List AStep := [am 13 12 11]
def yk.r4 : List AStep := [ak 14 1 10 12,ae 15 1 14,ab 5 15]
def yk.r5 : List AStep := [ab 16 3,ab 17 5,⟨some 18, none, .call y5j [.t 16, .t 17]⟩]
def yk.r6 : List AStep := [ap 19 12 1,ab 12 19]
def yk.l0 : ACode := .seq (.post [2, 3, 10, 11, 12, 13] (.region yk.r3)) (.seq (.post [2, 3, 10, 11, 12] (.cond (.t 13) (.skip) (.exit 0))) (.seq (.post [2, 3, 10, 11, 12] (.block 1 (.seq (.post [2, 3, 5, 10, 11, 12] (.region yk.r4)) (.post [2, 3, 10, 11, 12] (.region yk.r5))))) (.post [2, 3, 10, 11, 12] (.region yk.r6))))
def yk.r7 : List AStep := [⟨some 6, none, .op (.new [.sl none 0 0])⟩]
def yk.r8 : List AStep := [ab 20 3,⟨some 21, none, .call y4v [.t 20]⟩]
def yk.r9 : List AStep := [ab 7 22]
def yk.r10 : List AStep := [ae 24 1 6,ab 25 7,a2k 26 1 1 0 1 25,a1n 27 1 16 24 26,aq 1 6 27]
def yk.a1 : ACode := .post [6, 7] (.region yk.r9)
def yk.b1 : ACode := .post [] (.block 3 (.post [] (.region yk.r10)))
def yk.r11 : List AStep := [ae 28 1 6,ab 2 28]
def yk : AFunc := ⟨29, [.t 2], .seq (.post [0, 2] (.region yk.r0)) (.seq (.post [0, 2, 3] (.region yk.r1)) (.seq (.seq (.post [2, 3, 10, 11, 12] (.region yk.r2)) (.post [2, 3] (.block 0 (.loop yk.l0)))) (.seq (.post [2, 3, 6] (.region yk.r7)) (.seq (.seq (.post [2, 6, 21] (.region yk.r8)) (.post [6] (.block 2 (.post [6] (.rangeFunc (.t 21) [22, 23] yk.a1 yk.b1))))) (.seq (.post [2] (.region yk.r11)) (.ret))))))⟩
theorem yk.ok : y23 Tryz.prog Tryz.f43 yk = true := by kernel_rfl
theorem yk.at : Tryz.prog.funcs[y57]? = some Tryz.f43 := Tryz.func43
def yd.r0 : List AStep := [ah 6]
def yd.r1 : List AStep := [ab 10 0,ai 11 10,ab 12 1,ai 13 12,a1m 14 11 13]
def yd.r2 : List AStep := [ah 6]
def yd.r3 : List AStep := [ab 15 0,ai 16 15,ac 17 0]
def yd.r4 : List AStep := [am 18 17 16]
def yd.r5 : List AStep := [ab 19 17,ak 20 3 15 17,ar 21 3 20,a1o 8 0 0,ab 7 19,aq 3 8 21]
def yd.r6 : List AStep := [ab 22 1,ab 23 7,ak 24 3 22 23,ar 25 3 24,a1o 9 0 0,aq 3 9 25]
def yd.r7 : List AStep := [ab 26 2,ar 27 3 8,ar 28 3 9,a2v 29 26 27 28,a18 30 29]
def yd.r8 : List AStep := [ah 6]
def yd.r9 : List AStep := [ap 31 17 1,ab 17 31]
def yd.l0 : ACode := .seq (.post [1, 2, 15, 16, 17, 18] (.region yd.r4)) (.seq (.post [1, 2, 15, 16, 17] (.cond (.t 18) (.skip) (.exit 0))) (.seq (.post [1, 2, 15, 16, 17] (.block 1 (.seq (.post [1, 2, 7, 8, 15, 16, 17] (.region yd.r5)) (.seq (.post [1, 2, 8, 9, 15, 16, 17] (.region yd.r6)) (.seq (.post [1, 2, 15, 16, 17, 30] (.region yd.r7)) (.post [1, 2, 15, 16, 17] (.cond (.t 30) (.seq (.post [6] (.region yd.r8)) (.ret)) (.skip)))))))) (.post [1, 2, 15, 16, 17] (.region yd.r9))))
def yd.r10 : List AStep := [a1a 6]
def yd : AFunc := ⟨32, [.t 6], .seq (.post [0, 1, 2] (.region yd.r0)) (.seq (.seq (.post [0, 1, 2, 14] (.region yd.r1)) (.post [0, 1, 2] (.cond (.t 14) (.seq (.post [6] (.region yd.r2)) (.ret)) (.skip)))) (.seq (.seq (.post [1, 2, 15, 16, 17] (.region yd.r3)) (.post [] (.block 0 (.loop yd.l0)))) (.seq (.post [6] (.region yd.r10)) (.ret))))⟩
theorem yd.at : Tryz.prog.funcs[y3f]? = some Tryz.f85 := Tryz.func85
def y17.r0 : List AStep := [ah 4]
def y17.r1 : List AStep := [ab 6 0,ai 7 6,ab 8 1,ai 9 8,a1m 10 7 9]
def y17.r2 : List AStep := [ah 4]
def y17.r3 : List AStep := [ab 11 0,ai 12 11,ac 13 0]
def y17.r4 : List AStep := [am 14 13 12]
def y17.r5 : List AStep := [ab 15 13,ab 5 15]
def y17.r6 : List AStep := [ab 16 0,ab 17 5,ak 18 2 16 17,ar 19 2 18,ab 20 1,ab 21 5,ak 22 2 20 21,ar 23 2 22,⟨some 24, none, .op (.eqa true [0, 1] (.t 19) (.t 23))⟩]
def y17.r7 : List AStep := [ah 4]
def y17.r8 : List AStep := [ap 25 13 1,ab 13 25]
def y17.l0 : ACode := .seq (.post [0, 1, 12, 13, 14] (.region y17.r4)) (.seq (.post [0, 1, 12, 13] (.cond (.t 14) (.skip) (.exit 0))) (.seq (.post [0, 1, 12, 13] (.block 1 (.seq (.post [0, 1, 5, 12, 13] (.region y17.r5)) (.seq (.post [0, 1, 12, 13, 24] (.draw [0, 0, 3, 7, 0, 0, 48, 112, 255] y17.r6)) (.post [0, 1, 12, 13] (.cond (.t 24) (.seq (.post [4] (.region y17.r7)) (.ret)) (.skip))))))) (.post [0, 1, 12, 13] (.region y17.r8))))
def y17.r9 : List AStep := [a1a 4]
def y17 : AFunc := ⟨26, [.t 4], .seq (.post [0, 1] (.region y17.r0)) (.seq (.seq (.post [0, 1, 10] (.region y17.r1)) (.post [0, 1] (.cond (.t 10) (.seq (.post [4] (.region y17.r2)) (.ret)) (.skip)))) (.seq (.seq (.post [0, 1, 12, 13] (.region y17.r3)) (.post [] (.block 0 (.loop y17.l0)))) (.seq (.post [4] (.region y17.r9)) (.ret))))⟩
theorem y17.at : Tryz.prog.funcs[y4j]? = some Tryz.f120 := Tryz.func120
def y2y.r0 : List AStep := [a14 2 0,a14 3 1,ah 4]
def y2y.r1 : List AStep := [af 5 0 2,ae 6 1 5,af 7 0 3,ae 8 1 7,a1x 9 6 8,ab 10 9,az 11 10 1 2,ay 12 10 1 11,az 13 10 1 3,ay 14 10 1 13,a3g 15 10 12 14,an 16 10 15,ab 17 16,az 18 17 2 2,ay 19 17 1 18,az 20 17 2 3,ay 21 17 1 20,⟨some 22, (some (17, true)), .call y4j [.t 19, .t 21]⟩,an 23 17 22,ab 4 23]
def y2y : AFunc := ⟨24, [.t 4], .seq (.post [2, 3] (.region y2y.r0)) (.seq (.post [4] (.region y2y.r1)) (.ret))⟩
theorem y2y.ok : y23 Tryz.prog Tryz.f86 y2y = true := by kernel_rfl
theorem y2y.at : Tryz.prog.funcs[y71]? = some Tryz.f86 := Tryz.func86
def y1h.r0 : List AStep := [ah 4]
def y1h.r1 : List AStep := [ab 6 0,ai 7 6,ab 8 1,ai 9 8,a1m 10 7 9]
def y1h.r2 : List AStep := [ah 4]
def y1h.r3 : List AStep := [ab 11 0,ai 12 11,ac 13 0]
def y1h.r4 : List AStep := [am 14 13 12]
def y1h.r5 : List AStep := [ab 15 13,ab 5 15]
def y1h.r6 : List AStep := [ab 16 0,ab 17 5,ak 18 3 16 17,ar 19 3 18,ab 20 1,ab 21 5,ak 22 3 20 21,ar 23 3 22,⟨some 24, none, .op (.eqa true [1, 1, 1] (.t 19) (.t 23))⟩]
def y1h.r7 : List AStep := [ah 4]
def y1h.r8 : List AStep := [ap 25 13 1,ab 13 25]
def y1h.l0 : ACode := .seq (.post [0, 1, 12, 13, 14] (.region y1h.r4)) (.seq (.post [0, 1, 12, 13] (.cond (.t 14) (.skip) (.exit 0))) (.seq (.post [0, 1, 12, 13] (.block 1 (.seq (.post [0, 1, 5, 12, 13] (.region y1h.r5)) (.seq (.post [0, 1, 12, 13, 24] (.draw [0, 0, 3, 7, 0, 0, 48, 112, 255] y1h.r6)) (.post [0, 1, 12, 13] (.cond (.t 24) (.seq (.post [4] (.region y1h.r7)) (.ret)) (.skip))))))) (.post [0, 1, 12, 13] (.region y1h.r8))))
def y1h.r9 : List AStep := [a1a 4]
def y1h : AFunc := ⟨26, [.t 4], .seq (.post [0, 1] (.region y1h.r0)) (.seq (.seq (.post [0, 1, 10] (.region y1h.r1)) (.post [0, 1] (.cond (.t 10) (.seq (.post [4] (.region y1h.r2)) (.ret)) (.skip)))) (.seq (.seq (.post [0, 1, 12, 13] (.region y1h.r3)) (.post [] (.block 0 (.loop y1h.l0)))) (.seq (.post [4] (.region y1h.r9)) (.ret))))⟩
theorem y1h.at : Tryz.prog.funcs[y4u]? = some Tryz.f87 := Tryz.func87
def ye.r0 : List AStep := [ah 6]
def ye.r1 : List AStep := [ab 10 0,ai 11 10,ab 12 1,ai 13 12,a1m 14 11 13]
def ye.r2 : List AStep := [ah 6]
def ye.r3 : List AStep := [ab 15 0,ai 16 15,ac 17 0]
def ye.r4 : List AStep := [am 18 17 16]
def ye.r5 : List AStep := [ab 19 17,ak 20 6 15 17,ar 21 6 20,a2x 8 0 0 0 0,ab 7 19,aq 6 8 21]
def ye.r6 : List AStep := [ab 22 1,ab 23 7,ak 24 6 22 23,ar 25 6 24,a2x 9 0 0 0 0,aq 6 9 25]
def ye.r7 : List AStep := [ab 26 2,ar 27 6 8,ar 28 6 9,a2v 29 26 27 28,a18 30 29]
def ye.r8 : List AStep := [ah 6]
def ye.r9 : List AStep := [ap 31 17 1,ab 17 31]
def ye.l0 : ACode := .seq (.post [1, 2, 15, 16, 17, 18] (.region ye.r4)) (.seq (.post [1, 2, 15, 16, 17] (.cond (.t 18) (.skip) (.exit 0))) (.seq (.post [1, 2, 15, 16, 17] (.block 1 (.seq (.post [1, 2, 7, 8, 15, 16, 17] (.region ye.r5)) (.seq (.post [1, 2, 8, 9, 15, 16, 17] (.region ye.r6)) (.seq (.post [1, 2, 15, 16, 17, 30] (.region ye.r7)) (.post [1, 2, 15, 16, 17] (.cond (.t 30) (.seq (.post [6] (.region ye.r8)) (.ret)) (.skip)))))))) (.post [1, 2, 15, 16, 17] (.region ye.r9))))
def ye.r10 : List AStep := [a1a 6]
def ye : AFunc := ⟨32, [.t 6], .seq (.post [0, 1, 2] (.region ye.r0)) (.seq (.seq (.post [0, 1, 2, 14] (.region ye.r1)) (.post [0, 1, 2] (.cond (.t 14) (.seq (.post [6] (.region ye.r2)) (.ret)) (.skip)))) (.seq (.seq (.post [1, 2, 15, 16, 17] (.region ye.r3)) (.post [] (.block 0 (.loop ye.l0)))) (.seq (.post [6] (.region ye.r10)) (.ret))))⟩
theorem ye.at : Tryz.prog.funcs[y3g]? = some Tryz.f88 := Tryz.func88
def y41.r0 : List AStep := [a14 2 0,a14 3 1,ah 4]
def y41.r1 : List AStep := [af 5 0 2,ae 6 1 5,af 7 0 3,ae 8 1 7,⟨some 9, none, .call y3f [.t 6, .t 8, .c (.fn 86 [])]⟩,ab 10 9,az 11 10 1 2,ay 12 10 1 11,az 13 10 1 3,ay 14 10 1 13,⟨some 15, (some (10, true)), .call y4u [.t 12, .t 14]⟩,an 16 10 15,ab 17 16,az 18 17 2 2,ay 19 17 1 18,az 20 17 2 3,ay 21 17 1 20,⟨some 22, (some (17, true)), .call y3g [.t 19, .t 21, .c (.fn 89 [])]⟩,an 23 17 22,ab 4 23]
def y41 : AFunc := ⟨24, [.t 4], .seq (.post [2, 3] (.region y41.r0)) (.seq (.post [4] (.region y41.r1)) (.ret))⟩
theorem y41.ok : y23 Tryz.prog Tryz.f46 y41 = true := by kernel_rfl
theorem y41.at : Tryz.prog.funcs[y8e]? = some Tryz.f46 := Tryz.func46
def y31.r0 : List AStep := [a14 2 0,ah 3]
def y31.r1 : List AStep := [af 4 1 2,ar 5 3 4,ae 6 1 1,⟨some 7, none, .op (.iad 4 (.t 6) (.c (.i .i64 0)))⟩,af 8 1 7,ar 9 3 8,⟨some 10, none, .call y8e [.t 5, .t 9]⟩,a18 11 10,ab 3 11]
def y31 : AFunc := ⟨12, [.t 3], .seq (.post [1, 2] (.region y31.r0)) (.seq (.post [3] (.draw [0, 1, 0, 4, 12, 28, 63, 127, 255] y31.r1)) (.ret))⟩
theorem y31.ok : y23 Tryz.prog Tryz.f45 y31 = true := by kernel_rfl
theorem y31.at : Tryz.prog.funcs[y5i]? = some Tryz.f45 := Tryz.func45
def yr.r0 : List AStep := [ac 4 0]
def yr.r1 : List AStep := [ab 6 0,ai 7 6,ac 8 0]
def yr.r2 : List AStep := [am 9 8 7]
def yr.r3 : List AStep := [ab 10 8,ab 5 10]
def yr.r4 : List AStep := [ab 11 1,ab 12 0,ab 13 5,ak 14 4 12 13,ar 15 4 14,a1w 16 11 15]
def yr.r5 : List AStep := [ab 17 5,ab 4 17]
def yr.r6 : List AStep := [ap 18 8 1,ab 8 18]
def yr.l0 : ACode := .seq (.post [0, 1, 7, 8, 9] (.region yr.r2)) (.seq (.post [0, 1, 7, 8] (.cond (.t 9) (.skip) (.exit 0))) (.seq (.post [0, 1, 7, 8] (.block 1 (.seq (.post [0, 1, 5, 7, 8] (.region yr.r3)) (.seq (.post [0, 1, 5, 7, 8, 16] (.region yr.r4)) (.post [0, 1, 7, 8] (.cond (.t 16) (.seq (.post [4] (.region yr.r5)) (.ret)) (.skip))))))) (.post [0, 1, 7, 8] (.region yr.r6))))
def yr.r7 : List AStep := [ac 4 (-1)]
def yr : AFunc := ⟨19, [.t 4], .seq (.post [0, 1] (.region yr.r0)) (.seq (.seq (.post [0, 1, 7, 8] (.region yr.r1)) (.post [] (.block 0 (.loop yr.l0)))) (.seq (.post [4] (.region yr.r7)) (.ret)))⟩
theorem yr.at : Tryz.prog.funcs[y3o]? = some Tryz.f84 := Tryz.func84
def y2a.r0 : List AStep := [ah 4]
def y2a.r1 : List AStep := [ab 5 0,ab 6 1,⟨some 7, none, .call y3o [.t 5, .t 6]⟩,a1e 8 7 0,ab 4 8]
def y2a : AFunc := ⟨9, [.t 4], .seq (.post [0, 1] (.region y2a.r0)) (.seq (.post [4] (.region y2a.r1)) (.ret))⟩
theorem y2a.at : Tryz.prog.funcs[y2n]? = some Tryz.f44 := Tryz.func44
end C
end Go.Proofs.YtjajpilacdfnbaaGreatDoor
