/- What the law SymbolsTurned alone needs: CodeA, CodeB, Am25, SyM, LTl. -/
import Derived.Test.YtjajpilacdfnbaaGreatDoorProg
import Derived.Test.YtjajpilacdfnbaaGreatDoorW0
import Derived.Test.YtjajpilacdfnbaaGreatDoorW1
import Derived.Test.YtjajpilacdfnbaaGreatDoorW2
import Derived.Test.YtjajpilacdfnbaaGreatDoorW3
import Derived.Test.YtjajpilacdfnbaaGreatDoorW4
import Derived.Test.YtjajpilacdfnbaaGreatDoorW5
import Derived.Test.YtjajpilacdfnbaaGreatDoorW6
import Derived.Test.YtjajpilacdfnbaaGreatDoorW7
import Derived.Test.YtjajpilacdfnbaaGreatDoorW8
import Derived.Test.YtjajpilacdfnbaaGreatDoorW9
import Derived.Test.YtjajpilacdfnbaaGreatDoorW10
import Derived.Test.YtjajpilacdfnbaaGreatDoorW11
import Derived.Test.YtjajpilacdfnbaaGreatDoorW12
import Derived.Test.YtjajpilacdfnbaaGreatDoorW13
import Derived.Test.YtjajpilacdfnbaaGreatDoorW14
import Derived.Test.YtjajpilacdfnbaaGreatDoorW15
import Derived.Test.YtjajpilacdfnbaaGreatDoorW16
import Derived.Test.YtjajpilacdfnbaaGreatDoorW17
import Derived.Test.YtjajpilacdfnbaaGreatDoorW18
import Derived.Test.YtjajpilacdfnbaaGreatDoorW19
import Derived.Test.YtjajpilacdfnbaaGreatDoorW20
import Derived.Test.YtjajpilacdfnbaaGreatDoorW21
import Derived.Test.YtjajpilacdfnbaaGreatDoorW22
import Derived.Test.YtjajpilacdfnbaaGreatDoorW23
import Derived.Test.YtjajpilacdfnbaaGreatDoorW24
import Derived.Test.YtjajpilacdfnbaaGreatDoorW25
import Derived.Test.YtjajpilacdfnbaaGreatDoorW26
import Derived.Test.YtjajpilacdfnbaaGreatDoorW27
import Derived.Test.YtjajpilacdfnbaaGreatDoorW28
import Derived.Test.YtjajpilacdfnbaaGreatDoorW29
import Derived.Test.YtjajpilacdfnbaaGreatDoorW30
import Derived.Test.YtjajpilacdfnbaaGreatDoorW31
import Derived.Test.YtjajpilacdfnbaaGreatDoorW32
import Derived.Test.YtjajpilacdfnbaaGreatDoorW33
namespace Go.Proofs.YtjajpilacdfnbaaGreatDoor
open Am Go.Proofs
set_option maxRecDepth 100000
namespace C
def n_weftlaw28_told : FuncId := 10
def n_weftlaw28_SymbolsTurned : FuncId := 4
end C
end Go.Proofs.YtjajpilacdfnbaaGreatDoor
namespace Go.Proofs.YtjajpilacdfnbaaGreatDoor
open Am Go.Proofs
set_option maxRecDepth 100000
namespace C
def weftlaw28_told.r0 : List AStep := [
  ⟨some 8, none, .op (.mov (.c (.b false)))⟩]
def weftlaw28_told.r1 : List AStep := [
  ⟨some 9, none, .op (.mov (.c (.i .i64 0)))⟩]
def weftlaw28_told.r2 : List AStep := [
  ⟨some 10, none, .op (.mov (.t 9))⟩,
  ⟨some 11, none, .op (.mov (.t 0))⟩,
  ⟨some 12, none, .op (.len false (.t 11))⟩,
  ⟨some 13, none, .op (.bin .lss (.t 10) (.t 12))⟩]
def weftlaw28_told.r3 : List AStep := [
  ⟨some 16, none, .op (.mov (.t 0))⟩,
  ⟨some 17, none, .op (.mov (.t 9))⟩,
  ⟨some 18, none, .op (.iad 3 (.t 16) (.t 17))⟩,
  ⟨some 19, none, .op (.fadr 0 (.t 18))⟩,
  ⟨some 20, none, .op (.load false 1 (.t 19))⟩,
  ⟨some 21, none, .op (.mov (.t 1))⟩,
  ⟨some 22, none, .op (.bin .eql (.t 20) (.t 21))⟩]
def weftlaw28_told.r4 : List AStep := [
  ⟨some 23, none, .op (.mov (.t 3))⟩,
  ⟨some 24, none, .op (.mov (.t 23))⟩,
  ⟨some 25, (some (24, true)), .op (.mov (.t 0))⟩,
  ⟨some 26, (some (24, true)), .op (.mov (.t 9))⟩,
  ⟨some 27, (some (24, true)), .op (.iad 3 (.t 25) (.t 26))⟩,
  ⟨some 28, (some (24, true)), .op (.fadr 1 (.t 27))⟩,
  ⟨some 29, (some (24, true)), .op (.load false 1 (.t 28))⟩,
  ⟨some 30, (some (24, true)), .op (.mov (.t 2))⟩,
  ⟨some 31, (some (24, true)), .op (.bin .eql (.t 29) (.t 30))⟩,
  ⟨some 32, none, .op (.pick (.t 24) (.t 31) (.c (.b false)))⟩,
  ⟨some 33, none, .op (.mov (.t 32))⟩,
  ⟨some 34, (some (33, false)), .op (.mov (.t 3))⟩,
  ⟨some 35, (some (33, false)), .op (.un .not (.t 34))⟩,
  ⟨some 36, (some (33, false)), .op (.mov (.t 35))⟩,
  ⟨some 37, (some (36, true)), .op (.mov (.t 0))⟩,
  ⟨some 38, (some (36, true)), .op (.mov (.t 9))⟩,
  ⟨some 39, (some (36, true)), .op (.iad 3 (.t 37) (.t 38))⟩,
  ⟨some 40, (some (36, true)), .op (.fadr 2 (.t 39))⟩,
  ⟨some 41, (some (36, true)), .op (.load false 1 (.t 40))⟩,
  ⟨some 42, (some (36, true)), .op (.mov (.t 2))⟩,
  ⟨some 43, (some (36, true)), .call n_weftref05_Number [.t 41, .t 42]⟩,
  ⟨some 44, (some (36, true)), .op (.bin .geq (.t 43) (.c (.i .i64 0)))⟩,
  ⟨some 45, (some (33, false)), .op (.pick (.t 36) (.t 44) (.c (.b false)))⟩,
  ⟨some 46, none, .op (.pick (.t 33) (.c (.b true)) (.t 45))⟩,
  ⟨some 8, none, .op (.mov (.t 46))⟩]
def weftlaw28_told.r5 : List AStep := [
  ⟨some 14, none, .op (.mov (.t 9))⟩,
  ⟨some 15, none, .op (.bin .add (.t 14) (.c (.i .i64 1)))⟩,
  ⟨some 9, none, .op (.mov (.t 15))⟩]
def weftlaw28_told.l0 : ACode := .seq (.seq (.post [0, 1, 2, 3, 9, 13] (.region weftlaw28_told.r2)) (.post [0, 1, 2, 3, 9] (.cond (.t 13) (.skip) (.exit 0)))) (.seq (.post [0, 1, 2, 3, 9] (.block 1 (.seq (.post [0, 1, 2, 3, 9, 22] (.region weftlaw28_told.r3)) (.post [0, 1, 2, 3, 9] (.cond (.t 22) (.seq (.post [8] (.region weftlaw28_told.r4)) (.ret)) (.skip)))))) (.post [0, 1, 2, 3, 9] (.region weftlaw28_told.r5)))
def weftlaw28_told.r6 : List AStep := [
  ⟨some 8, none, .op (.mov (.c (.b false)))⟩]
def weftlaw28_told : AFunc := ⟨47, [.t 8], .seq (.post [0, 1, 2, 3] (.region weftlaw28_told.r0)) (.seq (.seq (.post [0, 1, 2, 3, 9] (.region weftlaw28_told.r1)) (.post [] (.block 0 (.loop weftlaw28_told.l0)))) (.seq (.post [8] (.region weftlaw28_told.r6)) (.ret)))⟩
theorem weftlaw28_told.ok : okFunc Tryz.prog Tryz.f10 weftlaw28_told = true := by kernel_rfl
theorem weftlaw28_told.at : Tryz.prog.funcs[n_weftlaw28_told]? = some Tryz.f10 := Tryz.func10
def weftlaw28_SymbolsTurned.r0 : List AStep := [
  ⟨some 2, none, .op (.mov (.c (.b false)))⟩]
def weftlaw28_SymbolsTurned.r1 : List AStep := [
  ⟨some 15, none, .call n_weftlaw28_works []⟩,
  ⟨some 16, none, .op (.un .not (.t 15))⟩]
def weftlaw28_SymbolsTurned.r2 : List AStep := [
  ⟨some 2, none, .op (.mov (.c (.b false)))⟩]
def weftlaw28_SymbolsTurned.r3 : List AStep := [
  ⟨some 17, none, .op (.mov (.t 0))⟩,
  ⟨some 18, none, .call n_weftlaw28_GreatAll [.t 17]⟩]
def weftlaw28_SymbolsTurned.r4 : List AStep := [
  ⟨some 2, none, .op (.mov (.c (.b true)))⟩]
def weftlaw28_SymbolsTurned.r5 : List AStep := [
  ⟨some 3, none, .op (.mov (.c (.sl none 0 0)))⟩]
def weftlaw28_SymbolsTurned.r6 : List AStep := [
  ⟨some 19, none, .op (.mov (.t 0))⟩,
  ⟨some 20, none, .op (.len false (.t 19))⟩,
  ⟨some 21, none, .op (.bin .sub (.t 20) (.c (.i .i64 1)))⟩,
  ⟨some 4, none, .op (.mov (.t 21))⟩]
def weftlaw28_SymbolsTurned.r7 : List AStep := [
  ⟨some 22, none, .op (.mov (.t 4))⟩,
  ⟨some 23, none, .op (.bin .geq (.t 22) (.c (.i .i64 0)))⟩]
def weftlaw28_SymbolsTurned.r8 : List AStep := [
  ⟨some 26, none, .op (.mov (.t 3))⟩,
  ⟨some 27, none, .op (.mov (.t 0))⟩,
  ⟨some 28, none, .op (.mov (.t 4))⟩,
  ⟨some 29, none, .op (.iad 7 (.t 27) (.t 28))⟩,
  ⟨some 30, none, .op (.load true 7 (.t 29))⟩,
  ⟨some 31, none, .op (.bfz 1 7 [.s [], .sl none 0 0, .sl none 0 0, .sl none 0 0, .sl none 0 0, .sl none 0 0, .sl none 0 0] [(0, 7, .t 30)])⟩,
  ⟨some 32, none, .op (.app 7 160 (.t 26) (.t 31))⟩,
  ⟨some 3, none, .op (.mov (.t 32))⟩]
def weftlaw28_SymbolsTurned.r9 : List AStep := [
  ⟨some 24, none, .op (.mov (.t 4))⟩,
  ⟨some 25, none, .op (.bin .sub (.t 24) (.c (.i .i64 1)))⟩,
  ⟨some 4, none, .op (.mov (.t 25))⟩]
def weftlaw28_SymbolsTurned.l0 : ACode := .seq (.seq (.post [0, 3, 4, 23] (.region weftlaw28_SymbolsTurned.r7)) (.post [0, 3, 4] (.cond (.t 23) (.skip) (.exit 0)))) (.seq (.post [0, 3, 4] (.block 1 (.post [0, 3, 4] (.region weftlaw28_SymbolsTurned.r8)))) (.post [0, 3, 4] (.region weftlaw28_SymbolsTurned.r9)))
def weftlaw28_SymbolsTurned.r10 : List AStep := [
  ⟨some 34, none, .op (.mov (.t 0))⟩,
  ⟨some 35, none, .call n_symbols_Resolve [.t 34]⟩,
  ⟨some 33, none, .op (.mov (.t 35))⟩,
  ⟨some 36, none, .op (.ext 0 (.t 33))⟩,
  ⟨some 37, none, .op (.ext 1 (.t 33))⟩,
  ⟨some 38, none, .op (.ext 2 (.t 33))⟩,
  ⟨some 5, none, .op (.mov (.t 36))⟩,
  ⟨some 6, none, .op (.mov (.t 37))⟩,
  ⟨some 7, none, .op (.mov (.t 38))⟩]
def weftlaw28_SymbolsTurned.r11 : List AStep := [
  ⟨some 40, none, .op (.mov (.t 3))⟩,
  ⟨some 41, none, .call n_symbols_Resolve [.t 40]⟩,
  ⟨some 39, none, .op (.mov (.t 41))⟩,
  ⟨some 42, none, .op (.ext 0 (.t 39))⟩,
  ⟨some 43, none, .op (.ext 1 (.t 39))⟩,
  ⟨some 44, none, .op (.ext 2 (.t 39))⟩,
  ⟨some 8, none, .op (.mov (.t 42))⟩,
  ⟨some 9, none, .op (.mov (.t 43))⟩,
  ⟨some 10, none, .op (.mov (.t 44))⟩]
def weftlaw28_SymbolsTurned.r12 : List AStep := [
  ⟨some 45, none, .op (.mov (.t 7))⟩,
  ⟨some 46, none, .op (.bin .eql (.t 45) (.c (.i .i64 0)))⟩,
  ⟨some 47, none, .op (.mov (.t 10))⟩,
  ⟨some 48, none, .op (.bin .eql (.t 47) (.c (.i .i64 0)))⟩,
  ⟨some 49, none, .op (.eqk .bool true (.t 46) (.t 48))⟩,
  ⟨some 50, none, .op (.mov (.t 49))⟩,
  ⟨some 51, (some (50, false)), .op (.mov (.t 5))⟩,
  ⟨some 52, (some (50, false)), .op (.len false (.t 51))⟩,
  ⟨some 53, (some (50, false)), .op (.mov (.t 8))⟩,
  ⟨some 54, (some (50, false)), .op (.len false (.t 53))⟩,
  ⟨some 55, (some (50, false)), .op (.bin .neq (.t 52) (.t 54))⟩,
  ⟨some 56, none, .op (.pick (.t 50) (.c (.b true)) (.t 55))⟩]
def weftlaw28_SymbolsTurned.r13 : List AStep := [
  ⟨some 2, none, .op (.mov (.c (.b false)))⟩]
def weftlaw28_SymbolsTurned.r14 : List AStep := [
  ⟨some 11, none, .op (.mov (.c (.i .i64 0)))⟩]
def weftlaw28_SymbolsTurned.r15 : List AStep := [
  ⟨some 12, none, .op (.mov (.c (.i .i64 0)))⟩]
def weftlaw28_SymbolsTurned.r16 : List AStep := [
  ⟨some 57, none, .op (.mov (.t 12))⟩,
  ⟨some 58, none, .op (.mov (.t 0))⟩,
  ⟨some 59, none, .op (.len false (.t 58))⟩,
  ⟨some 60, none, .op (.bin .lss (.t 57) (.t 59))⟩,
  ⟨some 61, none, .op (.mov (.t 60))⟩,
  ⟨some 62, (some (61, true)), .op (.mov (.t 7))⟩,
  ⟨some 63, (some (61, true)), .op (.bin .eql (.t 62) (.c (.i .i64 0)))⟩,
  ⟨some 64, none, .op (.pick (.t 61) (.t 63) (.c (.b false)))⟩]
def weftlaw28_SymbolsTurned.r17 : List AStep := [
  ⟨some 67, none, .op (.mov (.t 11))⟩,
  ⟨some 68, none, .op (.mov (.t 0))⟩,
  ⟨some 69, none, .op (.mov (.t 12))⟩,
  ⟨some 70, none, .op (.iad 7 (.t 68) (.t 69))⟩,
  ⟨some 71, none, .op (.fadr 1 (.t 70))⟩,
  ⟨some 72, none, .op (.load false 1 (.t 71))⟩,
  ⟨some 73, none, .op (.len false (.t 72))⟩,
  ⟨some 74, none, .op (.bin .add (.t 67) (.t 73))⟩,
  ⟨some 11, none, .op (.mov (.t 74))⟩]
def weftlaw28_SymbolsTurned.r18 : List AStep := [
  ⟨some 13, none, .op (.mov (.c (.i .i64 0)))⟩]
def weftlaw28_SymbolsTurned.r19 : List AStep := [
  ⟨some 75, none, .op (.mov (.t 13))⟩,
  ⟨some 76, none, .op (.mov (.t 0))⟩,
  ⟨some 77, none, .op (.mov (.t 12))⟩,
  ⟨some 78, none, .op (.iad 7 (.t 76) (.t 77))⟩,
  ⟨some 79, none, .op (.fadr 1 (.t 78))⟩,
  ⟨some 80, none, .op (.load false 1 (.t 79))⟩,
  ⟨some 81, none, .op (.len false (.t 80))⟩,
  ⟨some 82, none, .op (.mov (.t 0))⟩,
  ⟨some 83, none, .op (.mov (.t 12))⟩,
  ⟨some 84, none, .op (.iad 7 (.t 82) (.t 83))⟩,
  ⟨some 85, none, .op (.fadr 2 (.t 84))⟩,
  ⟨some 86, none, .op (.load false 1 (.t 85))⟩,
  ⟨some 87, none, .op (.len false (.t 86))⟩,
  ⟨some 88, none, .op (.bin .add (.t 81) (.t 87))⟩,
  ⟨some 89, none, .op (.bin .lss (.t 75) (.t 88))⟩]
def weftlaw28_SymbolsTurned.r20 : List AStep := [
  ⟨some 14, none, .op (.mov (.c (.s [])))⟩]
def weftlaw28_SymbolsTurned.r21 : List AStep := [
  ⟨some 92, none, .op (.mov (.t 13))⟩,
  ⟨some 93, none, .op (.mov (.t 0))⟩,
  ⟨some 94, none, .op (.mov (.t 12))⟩,
  ⟨some 95, none, .op (.iad 7 (.t 93) (.t 94))⟩,
  ⟨some 96, none, .op (.fadr 1 (.t 95))⟩,
  ⟨some 97, none, .op (.load false 1 (.t 96))⟩,
  ⟨some 98, none, .op (.len false (.t 97))⟩,
  ⟨some 99, none, .op (.bin .lss (.t 92) (.t 98))⟩]
def weftlaw28_SymbolsTurned.r22 : List AStep := [
  ⟨some 100, none, .op (.mov (.t 0))⟩,
  ⟨some 101, none, .op (.mov (.t 12))⟩,
  ⟨some 102, none, .op (.iad 7 (.t 100) (.t 101))⟩,
  ⟨some 103, none, .op (.fadr 1 (.t 102))⟩,
  ⟨some 104, none, .op (.load false 1 (.t 103))⟩,
  ⟨some 105, none, .op (.mov (.t 13))⟩,
  ⟨some 106, none, .op (.iad 1 (.t 104) (.t 105))⟩,
  ⟨some 107, none, .op (.load false 1 (.t 106))⟩,
  ⟨some 14, none, .op (.mov (.t 107))⟩]
def weftlaw28_SymbolsTurned.r23 : List AStep := [
  ⟨some 108, none, .op (.mov (.t 0))⟩,
  ⟨some 109, none, .op (.mov (.t 12))⟩,
  ⟨some 110, none, .op (.iad 7 (.t 108) (.t 109))⟩,
  ⟨some 111, none, .op (.fadr 2 (.t 110))⟩,
  ⟨some 112, none, .op (.load false 1 (.t 111))⟩,
  ⟨some 113, none, .op (.mov (.t 13))⟩,
  ⟨some 114, none, .op (.mov (.t 0))⟩,
  ⟨some 115, none, .op (.mov (.t 12))⟩,
  ⟨some 116, none, .op (.iad 7 (.t 114) (.t 115))⟩,
  ⟨some 117, none, .op (.fadr 1 (.t 116))⟩,
  ⟨some 118, none, .op (.load false 1 (.t 117))⟩,
  ⟨some 119, none, .op (.len false (.t 118))⟩,
  ⟨some 120, none, .op (.bin .sub (.t 113) (.t 119))⟩,
  ⟨some 121, none, .op (.iad 1 (.t 112) (.t 120))⟩,
  ⟨some 122, none, .op (.load false 1 (.t 121))⟩,
  ⟨some 14, none, .op (.mov (.t 122))⟩]
def weftlaw28_SymbolsTurned.r24 : List AStep := [
  ⟨some 123, none, .op (.mov (.t 5))⟩,
  ⟨some 124, none, .op (.mov (.t 14))⟩,
  ⟨some 125, none, .op (.mov (.t 0))⟩,
  ⟨some 126, none, .op (.mov (.t 12))⟩,
  ⟨some 127, none, .op (.iad 7 (.t 125) (.t 126))⟩,
  ⟨some 128, none, .op (.fadr 0 (.t 127))⟩,
  ⟨some 129, none, .op (.load false 1 (.t 128))⟩,
  ⟨some 130, none, .op (.mov (.t 13))⟩,
  ⟨some 131, none, .op (.mov (.t 0))⟩,
  ⟨some 132, none, .op (.mov (.t 12))⟩,
  ⟨some 133, none, .op (.iad 7 (.t 131) (.t 132))⟩,
  ⟨some 134, none, .op (.fadr 1 (.t 133))⟩,
  ⟨some 135, none, .op (.load false 1 (.t 134))⟩,
  ⟨some 136, none, .op (.len false (.t 135))⟩,
  ⟨some 137, none, .op (.bin .lss (.t 130) (.t 136))⟩,
  ⟨some 138, none, .call n_weftlaw28_told [.t 123, .t 124, .t 129, .t 137]⟩,
  ⟨some 139, none, .op (.un .not (.t 138))⟩,
  ⟨some 140, none, .op (.mov (.t 139))⟩,
  ⟨some 141, (some (140, false)), .op (.mov (.t 8))⟩,
  ⟨some 142, (some (140, false)), .op (.mov (.t 14))⟩,
  ⟨some 143, (some (140, false)), .op (.mov (.t 0))⟩,
  ⟨some 144, (some (140, false)), .op (.mov (.t 12))⟩,
  ⟨some 145, (some (140, false)), .op (.iad 7 (.t 143) (.t 144))⟩,
  ⟨some 146, (some (140, false)), .op (.fadr 0 (.t 145))⟩,
  ⟨some 147, (some (140, false)), .op (.load false 1 (.t 146))⟩,
  ⟨some 148, (some (140, false)), .op (.mov (.t 13))⟩,
  ⟨some 149, (some (140, false)), .op (.mov (.t 0))⟩,
  ⟨some 150, (some (140, false)), .op (.mov (.t 12))⟩,
  ⟨some 151, (some (140, false)), .op (.iad 7 (.t 149) (.t 150))⟩,
  ⟨some 152, (some (140, false)), .op (.fadr 1 (.t 151))⟩,
  ⟨some 153, (some (140, false)), .op (.load false 1 (.t 152))⟩,
  ⟨some 154, (some (140, false)), .op (.len false (.t 153))⟩,
  ⟨some 155, (some (140, false)), .op (.bin .lss (.t 148) (.t 154))⟩,
  ⟨some 156, (some (140, false)), .call n_weftlaw28_told [.t 141, .t 142, .t 147, .t 155]⟩,
  ⟨some 157, (some (140, false)), .op (.un .not (.t 156))⟩,
  ⟨some 158, none, .op (.pick (.t 140) (.c (.b true)) (.t 157))⟩]
def weftlaw28_SymbolsTurned.r25 : List AStep := [
  ⟨some 2, none, .op (.mov (.c (.b false)))⟩]
def weftlaw28_SymbolsTurned.r26 : List AStep := [
  ⟨some 90, none, .op (.mov (.t 13))⟩,
  ⟨some 91, none, .op (.bin .add (.t 90) (.c (.i .i64 1)))⟩,
  ⟨some 13, none, .op (.mov (.t 91))⟩]
def weftlaw28_SymbolsTurned.l2 : ACode := .seq (.seq (.post [0, 5, 7, 8, 11, 12, 13, 89] (.draw [0, 0, 0, 6, 14, 30, 62, 0, 0, 384, 896, 1920, 3968, 8190, 16383] weftlaw28_SymbolsTurned.r19)) (.post [0, 5, 7, 8, 11, 12, 13] (.cond (.t 89) (.skip) (.exit 4)))) (.seq (.post [0, 5, 7, 8, 11, 12, 13] (.block 5 (.seq (.post [0, 5, 7, 8, 11, 12, 13] (.region weftlaw28_SymbolsTurned.r20)) (.seq (.seq (.post [0, 5, 7, 8, 11, 12, 13, 99] (.region weftlaw28_SymbolsTurned.r21)) (.post [0, 5, 7, 8, 11, 12, 13, 14] (.cond (.t 99) (.post [0, 5, 7, 8, 11, 12, 13, 14] (.region weftlaw28_SymbolsTurned.r22)) (.post [0, 5, 7, 8, 11, 12, 13, 14] (.draw [0, 0, 3, 7, 15, 0, 0, 0, 192, 448, 960, 1984, 4064, 8191, 16383, 32767] weftlaw28_SymbolsTurned.r23))))) (.seq (.post [0, 5, 7, 8, 11, 12, 13, 158] (.draw [0, 0, 0, 0, 12, 28, 60, 0, 0, 0, 768, 1792, 3840, 7936, 16256, 32767, 65535, 131071, 262143, 262143, 262143, 262143, 3407871, 7602175, 15990783, 262143, 262143, 262143, 201588735, 470024191, 1006895103, 2080636927, 4261675007, 8589934591, 17179869183, 34359738367] weftlaw28_SymbolsTurned.r24)) (.post [0, 5, 7, 8, 11, 12, 13] (.cond (.t 158) (.seq (.post [2] (.region weftlaw28_SymbolsTurned.r25)) (.ret)) (.skip)))))))) (.post [0, 5, 7, 8, 11, 12, 13] (.region weftlaw28_SymbolsTurned.r26)))
def weftlaw28_SymbolsTurned.r27 : List AStep := [
  ⟨some 65, none, .op (.mov (.t 12))⟩,
  ⟨some 66, none, .op (.bin .add (.t 65) (.c (.i .i64 1)))⟩,
  ⟨some 12, none, .op (.mov (.t 66))⟩]
def weftlaw28_SymbolsTurned.l1 : ACode := .seq (.seq (.post [0, 5, 7, 8, 11, 12, 64] (.region weftlaw28_SymbolsTurned.r16)) (.post [0, 5, 7, 8, 11, 12] (.cond (.t 64) (.skip) (.exit 2)))) (.seq (.post [0, 5, 7, 8, 11, 12] (.block 3 (.seq (.post [0, 5, 7, 8, 11, 12] (.region weftlaw28_SymbolsTurned.r17)) (.seq (.post [0, 5, 7, 8, 11, 12, 13] (.region weftlaw28_SymbolsTurned.r18)) (.post [0, 5, 7, 8, 11, 12] (.block 4 (.loop weftlaw28_SymbolsTurned.l2))))))) (.post [0, 5, 7, 8, 11, 12] (.region weftlaw28_SymbolsTurned.r27)))
def weftlaw28_SymbolsTurned.r28 : List AStep := [
  ⟨some 159, none, .op (.mov (.t 7))⟩,
  ⟨some 160, none, .op (.bin .neq (.t 159) (.c (.i .i64 0)))⟩,
  ⟨some 161, none, .op (.mov (.t 160))⟩,
  ⟨some 162, (some (161, false)), .op (.mov (.t 11))⟩,
  ⟨some 163, (some (161, false)), .op (.mov (.t 5))⟩,
  ⟨some 164, (some (161, false)), .op (.len false (.t 163))⟩,
  ⟨some 165, (some (161, false)), .op (.bin .eql (.t 162) (.t 164))⟩,
  ⟨some 166, none, .op (.pick (.t 161) (.c (.b true)) (.t 165))⟩,
  ⟨some 2, none, .op (.mov (.t 166))⟩]
def weftlaw28_SymbolsTurned : AFunc := ⟨167, [.t 2], .seq (.post [0] (.region weftlaw28_SymbolsTurned.r0)) (.seq (.seq (.post [0, 16] (.region weftlaw28_SymbolsTurned.r1)) (.post [0] (.cond (.t 16) (.seq (.post [2] (.region weftlaw28_SymbolsTurned.r2)) (.ret)) (.skip)))) (.seq (.seq (.post [0, 18] (.region weftlaw28_SymbolsTurned.r3)) (.post [0] (.cond (.t 18) (.seq (.post [2] (.region weftlaw28_SymbolsTurned.r4)) (.ret)) (.skip)))) (.seq (.post [0, 3] (.region weftlaw28_SymbolsTurned.r5)) (.seq (.seq (.post [0, 3, 4] (.region weftlaw28_SymbolsTurned.r6)) (.post [0, 3] (.block 0 (.loop weftlaw28_SymbolsTurned.l0)))) (.seq (.post [0, 3, 5, 7] (.region weftlaw28_SymbolsTurned.r10)) (.seq (.post [0, 5, 7, 8, 10] (.region weftlaw28_SymbolsTurned.r11)) (.seq (.seq (.post [0, 5, 7, 8, 56] (.region weftlaw28_SymbolsTurned.r12)) (.post [0, 5, 7, 8] (.cond (.t 56) (.seq (.post [2] (.region weftlaw28_SymbolsTurned.r13)) (.ret)) (.skip)))) (.seq (.post [0, 5, 7, 8, 11] (.region weftlaw28_SymbolsTurned.r14)) (.seq (.seq (.post [0, 5, 7, 8, 11, 12] (.region weftlaw28_SymbolsTurned.r15)) (.post [5, 7, 11] (.block 2 (.loop weftlaw28_SymbolsTurned.l1)))) (.seq (.post [2] (.region weftlaw28_SymbolsTurned.r28)) (.ret)))))))))))⟩
theorem weftlaw28_SymbolsTurned.ok : okFunc Tryz.prog Tryz.f4 weftlaw28_SymbolsTurned = true := by kernel_rfl
theorem weftlaw28_SymbolsTurned.at : Tryz.prog.funcs[n_weftlaw28_SymbolsTurned]? = some Tryz.f4 := Tryz.func4
end C
end Go.Proofs.YtjajpilacdfnbaaGreatDoor
namespace Go.Proofs.YtjajpilacdfnbaaGreatDoor.Am
open Go Go.RowKit
set_option linter.unusedSimpArgs false
set_option linter.unusedVariables false
theorem Hp.wo_new {H H' : Hp} (h : H.Ext H') (hl : ∀ id blk, H.get id = some blk → id < H.next) : H.Ext (H'.wo fun id => H.next ≤ id) := ⟨h.1, fun id blk g => by
  have := hl id blk g
  simp only [Hp.wo]; rw [if_neg (by omega)]; exact h.2 id blk g⟩
section
variable {P : Program} {n : Nat} {Q : Post} {F : Fr} {H : Hp}
end
end Go.Proofs.YtjajpilacdfnbaaGreatDoor.Am
namespace Go.Proofs.YtjajpilacdfnbaaGreatDoor
open Am C
set_option linter.unusedSimpArgs false
set_option linter.unusedVariables false
theorem has_rev (l : List Su) (n : Str) : hasX l.reverse n = (hasX l n).reverse := by unfold hasX; rw [List.filterMap_reverse]
theorem dif_rev (X : List (Su × Th)) : difB X.reverse = difB X := by simp [difB]
theorem symE_rev (n : Str) (X : List (Su × Th)) : symE n X.reverse = symE n X := by
  have ef : ∀ p : Su → Bool, (X.reverse.map Prod.fst).filter p = ((X.map Prod.fst).filter p).reverse := fun p => by rw [List.map_reverse, List.filter_reverse]
  unfold symE gvs wns ows
  rw [dif_rev, ef, ef, ef]
  simp only [List.length_reverse, List.reverse_eq_nil_iff, ne_eq]
theorem allN_rev {l : List Su} {n : Str} : n ∈ allN l.reverse ↔ n ∈ allN l := by simp [allN]
theorem okL_rev {l : List Su} (h : okL l) : okL l.reverse := by
  refine ⟨by simpa using h.1, fun s hs => h.2.1 s (by simpa using hs), ?_, fun n hn => ?_⟩
  · rw [List.map_reverse]; exact List.pairwise_reverse.2 (List.Pairwise.imp (fun h => Ne.symm h) h.2.2.1)
  · rw [has_rev, symE_rev]; exact h.2.2.2 n (allN_rev.1 hn)
theorem gvs_one {n : Str} {X : List (Su × Th)} (h : symE n X = 0) : (gvs n X).length ≤ 1 := by
  unfold symE at h
  split at h
  · cases h
  · rename_i hh; omega
theorem givN_rev {n : Str} {X : List (Su × Th)} (h : (gvs n X).length ≤ 1) : givN n X.reverse = givN n X := by
  unfold givN
  have : gvs n X.reverse = (gvs n X).reverse := by unfold gvs; simp
  rw [this]
  match hg : gvs n X, h with
  | [], _ => rfl
  | [a], _ => rfl
theorem wanN_rev (n : Str) (X : List (Su × Th)) : wanN n X.reverse = wanN n X := sorted_mem fun x => by simp [wns]
theorem res_rev {l : List Su} (h : okL l) : resS l.reverse = resS l := by
  rw [res_ok.2 h, res_ok.2 (okL_rev h)]
  have e0 : sortedS (allN l.reverse) = sortedS (allN l) := sorted_mem fun x => allN_rev
  have e1 : ∀ n ∈ sortedS (allN l), givN n (hasX l.reverse n) = givN n (hasX l n) := fun n hn => by
    rw [has_rev]; exact givN_rev (gvs_one (h.2.2.2 n (mem_sortedS.1 hn)))
  rw [e0]
  have e2 : (sortedS (allN l)).filter (fun n => decide (givN n (hasX l.reverse n) ≠ [])) = (sortedS (allN l)).filter fun n => decide (givN n (hasX l n) ≠ []) :=
    List.filter_congr fun n hn => by rw [e1 n hn]
  rw [e2]
  refine congrArg (·, ([] : Str), (0 : Int)) (List.map_congr_left fun n hn => ?_)
  have hm := (List.mem_filter.1 hn).1
  unfold symS
  rw [e1 n hm, has_rev, wanN_rev]
theorem res_turn (l : List Su) : ((resS l).2.2 = 0 ↔ (resS l.reverse).2.2 = 0) ∧ (resS l).1.length = (resS l.reverse).1.length := by
  by_cases h : okL l
  · rw [res_rev h]; exact ⟨.rfl, rfl⟩
  · have h' : ¬ okL l.reverse := fun k => h (by have := okL_rev k; rwa [List.reverse_reverse] at this)
    refine ⟨⟨fun k => absurd (res_ok.1.1 k) h, fun k => absurd (res_ok.1.1 k) h'⟩, ?_⟩
    rw [res_bad h, res_bad h']
def toldB (L : List Sm) (n m : Str) (g : Bool) : Bool := match L.find? fun x => decide (x.name = n) with
  | some x => (g && decide (x.giver = m)) || (!g && decide (m ∈ x.wanted))
  | none => false
theorem ther_th {s : Sy} {n : Str} (h : therB s n = true) : ∃ t ∈ thsS s, thN t = n := by
  unfold therB at h
  rw [Bool.or_eq_true, List.any_eq_true, List.any_eq_true] at h
  rcases h with ⟨o, ho, e⟩ | ⟨f, hf, e⟩
  · exact ⟨.inl o, by simp [thsS, ho], by simpa [thN] using e⟩
  · exact ⟨.inr f, by simp [thsS, hf], by simpa [thN] using e⟩
theorem ther_has {l : List Su} {s : Su} {n : Str} (hs : s ∈ l) (h : therB s.sys n = true) : n ∈ allN l ∧ s ∈ (hasX l n).map Prod.fst := by
  obtain ⟨t, ht, e⟩ := ther_th h
  refine ⟨List.mem_flatMap.2 ⟨s, hs, List.mem_map.2 ⟨t, ht, e⟩⟩, ?_⟩
  cases hf : (thsS s.sys).find? fun t => decide (thN t = n) with
  | none => have := List.find?_eq_none.1 hf t ht; simp [e] at this
  | some u => exact List.mem_map.2 ⟨(s, u), List.mem_filterMap.2 ⟨s, hs, by rw [hf]; rfl⟩, rfl⟩
theorem find_sym {l : List Su} (h : okL l) {n : Str} (hn : n ∈ allN l) (hg : givN n (hasX l n) ≠ []) : (resS l).1.find? (fun x => decide (x.name = n)) = some (symS l n) := by
  rw [res_ok.2 h]
  have hm : n ∈ (sortedS (allN l)).filter fun n => decide (givN n (hasX l n) ≠ []) := List.mem_filter.2 ⟨mem_sortedS.2 hn, by simpa using hg⟩
  generalize (sortedS (allN l)).filter (fun n => decide (givN n (hasX l n) ≠ [])) = N at hm
  induction N with
  | nil => cases hm
  | cons m r ih =>
    simp only [List.map_cons, List.find?_cons]
    by_cases e : m = n
    · subst e; simp [symS]
    · have : decide ((symS l m).name = n) = false := decide_eq_false (by simpa [symS] using e)
      rw [this]
      exact ih ((List.mem_cons.1 hm).resolve_left (Ne.symm e))
theorem name_ne {s : Str} (h : nameB s = true) : s ≠ [] := (nameB_parts h).2.2.2
theorem giv_of {l : List Su} (h : okL l) {s : Su} (hs : s ∈ l) {n : Str} (hn : n ∈ allN l) (hx : s ∈ (hasX l n).map Prod.fst) (hg : n ∈ s.gives) : givN n (hasX l n) = s.name := by
  have h1 := gvs_one (h.2.2.2 n hn)
  have hm : s ∈ gvs n (hasX l n) := List.mem_filter.2 ⟨hx, by simpa [gvB] using hg⟩
  unfold givN
  match hq : gvs n (hasX l n), h1, hm with
  | [a], _, hm => simp at hm; subst hm; rfl
theorem told_g {l : List Su} (h : okL l) {s : Su} (hs : s ∈ l) {n : Str} (hg : n ∈ s.gives) : toldB (resS l).1 n s.name true = true := by
  have hk := su_ok (h.2.1 s hs)
  obtain ⟨hn, hx⟩ := ther_has hs (hk.2.2.1.2 n hg)
  have e := giv_of h hs hn hx hg
  unfold toldB
  rw [find_sym h hn (by rw [e]; exact name_ne hk.1)]
  simp [symS, e]
theorem wns_gvs {n : Str} {X : List (Su × Th)} (h : symE n X = 0) (hw : wns n X ≠ []) : gvs n X ≠ [] := by
  unfold symE at h
  split at h
  · cases h
  split at h
  · cases h
  split at h
  · cases h
  rename_i hh
  exact fun e => hh ⟨hw, e⟩
theorem giv_ne {l : List Su} (h : okL l) {n : Str} (hg : gvs n (hasX l n) ≠ []) : givN n (hasX l n) ≠ [] := by
  unfold givN
  cases hl : (gvs n (hasX l n)).getLast? with
  | none => rw [List.getLast?_eq_none_iff] at hl; exact absurd hl hg
  | some s =>
    have hm := List.mem_of_getLast? hl
    exact name_ne (su_ok (h.2.1 s (has_mem (List.mem_filter.1 hm).1))).1
theorem told_w {l : List Su} (h : okL l) {s : Su} (hs : s ∈ l) {n : Str} (hw : n ∈ s.wants) : toldB (resS l).1 n s.name false = true := by
  have hk := su_ok (h.2.1 s hs)
  obtain ⟨hn, hx⟩ := ther_has hs (hk.2.2.2.1.2 n hw)
  have hng : n ∉ s.gives := fun hg => hk.2.2.2.2 n hg hw
  have hm : s ∈ wns n (hasX l n) := List.mem_filter.2 ⟨hx, by simp [wnB, hng, hw]⟩
  have hg := wns_gvs (h.2.2.2 n hn) (List.ne_nil_of_mem hm)
  unfold toldB
  rw [find_sym h hn (giv_ne h hg)]
  simp [symS, wanN, mem_sortedS]
  exact ⟨s, hm, rfl⟩
theorem count_gives {l : List Su} (h : okL l) : (l.map fun s => s.gives.length).sum = (resS l).1.length := by
  rw [res_ok.2 h, List.length_map]
  have e1 : (l.map fun s => s.gives.length).sum = (l.flatMap Su.gives).length := by rw [List.length_flatMap]
  rw [e1]
  have nd : (l.flatMap Su.gives).Nodup := by
    refine List.pairwise_flatMap.2 ⟨fun s hs => ris_nodup (su_ok (h.2.1 s hs)).2.2.1.1, ?_⟩
    have hp : l.Pairwise fun a b => a.name ≠ b.name := by
      have := h.2.2.1
      unfold List.Nodup at this
      rwa [List.pairwise_map] at this
    refine (List.pairwise_iff_forall_sublist.2 fun {a b} hab => ?_)
    have hne := List.pairwise_iff_forall_sublist.1 hp hab
    have ha : a ∈ l := hab.subset (by simp)
    have hb : b ∈ l := hab.subset (by simp)
    intro n hna m hnb e
    subst e
    have ka := su_ok (h.2.1 a ha)
    have kb := su_ok (h.2.1 b hb)
    obtain ⟨hn, hx⟩ := ther_has ha (ka.2.2.1.2 n hna)
    obtain ⟨_, hy⟩ := ther_has hb (kb.2.2.1.2 n hnb)
    exact hne ((giv_of h ha hn hx hna).symm.trans (giv_of h hb hn hy hnb))
  refine List.Perm.length_eq ((List.perm_ext_iff_of_nodup nd ((ris_nodup (sortedS_rising _)).filter _)).2 fun n => ?_)
  rw [List.mem_flatMap, List.mem_filter, mem_sortedS]
  constructor
  · rintro ⟨s, hs, hg⟩
    have hk := su_ok (h.2.1 s hs)
    obtain ⟨hn, hx⟩ := ther_has hs (hk.2.2.1.2 n hg)
    exact ⟨hn, by rw [giv_of h hs hn hx hg]; simpa using name_ne hk.1⟩
  · rintro ⟨hn, hg⟩
    have hg' : givN n (hasX l n) ≠ [] := by simpa using hg
    unfold givN at hg'
    cases hl : (gvs n (hasX l n)).getLast? with
    | none => rw [hl] at hg'; exact absurd rfl hg'
    | some s =>
      have hm := List.mem_filter.1 (List.mem_of_getLast? hl)
      exact ⟨s, has_mem hm.1, by simpa [gvB] using hm.2⟩
end Go.Proofs.YtjajpilacdfnbaaGreatDoor
namespace Go.Proofs.YtjajpilacdfnbaaGreatDoor
open Am C
set_option linter.unusedSimpArgs false
set_option linter.unusedVariables false
def TlI (L : List Sm) (n m : Str) (g : Bool) (H : Hp) (q : Nat) (F : Fr) (X : Hp) : Prop :=
  ∃ i, i ≤ L.length ∧ q = L.length - i ∧ (L.take i).find? (fun x => decide (x.name = n)) = none ∧ X = H ∧ F = [(0, smV L), (1, .s n), (2, .s m), (3, .b g), (9, .i .i64 i)]
theorem told_ok (L : List Sm) (n m : Str) (g : Bool) (hl : L.length ≤ 1000000) (hw : ∀ x ∈ L, x.wanted.length ≤ 1000000) (H : Hp) : AC Tryz.prog n_weftlaw28_told [smV L, .s n, .s m, .b g] H (fun v H' => v = .b (toldB L n m g) ∧ H' = H) := by
  refine AC.code weftlaw28_told.at weftlaw28_told.ok ?_
  simp only [weftlaw28_told]
  refine AX.seq (AX.reg ?_)
  simp [weftlaw28_told.r0]
  refine AX.seq (AX.seq (AX.reg ?_))
  simp [weftlaw28_told.r1]
  refine AX.pblock (AX.loop (TlI L n m g H) L.length ⟨_, _, .refl _ _, 0, by omega, by omega, by simp, rfl, rfl⟩ ?_)
  rintro q F X ⟨i, hi, rfl, hf, rfl, rfl⟩
  simp only [weftlaw28_told.l0]
  refine AX.seq (AX.seq (AX.reg ?_))
  simp [weftlaw28_told.r2, smV]
  refine AX.pcond rfl (fun hd => AX.skip ?_) (fun hd => AX.exit ?_)
  · simp at hd
    have hg : L[i]? = some L[i] := List.getElem?_eq_getElem hd
    obtain ⟨e1, e2⟩ := find_take hd hf
    have hwl := hw _ (List.getElem_mem hd)
    generalize L[i] = x at *
    simp
    refine AX.seq (AX.pblock (AX.seq (AX.reg ?_)))
    simp [weftlaw28_told.r3, hg, smcs]
    refine AX.pcond rfl (fun hb => ?_) (fun hb => AX.skip ?_)
    · have e3 : toldB L n m g = ((g && decide (x.giver = m)) || (!g && decide (m ∈ x.wanted))) := by unfold toldB; rw [e1 hb]
      rw [e3]
      refine AX.seq (AX.reg ?_)
      cases g with
      | true =>
        by_cases h1 : x.giver = m
        · simp [weftlaw28_told.r4, hg, smcs, h1]
          refine AX.ret ?_
          simp
        · simp [weftlaw28_told.r4, hg, smcs, h1]
          refine AX.ret ?_
          simp
      | false =>
        simp [weftlaw28_told.r4, hg, smcs]
        refine AC.fix (Number_ok x.wanted m (by show x.wanted.length ≤ 9223372036854775807; omega) X) ?_
        simp [num_mem]
        refine AX.ret ?_
        simp
    simp
    refine AX.reg ?_
    simp [weftlaw28_told.r5, i64_succ (i := i) (by omega)]
    exact ⟨L.length - (i + 1), by omega, _, _, .refl _ _, i + 1, by omega, rfl, e2 hb, rfl, by simp [smV, smcs]⟩
  simp at hd
  rw [List.take_of_length_le hd] at hf
  simp
  refine AX.seq (AX.reg ?_)
  simp [weftlaw28_told.r6]
  refine AX.ret ?_
  simp [toldB, hf]
end Go.Proofs.YtjajpilacdfnbaaGreatDoor
