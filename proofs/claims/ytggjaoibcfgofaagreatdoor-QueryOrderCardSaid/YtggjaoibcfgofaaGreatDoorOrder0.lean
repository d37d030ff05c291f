/- What the law QueryOrder alone needs: CodeA, CodeB, OrdM2, QLaw2, QOrdL, QAll. -/
import Derived.Test.YtggjaoibcfgofaaGreatDoorProg
import Derived.Test.YtggjaoibcfgofaaGreatDoorW0
import Derived.Test.YtggjaoibcfgofaaGreatDoorW1
import Derived.Test.YtggjaoibcfgofaaGreatDoorW2
import Derived.Test.YtggjaoibcfgofaaGreatDoorW3
import Derived.Test.YtggjaoibcfgofaaGreatDoorW4
import Derived.Test.YtggjaoibcfgofaaGreatDoorW5
import Derived.Test.YtggjaoibcfgofaaGreatDoorW6
import Derived.Test.YtggjaoibcfgofaaGreatDoorW7
import Derived.Test.YtggjaoibcfgofaaGreatDoorW8
import Derived.Test.YtggjaoibcfgofaaGreatDoorW9
import Derived.Test.YtggjaoibcfgofaaGreatDoorW10
import Derived.Test.YtggjaoibcfgofaaGreatDoorW11
import Derived.Test.YtggjaoibcfgofaaGreatDoorW12
import Derived.Test.YtggjaoibcfgofaaGreatDoorW13
import Derived.Test.YtggjaoibcfgofaaGreatDoorW14
import Derived.Test.YtggjaoibcfgofaaGreatDoorW15
import Derived.Test.YtggjaoibcfgofaaGreatDoorW16
import Derived.Test.YtggjaoibcfgofaaGreatDoorW17
import Derived.Test.YtggjaoibcfgofaaGreatDoorW18
import Derived.Test.YtggjaoibcfgofaaGreatDoorW19
import Derived.Test.YtggjaoibcfgofaaGreatDoorW20
import Derived.Test.YtggjaoibcfgofaaGreatDoorW21
import Derived.Test.YtggjaoibcfgofaaGreatDoorW22
import Derived.Test.YtggjaoibcfgofaaGreatDoorW23
import Derived.Test.YtggjaoibcfgofaaGreatDoorW24
import Derived.Test.YtggjaoibcfgofaaGreatDoorW25
import Derived.Test.YtggjaoibcfgofaaGreatDoorW26
import Derived.Test.YtggjaoibcfgofaaGreatDoorW27
import Derived.Test.YtggjaoibcfgofaaGreatDoorW28
import Derived.Test.YtggjaoibcfgofaaGreatDoorW29
import Derived.Test.YtggjaoibcfgofaaGreatDoorW30
import Derived.Test.YtggjaoibcfgofaaGreatDoorW31
namespace Go.Proofs.YtggjaoibcfgofaaGreatDoor
open Am Go.Proofs
set_option maxRecDepth 100000
namespace C
def n_weftlaw32_place : FuncId := 24
def n_weftlaw32_QueryOrder : FuncId := 6
end C
end Go.Proofs.YtggjaoibcfgofaaGreatDoor
namespace Go.Proofs.YtggjaoibcfgofaaGreatDoor
open Am Go.Proofs
set_option maxRecDepth 100000
namespace C
def weftlaw32_place.r0 : List AStep := [
  ⟨some 4, none, .op (.mov (.c (.i .i64 0)))⟩]
def weftlaw32_place.r1 : List AStep := [
  ⟨some 5, none, .op (.mov (.c (.i .i64 (-1))))⟩,
  ⟨some 6, none, .op (.mov (.c (.i .i64 0)))⟩]
def weftlaw32_place.r2 : List AStep := [
  ⟨some 7, none, .op (.mov (.c (.i .i64 0)))⟩]
def weftlaw32_place.r3 : List AStep := [
  ⟨some 9, none, .op (.mov (.t 7))⟩,
  ⟨some 10, none, .op (.mov (.t 0))⟩,
  ⟨some 11, none, .op (.len false (.t 10))⟩,
  ⟨some 12, none, .op (.bin .lss (.t 9) (.t 11))⟩]
def weftlaw32_place.r4 : List AStep := [
  ⟨some 8, none, .op (.mov (.c (.i .i64 0)))⟩]
def weftlaw32_place.r5 : List AStep := [
  ⟨some 15, none, .op (.mov (.t 8))⟩,
  ⟨some 16, none, .op (.mov (.t 0))⟩,
  ⟨some 17, none, .op (.mov (.t 7))⟩,
  ⟨some 18, none, .op (.iad 1 (.t 16) (.t 17))⟩,
  ⟨some 19, none, .op (.load false 1 (.t 18))⟩,
  ⟨some 20, none, .op (.len false (.t 19))⟩,
  ⟨some 21, none, .op (.bin .lss (.t 15) (.t 20))⟩]
def weftlaw32_place.r6 : List AStep := [
  ⟨some 24, none, .op (.mov (.t 0))⟩,
  ⟨some 25, none, .op (.mov (.t 7))⟩,
  ⟨some 26, none, .op (.iad 1 (.t 24) (.t 25))⟩,
  ⟨some 27, none, .op (.load false 1 (.t 26))⟩,
  ⟨some 28, none, .op (.mov (.t 8))⟩,
  ⟨some 29, none, .op (.iad 1 (.t 27) (.t 28))⟩,
  ⟨some 30, none, .op (.load false 1 (.t 29))⟩,
  ⟨some 31, none, .op (.mov (.t 1))⟩,
  ⟨some 32, none, .op (.bin .eql (.t 30) (.t 31))⟩]
def weftlaw32_place.r7 : List AStep := [
  ⟨some 33, none, .op (.mov (.t 7))⟩,
  ⟨some 5, none, .op (.mov (.t 33))⟩]
def weftlaw32_place.r8 : List AStep := [
  ⟨some 34, none, .op (.mov (.t 6))⟩,
  ⟨some 35, none, .op (.bin .add (.t 34) (.c (.i .i64 1)))⟩,
  ⟨some 6, none, .op (.mov (.t 35))⟩]
def weftlaw32_place.r9 : List AStep := [
  ⟨some 22, none, .op (.mov (.t 8))⟩,
  ⟨some 23, none, .op (.bin .add (.t 22) (.c (.i .i64 1)))⟩,
  ⟨some 8, none, .op (.mov (.t 23))⟩]
def weftlaw32_place.l1 : ACode := .seq (.seq (.post [0, 1, 5, 6, 7, 8, 21] (.region weftlaw32_place.r5)) (.post [0, 1, 5, 6, 7, 8] (.cond (.t 21) (.skip) (.exit 2)))) (.seq (.post [0, 1, 5, 6, 7, 8] (.block 3 (.seq (.post [0, 1, 5, 6, 7, 8, 32] (.region weftlaw32_place.r6)) (.post [0, 1, 5, 6, 7, 8] (.cond (.t 32) (.seq (.post [0, 1, 5, 6, 7, 8] (.region weftlaw32_place.r7)) (.post [0, 1, 5, 6, 7, 8] (.region weftlaw32_place.r8))) (.skip)))))) (.post [0, 1, 5, 6, 7, 8] (.region weftlaw32_place.r9)))
def weftlaw32_place.r10 : List AStep := [
  ⟨some 13, none, .op (.mov (.t 7))⟩,
  ⟨some 14, none, .op (.bin .add (.t 13) (.c (.i .i64 1)))⟩,
  ⟨some 7, none, .op (.mov (.t 14))⟩]
def weftlaw32_place.l0 : ACode := .seq (.seq (.post [0, 1, 5, 6, 7, 12] (.region weftlaw32_place.r3)) (.post [0, 1, 5, 6, 7] (.cond (.t 12) (.skip) (.exit 0)))) (.seq (.post [0, 1, 5, 6, 7] (.block 1 (.seq (.post [0, 1, 5, 6, 7, 8] (.region weftlaw32_place.r4)) (.post [0, 1, 5, 6, 7] (.block 2 (.loop weftlaw32_place.l1)))))) (.post [0, 1, 5, 6, 7] (.region weftlaw32_place.r10)))
def weftlaw32_place.r11 : List AStep := [
  ⟨some 36, none, .op (.mov (.t 6))⟩,
  ⟨some 37, none, .op (.bin .neq (.t 36) (.c (.i .i64 1)))⟩]
def weftlaw32_place.r12 : List AStep := [
  ⟨some 4, none, .op (.mov (.c (.i .i64 (-1))))⟩]
def weftlaw32_place.r13 : List AStep := [
  ⟨some 38, none, .op (.mov (.t 5))⟩,
  ⟨some 4, none, .op (.mov (.t 38))⟩]
def weftlaw32_place : AFunc := ⟨39, [.t 4], .seq (.post [0, 1] (.region weftlaw32_place.r0)) (.seq (.post [0, 1, 5, 6] (.region weftlaw32_place.r1)) (.seq (.seq (.post [0, 1, 5, 6, 7] (.region weftlaw32_place.r2)) (.post [5, 6] (.block 0 (.loop weftlaw32_place.l0)))) (.seq (.seq (.post [5, 37] (.region weftlaw32_place.r11)) (.post [5] (.cond (.t 37) (.seq (.post [4] (.region weftlaw32_place.r12)) (.ret)) (.skip)))) (.seq (.post [4] (.region weftlaw32_place.r13)) (.ret)))))⟩
theorem weftlaw32_place.ok : okFunc Tryz.prog Tryz.f24 weftlaw32_place = true := by kernel_rfl
theorem weftlaw32_place.at : Tryz.prog.funcs[n_weftlaw32_place]? = some Tryz.f24 := Tryz.func24
def weftlaw32_QueryOrder.r0 : List AStep := [
  ⟨some 2, none, .op (.mov (.c (.b false)))⟩]
def weftlaw32_QueryOrder.r1 : List AStep := [
  ⟨some 11, none, .call n_weftlaw32_works []⟩,
  ⟨some 12, none, .op (.un .not (.t 11))⟩]
def weftlaw32_QueryOrder.r2 : List AStep := [
  ⟨some 2, none, .op (.mov (.c (.b false)))⟩]
def weftlaw32_QueryOrder.r3 : List AStep := [
  ⟨some 13, none, .op (.mov (.t 0))⟩,
  ⟨some 14, none, .call n_weftlaw32_greatEdges [.t 13]⟩]
def weftlaw32_QueryOrder.r4 : List AStep := [
  ⟨some 2, none, .op (.mov (.c (.b true)))⟩]
def weftlaw32_QueryOrder.r5 : List AStep := [
  ⟨some 15, none, .op (.mov (.t 0))⟩,
  ⟨some 16, none, .call n_weftlaw32_edges [.t 15]⟩,
  ⟨some 17, none, .call n_query_Order [.t 16]⟩,
  ⟨some 3, none, .op (.mov (.t 17))⟩]
def weftlaw32_QueryOrder.r6 : List AStep := [
  ⟨some 4, none, .op (.mov (.c (.i .i64 0)))⟩]
def weftlaw32_QueryOrder.r7 : List AStep := [
  ⟨some 18, none, .op (.mov (.t 4))⟩,
  ⟨some 19, none, .op (.mov (.t 0))⟩,
  ⟨some 20, none, .op (.len false (.t 19))⟩,
  ⟨some 21, none, .op (.bin .lss (.t 18) (.t 20))⟩]
def weftlaw32_QueryOrder.r8 : List AStep := [
  ⟨some 24, none, .op (.mov (.t 3))⟩,
  ⟨some 25, none, .op (.mov (.t 0))⟩,
  ⟨some 26, none, .op (.mov (.t 4))⟩,
  ⟨some 27, none, .op (.iad 2 (.t 25) (.t 26))⟩,
  ⟨some 28, none, .op (.fadr 0 (.t 27))⟩,
  ⟨some 29, none, .op (.load false 1 (.t 28))⟩,
  ⟨some 30, none, .call n_weftlaw32_place [.t 24, .t 29]⟩,
  ⟨some 31, none, .op (.mov (.t 3))⟩,
  ⟨some 32, none, .op (.mov (.t 0))⟩,
  ⟨some 33, none, .op (.mov (.t 4))⟩,
  ⟨some 34, none, .op (.iad 2 (.t 32) (.t 33))⟩,
  ⟨some 35, none, .op (.fadr 1 (.t 34))⟩,
  ⟨some 36, none, .op (.load false 1 (.t 35))⟩,
  ⟨some 37, none, .call n_weftlaw32_place [.t 31, .t 36]⟩,
  ⟨some 5, none, .op (.mov (.t 30))⟩,
  ⟨some 6, none, .op (.mov (.t 37))⟩]
def weftlaw32_QueryOrder.r9 : List AStep := [
  ⟨some 38, none, .op (.mov (.t 5))⟩,
  ⟨some 39, none, .op (.bin .lss (.t 38) (.c (.i .i64 0)))⟩,
  ⟨some 40, none, .op (.mov (.t 39))⟩,
  ⟨some 41, (some (40, false)), .op (.mov (.t 6))⟩,
  ⟨some 42, (some (40, false)), .op (.bin .lss (.t 41) (.c (.i .i64 0)))⟩,
  ⟨some 43, none, .op (.pick (.t 40) (.c (.b true)) (.t 42))⟩,
  ⟨some 44, none, .op (.mov (.t 43))⟩,
  ⟨some 45, (some (44, false)), .op (.mov (.t 6))⟩,
  ⟨some 46, (some (44, false)), .op (.mov (.t 5))⟩,
  ⟨some 47, (some (44, false)), .op (.bin .gtr (.t 45) (.t 46))⟩,
  ⟨some 48, none, .op (.pick (.t 44) (.c (.b true)) (.t 47))⟩]
def weftlaw32_QueryOrder.r10 : List AStep := [
  ⟨some 2, none, .op (.mov (.c (.b false)))⟩]
def weftlaw32_QueryOrder.r11 : List AStep := [
  ⟨some 22, none, .op (.mov (.t 4))⟩,
  ⟨some 23, none, .op (.bin .add (.t 22) (.c (.i .i64 1)))⟩,
  ⟨some 4, none, .op (.mov (.t 23))⟩]
def weftlaw32_QueryOrder.l0 : ACode := .seq (.seq (.post [0, 3, 4, 21] (.region weftlaw32_QueryOrder.r7)) (.post [0, 3, 4] (.cond (.t 21) (.skip) (.exit 0)))) (.seq (.post [0, 3, 4] (.block 1 (.seq (.post [0, 3, 4, 5, 6] (.draw [0, 0, 0, 6, 14, 30, 63, 0, 0, 0, 768, 1792, 3840, 8191, 16383, 32767] weftlaw32_QueryOrder.r8)) (.seq (.post [0, 3, 4, 48] (.region weftlaw32_QueryOrder.r9)) (.post [0, 3, 4] (.cond (.t 48) (.seq (.post [2] (.region weftlaw32_QueryOrder.r10)) (.ret)) (.skip))))))) (.post [0, 3, 4] (.region weftlaw32_QueryOrder.r11)))
def weftlaw32_QueryOrder.r12 : List AStep := [
  ⟨some 7, none, .op (.mov (.c (.i .i64 0)))⟩]
def weftlaw32_QueryOrder.r13 : List AStep := [
  ⟨some 49, none, .op (.mov (.t 7))⟩,
  ⟨some 50, none, .op (.mov (.t 3))⟩,
  ⟨some 51, none, .op (.len false (.t 50))⟩,
  ⟨some 52, none, .op (.bin .lss (.t 49) (.t 51))⟩]
def weftlaw32_QueryOrder.r14 : List AStep := [
  ⟨some 8, none, .op (.mov (.c (.i .i64 0)))⟩]
def weftlaw32_QueryOrder.r15 : List AStep := [
  ⟨some 55, none, .op (.mov (.t 8))⟩,
  ⟨some 56, none, .op (.mov (.t 3))⟩,
  ⟨some 57, none, .op (.mov (.t 7))⟩,
  ⟨some 58, none, .op (.iad 1 (.t 56) (.t 57))⟩,
  ⟨some 59, none, .op (.load false 1 (.t 58))⟩,
  ⟨some 60, none, .op (.len false (.t 59))⟩,
  ⟨some 61, none, .op (.bin .lss (.t 55) (.t 60))⟩]
def weftlaw32_QueryOrder.r16 : List AStep := [
  ⟨some 64, none, .op (.mov (.t 0))⟩,
  ⟨some 65, none, .call n_weftlaw32_edges [.t 64]⟩,
  ⟨some 66, none, .op (.mov (.t 3))⟩,
  ⟨some 67, none, .op (.mov (.t 7))⟩,
  ⟨some 68, none, .op (.iad 1 (.t 66) (.t 67))⟩,
  ⟨some 69, none, .op (.load false 1 (.t 68))⟩,
  ⟨some 70, none, .op (.mov (.t 8))⟩,
  ⟨some 71, none, .op (.mov (.t 8))⟩,
  ⟨some 72, none, .op (.bin .add (.t 71) (.c (.i .i64 1)))⟩,
  ⟨some 73, none, .op (.slc 1 (.t 69) (some (.t 70)) (some (.t 72)))⟩,
  ⟨some 74, none, .call n_query_Reach [.t 65, .t 73]⟩,
  ⟨some 9, none, .op (.mov (.t 74))⟩]
def weftlaw32_QueryOrder.r17 : List AStep := [
  ⟨some 10, none, .op (.mov (.c (.i .i64 0)))⟩]
def weftlaw32_QueryOrder.r18 : List AStep := [
  ⟨some 75, none, .op (.mov (.t 10))⟩,
  ⟨some 76, none, .op (.mov (.t 3))⟩,
  ⟨some 77, none, .op (.mov (.t 7))⟩,
  ⟨some 78, none, .op (.iad 1 (.t 76) (.t 77))⟩,
  ⟨some 79, none, .op (.load false 1 (.t 78))⟩,
  ⟨some 80, none, .op (.len false (.t 79))⟩,
  ⟨some 81, none, .op (.bin .lss (.t 75) (.t 80))⟩]
def weftlaw32_QueryOrder.r19 : List AStep := [
  ⟨some 84, none, .op (.mov (.t 9))⟩,
  ⟨some 85, none, .op (.bfz 1 1 [.sl none 0 0] [(0, 1, .t 84)])⟩,
  ⟨some 86, none, .op (.mov (.t 3))⟩,
  ⟨some 87, none, .op (.mov (.t 7))⟩,
  ⟨some 88, none, .op (.iad 1 (.t 86) (.t 87))⟩,
  ⟨some 89, none, .op (.load false 1 (.t 88))⟩,
  ⟨some 90, none, .op (.mov (.t 10))⟩,
  ⟨some 91, none, .op (.iad 1 (.t 89) (.t 90))⟩,
  ⟨some 92, none, .op (.load false 1 (.t 91))⟩,
  ⟨some 93, none, .call n_weftlaw32_place [.t 85, .t 92]⟩,
  ⟨some 94, none, .op (.bin .lss (.t 93) (.c (.i .i64 0)))⟩]
def weftlaw32_QueryOrder.r20 : List AStep := [
  ⟨some 2, none, .op (.mov (.c (.b false)))⟩]
def weftlaw32_QueryOrder.r21 : List AStep := [
  ⟨some 82, none, .op (.mov (.t 10))⟩,
  ⟨some 83, none, .op (.bin .add (.t 82) (.c (.i .i64 1)))⟩,
  ⟨some 10, none, .op (.mov (.t 83))⟩]
def weftlaw32_QueryOrder.l3 : ACode := .seq (.seq (.post [0, 3, 7, 8, 9, 10, 81] (.region weftlaw32_QueryOrder.r18)) (.post [0, 3, 7, 8, 9, 10] (.cond (.t 81) (.skip) (.exit 6)))) (.seq (.post [0, 3, 7, 8, 9, 10] (.block 7 (.seq (.post [0, 3, 7, 8, 9, 10, 94] (.region weftlaw32_QueryOrder.r19)) (.post [0, 3, 7, 8, 9, 10] (.cond (.t 94) (.seq (.post [2] (.region weftlaw32_QueryOrder.r20)) (.ret)) (.skip)))))) (.post [0, 3, 7, 8, 9, 10] (.region weftlaw32_QueryOrder.r21)))
def weftlaw32_QueryOrder.r22 : List AStep := [
  ⟨some 62, none, .op (.mov (.t 8))⟩,
  ⟨some 63, none, .op (.bin .add (.t 62) (.c (.i .i64 1)))⟩,
  ⟨some 8, none, .op (.mov (.t 63))⟩]
def weftlaw32_QueryOrder.l2 : ACode := .seq (.seq (.post [0, 3, 7, 8, 61] (.region weftlaw32_QueryOrder.r15)) (.post [0, 3, 7, 8] (.cond (.t 61) (.skip) (.exit 4)))) (.seq (.post [0, 3, 7, 8] (.block 5 (.seq (.post [0, 3, 7, 8, 9] (.draw [0, 1, 0, 0, 12, 28, 0, 0, 128, 508, 1023, 2047] weftlaw32_QueryOrder.r16)) (.seq (.post [0, 3, 7, 8, 9, 10] (.region weftlaw32_QueryOrder.r17)) (.post [0, 3, 7, 8] (.block 6 (.loop weftlaw32_QueryOrder.l3))))))) (.post [0, 3, 7, 8] (.region weftlaw32_QueryOrder.r22)))
def weftlaw32_QueryOrder.r23 : List AStep := [
  ⟨some 53, none, .op (.mov (.t 7))⟩,
  ⟨some 54, none, .op (.bin .add (.t 53) (.c (.i .i64 1)))⟩,
  ⟨some 7, none, .op (.mov (.t 54))⟩]
def weftlaw32_QueryOrder.l1 : ACode := .seq (.seq (.post [0, 3, 7, 52] (.region weftlaw32_QueryOrder.r13)) (.post [0, 3, 7] (.cond (.t 52) (.skip) (.exit 2)))) (.seq (.post [0, 3, 7] (.block 3 (.seq (.post [0, 3, 7, 8] (.region weftlaw32_QueryOrder.r14)) (.post [0, 3, 7] (.block 4 (.loop weftlaw32_QueryOrder.l2)))))) (.post [0, 3, 7] (.region weftlaw32_QueryOrder.r23)))
def weftlaw32_QueryOrder.r24 : List AStep := [
  ⟨some 2, none, .op (.mov (.c (.b true)))⟩]
def weftlaw32_QueryOrder : AFunc := ⟨95, [.t 2], .seq (.post [0] (.region weftlaw32_QueryOrder.r0)) (.seq (.seq (.post [0, 12] (.region weftlaw32_QueryOrder.r1)) (.post [0] (.cond (.t 12) (.seq (.post [2] (.region weftlaw32_QueryOrder.r2)) (.ret)) (.skip)))) (.seq (.seq (.post [0, 14] (.region weftlaw32_QueryOrder.r3)) (.post [0] (.cond (.t 14) (.seq (.post [2] (.region weftlaw32_QueryOrder.r4)) (.ret)) (.skip)))) (.seq (.post [0, 3] (.region weftlaw32_QueryOrder.r5)) (.seq (.seq (.post [0, 3, 4] (.region weftlaw32_QueryOrder.r6)) (.post [0, 3] (.block 0 (.loop weftlaw32_QueryOrder.l0)))) (.seq (.seq (.post [0, 3, 7] (.region weftlaw32_QueryOrder.r12)) (.post [] (.block 2 (.loop weftlaw32_QueryOrder.l1)))) (.seq (.post [2] (.region weftlaw32_QueryOrder.r24)) (.ret)))))))⟩
theorem weftlaw32_QueryOrder.ok : okFunc Tryz.prog Tryz.f6 weftlaw32_QueryOrder = true := by kernel_rfl
theorem weftlaw32_QueryOrder.at : Tryz.prog.funcs[n_weftlaw32_QueryOrder]? = some Tryz.f6 := Tryz.func6
end C
end Go.Proofs.YtggjaoibcfgofaaGreatDoor
namespace Go.Proofs.YtggjaoibcfgofaaGreatDoor
open Am
set_option linter.unusedSimpArgs false
set_option linter.unusedVariables false
section
variable {l : List (Str × Str)}
theorem orderS_at {t : Nat} {p : List Str} (h : (orderS l)[t]? = some p) : ∃ q, (ordOf (namesS l []) (numE (namesS l []) l))[t]? = some q ∧ p = nmS (namesS l []) q := by
  simp only [orderS, List.getElem?_map, Option.map_eq_some_iff] at h
  obtain ⟨q, h1, h2⟩ := h
  exact ⟨q, h1, h2.symm⟩
theorem ord_lt {q : List Nat} (hq : q ∈ ordOf (namesS l []) (numE (namesS l []) l)) : ∀ j ∈ q, j < (namesS l []).length := fun j hj => by
  obtain ⟨i, _, rfl⟩ := (ordJ l).cls q hq
  exact (mem_class.1 hj).1
theorem getD_inj {all : List Str} (h : Rising all) {i j : Nat} (hi : i < all.length) (hj : j < all.length) (e : all.getD i [] = all.getD j []) : i = j := by
  rcases Nat.lt_trichotomy i j with hlt | rfl | hlt
  · have := getD_lt h hlt hj; rw [e] at this; exact absurd this (ltB_irr _)
  · rfl
  · have := getD_lt h hlt hi; rw [e] at this; exact absurd this (ltB_irr _)
theorem mem_nm {q : List Nat} (hq : q ∈ ordOf (namesS l []) (numE (namesS l []) l)) {x : Str} : x ∈ nmS (namesS l []) q ↔ x ∈ namesS l [] ∧ posS (namesS l []) x ∈ q := by
  have hr := namesS_rising l []
  simp only [nmS, List.mem_map]
  constructor
  · rintro ⟨j, hj, rfl⟩
    have hjl := ord_lt hq j hj
    have hm : (namesS l []).getD j [] ∈ namesS l [] := by
      rw [List.getD_eq_getElem?_getD, List.getElem?_eq_getElem hjl]; exact List.getElem_mem hjl
    refine ⟨hm, ?_⟩
    have := getD_inj hr (posS_len hr hm) hjl (getD_pos hr hm)
    rw [this]; exact hj
  · rintro ⟨hx, hp⟩
    exact ⟨_, hp, getD_pos hr hx⟩
theorem order_at (hcov : ∀ x, x < (namesS l []).length → ∃ p ∈ ordOf (namesS l []) (numE (namesS l []) l), x ∈ p) {x : Str} (hx : x ∈ namesS l []) : ∃ (t : Nat) (p : List Str), (orderS l)[t]? = some p ∧ x ∈ p := by
  have hr := namesS_rising l []
  obtain ⟨q, hq, hm⟩ := hcov _ (posS_len hr hx)
  obtain ⟨t, ht⟩ := List.mem_iff_getElem?.1 hq
  exact ⟨t, nmS (namesS l []) q, by simp [orderS, ht], (mem_nm hq).2 ⟨hx, hm⟩⟩
theorem order_uniq {t s : Nat} {p q : List Str} {x : Str} (ht : (orderS l)[t]? = some p) (hs : (orderS l)[s]? = some q) (hx : x ∈ p) (hy : x ∈ q) : t = s := by
  obtain ⟨p', h1, rfl⟩ := orderS_at ht
  obtain ⟨q', h2, rfl⟩ := orderS_at hs
  exact (ordJ l).disj t s p' q' _ h1 h2 ((mem_nm (List.mem_of_getElem? h1)).1 hx).2 ((mem_nm (List.mem_of_getElem? h2)).1 hy).2
theorem order_rising {t : Nat} {p : List Str} (ht : (orderS l)[t]? = some p) : Rising p := by
  obtain ⟨q, h1, rfl⟩ := orderS_at ht
  have hq := List.mem_of_getElem? h1
  obtain ⟨i, _, rfl⟩ := (ordJ l).cls q hq
  exact nmS_rising (namesS_rising l []) (List.Pairwise.filter _ List.pairwise_lt_range) (ord_lt hq)
theorem order_edge {e : Str × Str} (he : e ∈ l) {t s : Nat} {p q : List Str} (ht : (orderS l)[t]? = some p) (h1 : e.1 ∈ p) (hs : (orderS l)[s]? = some q) (h2 : e.2 ∈ q) : s ≤ t := by
  obtain ⟨p', a1, rfl⟩ := orderS_at ht
  obtain ⟨q', a2, rfl⟩ := orderS_at hs
  have hm := names_edges l [] e he
  have hr := namesS_rising l []
  obtain ⟨s', q2, b1, b2, b3⟩ := (ordJ l).ord t p' _ (posS (namesS l []) e.2) a1 ((mem_nm (List.mem_of_getElem? a1)).1 h1).2 (posS_len hr hm.2) (warS_edge _ (mem_adj.2 (mem_numE.2 ⟨e, he, rfl, rfl⟩)) _)
  have := (ordJ l).disj s s' q' q2 _ a2 b2 ((mem_nm (List.mem_of_getElem? a2)).1 h2).2 b3
  omega
theorem order_reach {t : Nat} {p : List Str} (ht : (orderS l)[t]? = some p) {x y : Str} (hx : x ∈ p) (hy : y ∈ p) : y ∈ reachS l [x] := by
  obtain ⟨q, h1, rfl⟩ := orderS_at ht
  have hq := List.mem_of_getElem? h1
  obtain ⟨x1, x2⟩ := (mem_nm hq).1 hx
  obtain ⟨y1, y2⟩ := (mem_nm hq).1 hy
  obtain ⟨i, _, rfl⟩ := (ordJ l).cls q hq
  have a := mem_class.1 x2
  have b := mem_class.1 y2
  have hw := fun a b => warS_iff (a := a) (b := b) (numE (namesS l []) l) (numE_lt l [])
  have hr := namesS_rising l []
  have := rch_from hr (names_edges l []) x1 (((hw _ _).1 a.2.2).trans ((hw _ _).1 b.2.1))
  rw [getD_pos hr y1] at this
  exact mem_reachS.2 ⟨x, by simp, this⟩
end
end Go.Proofs.YtggjaoibcfgofaaGreatDoor
namespace Go.Proofs.YtggjaoibcfgofaaGreatDoor
open Am C Go.Proofs
set_option linter.unusedSimpArgs false
set_option linter.unusedVariables false
def Pl0Inv (o : List (List Str)) (x : Str) (t : Nat) (H : Hp) (m : Nat) (F : Fr) (X : Hp) : Prop :=
  ∃ i, i ≤ o.length ∧ m = o.length - i ∧ X = H ∧ F = [(0, ssV o), (1, .s x), (5, .i .i64 (if t < i then (t : Int) else -1)), (6, .i .i64 (if t < i then 1 else 0)), (7, .i .i64 i)]
def Pl1Inv (o : List (List Str)) (p : List Str) (x : Str) (t i : Nat) (H : Hp) (m : Nat) (F : Fr) (X : Hp) : Prop :=
  ∃ k, k ≤ p.length ∧ m = p.length - k ∧ X = H ∧ F = [(0, ssV o), (1, .s x), (5, .i .i64 (if t < i ∨ x ∈ p.take k then (t : Int) else -1)), (6, .i .i64 (if t < i ∨ x ∈ p.take k then 1 else 0)), (7, .i .i64 i), (8, .i .i64 k)]
theorem place_ok32 (o : List (List Str)) (x : Str) (t : Nat) (p : List Str) (ho : o.length ≤ 1000000) (hpl : ∀ p ∈ o, p.length ≤ 1000000) (ht : o[t]? = some p) (hx : x ∈ p) (hr : Rising p) (hu : ∀ (s : Nat) (q : List Str), o[s]? = some q → x ∈ q → s = t) (H : Hp) :
    AC Tryz.prog n_weftlaw32_place [ssV o, .s x] H (fun v H' => v = .i .i64 (t : Nat) ∧ H' = H) := by
  refine AC.code weftlaw32_place.at weftlaw32_place.ok ?_
  simp only [weftlaw32_place]
  have htl := (List.getElem?_eq_some_iff.1 ht).1
  refine AX.seq (AX.reg ?_)
  simp [weftlaw32_place.r0]
  refine AX.seq (AX.reg ?_)
  simp [weftlaw32_place.r1]
  refine AX.seq (AX.seq (AX.reg ?_))
  simp [weftlaw32_place.r2]
  refine AX.pblock (AX.loop (Pl0Inv o x t H) o.length ⟨_, _, .refl _ _, 0, by omega, by omega, rfl, by simp⟩ ?_)
  rintro m F X ⟨i, hi, rfl, rfl, rfl⟩
  simp only [weftlaw32_place.l0]
  refine AX.seq (AX.seq (AX.reg ?_))
  simp [weftlaw32_place.r3, ssV]
  refine AX.pcond rfl (fun hc => AX.skip ?_) (fun hc => AX.exit ?_)
  · simp at hc
    have hil := hpl _ (List.getElem_mem hc)
    have hig : o[i]? = some o[i] := List.getElem?_eq_getElem hc
    simp
    refine AX.seq (AX.pblock (AX.seq (AX.reg ?_)))
    simp [weftlaw32_place.r4]
    refine AX.pblock (AX.loop (Pl1Inv o o[i] x t i X) o[i].length ⟨_, _, .refl _ _, 0, by omega, by omega, rfl, by simp [ssV]⟩ ?_)
    rintro m F Y ⟨k, hk, rfl, rfl, rfl⟩
    simp only [weftlaw32_place.l1]
    refine AX.seq (AX.seq (AX.reg ?_))
    simp [weftlaw32_place.r5, ssV, hc, ss]
    refine AX.pcond rfl (fun hc2 => AX.skip ?_) (fun hc2 => AX.exit ?_)
    · simp at hc2
      have hkg : (o[i])[k]? = some (o[i])[k] := List.getElem?_eq_getElem hc2
      have htk : ∀ z, z ∈ o[i].take (k + 1) ↔ z ∈ o[i].take k ∨ z = o[i][k] := fun z => take_mem hkg
      simp
      refine AX.seq (AX.pblock (AX.seq (AX.reg ?_)))
      simp [weftlaw32_place.r6, ssV, hc, ss, hc2]
      by_cases he : o[i][k] = x
      · have hit : i = t := hu i _ hig (he ▸ List.getElem_mem hc2)
        have hnt : ¬ (t < i ∨ x ∈ o[i].take k) := by
          rintro (h | h)
          · omega
          · subst hit
            rw [ht] at hig; injection hig with hig; rw [hig] at hr
            obtain ⟨j, hj⟩ := List.mem_iff_getElem?.1 h
            rw [List.getElem?_take] at hj
            split at hj
            · rename_i hjk
              have hjl := (List.getElem?_eq_some_iff.1 hj).1
              have := List.pairwise_iff_getElem.1 hr j k hjl hc2 hjk
              rw [(List.getElem?_eq_some_iff.1 hj).2, he] at this
              exact ltB_irr _ this
            · cases hj
        refine AX.pcond (t := true) (by simp [he]) (fun _ => AX.seq (AX.reg ?_)) (fun h => by simp at h)
        simp [weftlaw32_place.r7]
        refine AX.reg ?_
        rw [if_neg hnt]
        have e1 : Go.IntKind.i64.wrap (1 : Int) = 1 := wrap_i64 (by omega) (by omega)
        simp [weftlaw32_place.r8, e1]
        refine AX.reg ?_
        simp [weftlaw32_place.r9, i64_succ (show k ≤ 9223372036854775000 by omega)]
        refine ⟨o[i].length - (k + 1), by omega, _, _, .refl _ _, k + 1, by omega, rfl, rfl, ?_⟩
        have hm : x ∈ o[i].take (k + 1) := (htk x).2 (.inr he.symm)
        simp only [hm, or_true, if_true]
        simp [ssV, ss, hit]
      · refine AX.pcond (t := false) (by simp [he]) (fun h => by simp at h) (fun _ => AX.skip ?_)
        simp
        refine AX.reg ?_
        simp [weftlaw32_place.r9, i64_succ (show k ≤ 9223372036854775000 by omega)]
        refine ⟨o[i].length - (k + 1), by omega, _, _, .refl _ _, k + 1, by omega, rfl, rfl, ?_⟩
        have : (t < i ∨ x ∈ o[i].take (k + 1)) ↔ (t < i ∨ x ∈ o[i].take k) := by
          rw [htk]
          exact or_congr_right ⟨fun h => h.resolve_right fun e => he e.symm, .inl⟩
        simp only [this]
        simp [ssV, ss]
    simp at hc2
    simp
    refine AX.reg ?_
    simp [weftlaw32_place.r10, i64_succ (show i ≤ 9223372036854775000 by omega)]
    refine ⟨o.length - (i + 1), by omega, _, _, .refl _ _, i + 1, by omega, rfl, rfl, ?_⟩
    have hiff : (t < i ∨ x ∈ o[i].take k) ↔ t < i + 1 := by
      rw [List.take_of_length_le (by omega)]
      constructor
      · rintro (h | h)
        · omega
        · have := hu i _ hig h; omega
      · intro h
        by_cases e : i = t
        · subst e; rw [ht] at hig; injection hig with hig; rw [← hig]; exact .inr hx
        · left; omega
    simp only [hiff]
    simp [ssV, ss]
  simp at hc
  simp
  rw [if_pos (show t < i by omega), if_pos (show t < i by omega)]
  refine AX.seq (AX.seq (AX.reg ?_))
  simp [weftlaw32_place.r11]
  refine AX.pcond (t := false) rfl (fun h => by simp at h) (fun _ => AX.skip ?_)
  simp
  refine AX.seq (AX.reg ?_)
  simp [weftlaw32_place.r13]
  refine AX.ret ?_
  simp
end Go.Proofs.YtggjaoibcfgofaaGreatDoor
namespace Go.Proofs.YtggjaoibcfgofaaGreatDoor
open Am C Go.Proofs
set_option linter.unusedSimpArgs false
set_option linter.unusedVariables false
def QO0Inv (l : List (Str × Str)) (o : List (List Str)) (H : Hp) (m : Nat) (F : Fr) (X : Hp) : Prop :=
  ∃ i, i ≤ l.length ∧ m = l.length - i ∧ X = H ∧ F = [(0, edV l), (3, ssV o), (4, .i .i64 i)]
def QO1Inv (l : List (Str × Str)) (o : List (List Str)) (H : Hp) (m : Nat) (F : Fr) (X : Hp) : Prop :=
  ∃ i, i ≤ o.length ∧ m = o.length - i ∧ X = H ∧ F = [(0, edV l), (3, ssV o), (7, .i .i64 i)]
def QO2Inv (l : List (Str × Str)) (o : List (List Str)) (p : List Str) (i : Nat) (H : Hp) (m : Nat) (F : Fr) (X : Hp) : Prop :=
  ∃ k, k ≤ p.length ∧ m = p.length - k ∧ X = H ∧ F = [(0, edV l), (3, ssV o), (7, .i .i64 i), (8, .i .i64 k)]
def QO3Inv (l : List (Str × Str)) (o : List (List Str)) (p r : List Str) (i k : Nat) (H : Hp) (m : Nat) (F : Fr) (X : Hp) : Prop :=
  ∃ j, j ≤ p.length ∧ m = p.length - j ∧ X = H ∧ F = [(0, edV l), (3, ssV o), (7, .i .i64 i), (8, .i .i64 k), (9, ss r), (10, .i .i64 j)]
theorem QueryOrder_ok (l : List (Str × Str)) (H : Hp) : AC Tryz.prog n_weftlaw32_QueryOrder [edV l] H (fun v H' => v = .b true) := by
  refine AC.code weftlaw32_QueryOrder.at weftlaw32_QueryOrder.ok ?_
  simp only [weftlaw32_QueryOrder]
  refine AX.seq (AX.reg ?_)
  simp [weftlaw32_QueryOrder.r0]
  refine AX.seq (AX.seq (AX.reg ?_))
  simp [weftlaw32_QueryOrder.r1]
  refine AC.fix (works_ok _) ?_
  simp
  refine AX.pcond (t := false) rfl (fun h => by simp at h) (fun _ => AX.skip ?_)
  simp
  refine AX.seq (AX.seq (AX.reg ?_))
  simp [weftlaw32_QueryOrder.r3]
  refine (greatEdges_ok l H).mono ?_
  rintro v H' ⟨⟨g, rfl, hg⟩, rfl⟩
  cases g with
  | true =>
    simp
    refine AX.pcond (t := true) rfl (fun _ => AX.seq (AX.reg ?_)) (fun h => by simp at h)
    simp [weftlaw32_QueryOrder.r4]
    refine AX.ret ?_
    simp
  | false =>
  have hl := hg rfl
  simp
  refine AX.pcond (t := false) rfl (fun h => by simp at h) (fun _ => AX.skip ?_)
  simp
  refine AX.seq (AX.reg ?_)
  simp [weftlaw32_QueryOrder.r5]
  refine AC.fix (edges_ok l (by omega) _) ?_
  simp
  refine (Order_ok l (by omega) _).mono ?_
  rintro v H3 ⟨rfl, rfl, hcov⟩
  obtain ⟨ho1, ho2⟩ := orderS_len l
  have hpl : ∀ (x : Str) (t : Nat) (p : List Str), (orderS l)[t]? = some p → x ∈ p → ∀ H2, AC Tryz.prog n_weftlaw32_place [ssV (orderS l), .s x] H2 (fun v H' => v = .i .i64 (t : Nat) ∧ H' = H2) := fun x t p ht hx H2 =>
    place_ok32 _ x t p (by omega) (fun p hp => by have := ho2 p hp; omega) ht hx (order_rising ht) (fun s q hs hq => (order_uniq ht hs hx hq).symm) H2
  have hat : ∀ x, x ∈ namesS l [] → ∃ (t : Nat) (p : List Str), (orderS l)[t]? = some p ∧ x ∈ p := fun x hx => order_at hcov hx
  have hedge : ∀ e ∈ l, ∀ (t s : Nat) (p q : List Str), (orderS l)[t]? = some p → e.1 ∈ p → (orderS l)[s]? = some q → e.2 ∈ q → s ≤ t := fun e he t s p q h1 h2 h3 h4 => order_edge he h1 h2 h3 h4
  have hreach : ∀ (t : Nat) (p : List Str), (orderS l)[t]? = some p → ∀ x ∈ p, ∀ y ∈ p, y ∈ reachS l [x] := fun t p ht x hx y hy => order_reach ht hx hy
  generalize orderS l = o at *
  simp
  refine AX.seq (AX.seq (AX.reg ?_))
  simp [weftlaw32_QueryOrder.r6]
  refine AX.pblock (AX.loop (QO0Inv l o H3) l.length ⟨_, _, .refl _ _, 0, by omega, by omega, rfl, rfl⟩ ?_)
  rintro m F X ⟨i, hi, rfl, rfl, rfl⟩
  simp only [weftlaw32_QueryOrder.l0]
  refine AX.seq (AX.seq (AX.reg ?_))
  simp [weftlaw32_QueryOrder.r7, edV]
  refine AX.pcond rfl (fun hc => AX.skip ?_) (fun hc => AX.exit ?_)
  · simp at hc
    obtain ⟨n1, n2⟩ := names_edges l [] _ (List.getElem_mem hc)
    obtain ⟨t, p, ht, hp⟩ := hat _ n1
    obtain ⟨s, q, hs, hq⟩ := hat _ n2
    have hst : s ≤ t := hedge _ (List.getElem_mem hc) t s p q ht hp hs hq
    simp
    refine AX.seq (AX.pblock (AX.seq (AX.drw ?_)))
    simp [weftlaw32_QueryOrder.r8, edV, hc]
    refine callD_pure _ (hpl l[i].1 t p ht hp) ?_
    simp [edV, hc]
    refine callD_pure _ (hpl l[i].2 s q hs hq) ?_
    simp
    refine AX.seq (AX.reg ?_)
    simp [weftlaw32_QueryOrder.r9]
    refine AX.pcond (t := false) (by simp; omega) (fun h => by simp at h) (fun _ => AX.skip ?_)
    simp
    refine AX.reg ?_
    simp [weftlaw32_QueryOrder.r11, i64_succ (show i ≤ 9223372036854775000 by omega)]
    exact ⟨l.length - (i + 1), by omega, _, _, .refl _ _, i + 1, by omega, rfl, rfl, by simp [edV]⟩
  simp
  rw [show V.fs (l.map fun e => [.s e.1, .s e.2]) = edV l from rfl]
  refine AX.seq (AX.seq (AX.reg ?_))
  simp [weftlaw32_QueryOrder.r12]
  refine AX.pblock (AX.loop (QO1Inv l o X) o.length ⟨_, _, .refl _ _, 0, by omega, by omega, rfl, rfl⟩ ?_)
  rintro m F Y ⟨i, hi, rfl, rfl, rfl⟩
  simp only [weftlaw32_QueryOrder.l1]
  refine AX.seq (AX.seq (AX.reg ?_))
  simp [weftlaw32_QueryOrder.r13, ssV]
  refine AX.pcond rfl (fun hc => AX.skip ?_) (fun hc => AX.exit ?_)
  · simp at hc
    have hig : o[i]? = some o[i] := List.getElem?_eq_getElem hc
    have hpi := ho2 _ (List.getElem_mem hc)
    simp
    refine AX.seq (AX.pblock (AX.seq (AX.reg ?_)))
    simp [weftlaw32_QueryOrder.r14]
    refine AX.pblock (AX.loop (QO2Inv l o o[i] i Y) o[i].length ⟨_, _, .refl _ _, 0, by omega, by omega, rfl, by simp [ssV]⟩ ?_)
    rintro m F Z ⟨k, hk, rfl, rfl, rfl⟩
    simp only [weftlaw32_QueryOrder.l2]
    refine AX.seq (AX.seq (AX.reg ?_))
    simp [weftlaw32_QueryOrder.r15, ssV, hc, ss]
    refine AX.pcond rfl (fun hc2 => AX.skip ?_) (fun hc2 => AX.exit ?_)
    · simp at hc2
      have hkm := List.getElem_mem hc2
      have hrl := reachS_len l [o[i][k]]
      have hdt : (o[i].take (k + 1)).drop k = [o[i][k]] := by
        rw [take_snoc hc2, List.drop_append_of_le_length (by simp; omega)]; simp
      have hre : ∀ y ∈ o[i], y ∈ reachS l [o[i][k]] := hreach i _ hig _ hkm
      have hd2 : (((o[i].map fun x => [V.s x]).take (k + 1)).drop k) = [o[i][k]].map fun x => [V.s x] := by rw [← List.map_take, ← List.map_drop, hdt]
      simp
      refine AX.seq (AX.pblock (AX.seq (AX.drw ?_)))
      simp [weftlaw32_QueryOrder.r16]
      refine callD_pure _ (fun H2 => edges_ok l (by omega) H2) ?_
      simp [hc, ss, hc2, i64_succ (show k ≤ 9223372036854775000 by omega), show (k : Int) ≤ k + 1 by omega, show (k : Int) + 1 ≤ o[i].length by omega]
      rw [hd2, show V.fs ([o[i][k]].map fun x => [V.s x]) = ss [o[i][k]] from rfl]
      refine callD_pure _ (fun H2 => Reach_ok l [o[i][k]] (by omega) (by simp) H2) ?_
      simp
      refine AX.seq (AX.reg ?_)
      simp [weftlaw32_QueryOrder.r17]
      have hrr := reachS_rising l [o[i][k]]
      simp at hrl
      generalize reachS l [o[i][k]] = r at *
      refine AX.pblock (AX.loop (QO3Inv l o o[i] r i k Z) o[i].length ⟨_, _, .refl _ _, 0, by omega, by omega, rfl, by simp [ssV, ss]⟩ ?_)
      rintro m F Z2 ⟨j, hj, rfl, rfl, rfl⟩
      simp only [weftlaw32_QueryOrder.l3]
      refine AX.seq (AX.seq (AX.reg ?_))
      simp [weftlaw32_QueryOrder.r18, ssV, hc, ss]
      refine AX.pcond rfl (fun hc3 => AX.skip ?_) (fun hc3 => AX.exit ?_)
      · simp at hc3
        have hjr := hre _ (List.getElem_mem hc3)
        simp
        refine AX.seq (AX.pblock (AX.seq (AX.reg ?_)))
        simp [weftlaw32_QueryOrder.r19, hc, hc3, repl]
        refine AC.fix (place_ok32 [r] o[i][j] 0 r (by simp) (by simp; omega) rfl hjr hrr (fun s q hs hq => ?_) _) ?_
        · have := (List.getElem?_eq_some_iff.1 hs).1
          simp at this; exact this
        simp
        refine AX.pcond (t := false) rfl (fun h => by simp at h) (fun _ => AX.skip ?_)
        simp
        refine AX.reg ?_
        simp [weftlaw32_QueryOrder.r21, i64_succ (show j ≤ 9223372036854775000 by omega)]
        exact ⟨o[i].length - (j + 1), by omega, _, _, .refl _ _, j + 1, by omega, rfl, rfl, by simp [ssV, ss]⟩
      simp
      refine AX.reg ?_
      simp [weftlaw32_QueryOrder.r22, i64_succ (show k ≤ 9223372036854775000 by omega)]
      exact ⟨o[i].length - (k + 1), by omega, _, _, .refl _ _, k + 1, by omega, rfl, rfl, by simp [ssV, ss]⟩
    simp
    refine AX.reg ?_
    simp [weftlaw32_QueryOrder.r23, i64_succ (show i ≤ 9223372036854775000 by omega)]
    exact ⟨o.length - (i + 1), by omega, _, _, .refl _ _, i + 1, by omega, rfl, rfl, by simp [ssV, ss]⟩
  simp
  refine AX.seq (AX.reg ?_)
  simp [weftlaw32_QueryOrder.r24]
  refine AX.ret ?_
  simp
end Go.Proofs.YtggjaoibcfgofaaGreatDoor
namespace Go.Proofs.YtggjaoibcfgofaaGreatDoor
open Am C Go.Proofs
set_option linter.unusedSimpArgs false
set_option linter.unusedVariables false
theorem QueryOrder_all (us : List V) (h : ArgsZ [.sl TE] us) : AC Tryz.prog 6 us Hp.none (fun r _ => r = .b true) := by
  obtain ⟨u, us', rfl, hu, rfl⟩ := h
  obtain ⟨l, hx⟩ := isZ_edges hu
  injection hx with hx; subst hx
  exact QueryOrder_ok l _
end Go.Proofs.YtggjaoibcfgofaaGreatDoor
