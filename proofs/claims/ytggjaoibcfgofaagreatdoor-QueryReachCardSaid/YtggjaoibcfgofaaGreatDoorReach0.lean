/- What the law QueryReach alone needs: CodeA, CodeB. -/
import Derived.Test.YtggjaoibcfgofaaGreatDoorProg
import Derived.Test.YtggjaoibcfgofaaGreatDoorW0
import Derived.Test.YtggjaoibcfgofaaGreatDoorW1
import Derived.Test.YtggjaoibcfgofaaGreatDoorW2
import Derived.Test.YtggjaoibcfgofaaGreatDoorW3
import Derived.Test.YtggjaoibcfgofaaGreatDoorW4
import Derived.Test.YtggjaoibcfgofaaGreatDoorW5
import Derived.Test.YtggjaoibcfgofaaGreatDoorW6
import Derived.Test.YtggjaoibcfgofaaGreatDoorW7
import Derived.Test.YtggjaoibcfgofaaGreatDoorW8
import Derived.Test.YtggjaoibcfgofaaGreatDoorW9
import Derived.Test.YtggjaoibcfgofaaGreatDoorW10
import Derived.Test.YtggjaoibcfgofaaGreatDoorW11
import Derived.Test.YtggjaoibcfgofaaGreatDoorW12
import Derived.Test.YtggjaoibcfgofaaGreatDoorW13
import Derived.Test.YtggjaoibcfgofaaGreatDoorW14
import Derived.Test.YtggjaoibcfgofaaGreatDoorW15
import Derived.Test.YtggjaoibcfgofaaGreatDoorW16
import Derived.Test.YtggjaoibcfgofaaGreatDoorW17
import Derived.Test.YtggjaoibcfgofaaGreatDoorW18
import Derived.Test.YtggjaoibcfgofaaGreatDoorW19
import Derived.Test.YtggjaoibcfgofaaGreatDoorW20
import Derived.Test.YtggjaoibcfgofaaGreatDoorW21
import Derived.Test.YtggjaoibcfgofaaGreatDoorW22
import Derived.Test.YtggjaoibcfgofaaGreatDoorW23
import Derived.Test.YtggjaoibcfgofaaGreatDoorW24
import Derived.Test.YtggjaoibcfgofaaGreatDoorW25
import Derived.Test.YtggjaoibcfgofaaGreatDoorW26
import Derived.Test.YtggjaoibcfgofaaGreatDoorW27
import Derived.Test.YtggjaoibcfgofaaGreatDoorW28
import Derived.Test.YtggjaoibcfgofaaGreatDoorW29
import Derived.Test.YtggjaoibcfgofaaGreatDoorW30
import Derived.Test.YtggjaoibcfgofaaGreatDoorW31
namespace Go.Proofs.YtggjaoibcfgofaaGreatDoor
open Am Go.Proofs
set_option maxRecDepth 100000
namespace C
def n_weftref07_member : FuncId := 81
def n_weftref07_Reach : FuncId := 55
def n_weftref07_free : FuncId := 56
def n_weftref07_Parts : FuncId := 36
def n_weftref32_Order : FuncId := 20
def n_weftref05_Sorted : FuncId := 39
def n_weftref32_Reach : FuncId := 22
def n_weftlaw32_QueryReach : FuncId := 4
end C
end Go.Proofs.YtggjaoibcfgofaaGreatDoor
namespace Go.Proofs.YtggjaoibcfgofaaGreatDoor
open Am Go.Proofs
set_option maxRecDepth 100000
namespace C
def weftref07_member.r0 : List AStep := [
  ⟨some 4, none, .op (.mov (.c (.b false)))⟩]
def weftref07_member.r1 : List AStep := [
  ⟨some 5, none, .op (.mov (.t 1))⟩,
  ⟨some 6, none, .op (.bin .geq (.t 5) (.c (.i .i64 0)))⟩,
  ⟨some 7, none, .op (.mov (.t 6))⟩,
  ⟨some 8, (some (7, true)), .op (.mov (.t 1))⟩,
  ⟨some 9, (some (7, true)), .op (.mov (.t 0))⟩,
  ⟨some 10, (some (7, true)), .op (.bin .lss (.t 8) (.t 9))⟩,
  ⟨some 11, none, .op (.pick (.t 7) (.t 10) (.c (.b false)))⟩,
  ⟨some 4, none, .op (.mov (.t 11))⟩]
def weftref07_member : AFunc := ⟨12, [.t 4], .seq (.post [0, 1] (.region weftref07_member.r0)) (.seq (.post [4] (.region weftref07_member.r1)) (.ret))⟩
theorem weftref07_member.ok : okFunc Tryz.prog Tryz.f81 weftref07_member = true := by kernel_rfl
theorem weftref07_member.at : Tryz.prog.funcs[n_weftref07_member]? = some Tryz.f81 := Tryz.func81
def weftref07_Reach.r0 : List AStep := [
  ⟨some 4, none, .op (.mov (.c (.sl none 0 0)))⟩]
def weftref07_Reach.r1 : List AStep := [
  ⟨some 11, none, .op (.mov (.t 0))⟩,
  ⟨some 12, none, .op (.mx [.t 11, .c (.i .i64 0)])⟩,
  ⟨some 0, none, .op (.mov (.t 12))⟩]
def weftref07_Reach.r2 : List AStep := [
  ⟨some 13, none, .op (.mov (.t 0))⟩,
  ⟨some 14, none, .op (.mksl 1 24 [.sl none 0 0] (.t 13) (.t 13))⟩,
  ⟨some 5, none, .op (.mov (.t 14))⟩]
def weftref07_Reach.r3 : List AStep := [
  ⟨some 6, none, .op (.mov (.c (.i .i64 0)))⟩]
def weftref07_Reach.r4 : List AStep := [
  ⟨some 15, none, .op (.mov (.t 6))⟩,
  ⟨some 16, none, .op (.mov (.t 0))⟩,
  ⟨some 17, none, .op (.bin .lss (.t 15) (.t 16))⟩]
def weftref07_Reach.r5 : List AStep := [
  ⟨some 20, none, .op (.mov (.t 5))⟩,
  ⟨some 21, none, .op (.mov (.t 6))⟩,
  ⟨some 22, none, .op (.mov (.t 0))⟩,
  ⟨some 23, none, .op (.mksl 1 1 [.b false] (.t 22) (.t 22))⟩,
  ⟨some 24, none, .op (.iad 1 (.t 20) (.t 21))⟩,
  ⟨none, none, .op (.store 1 (.t 24) (.t 23))⟩]
def weftref07_Reach.r6 : List AStep := [
  ⟨some 25, none, .op (.mov (.t 5))⟩,
  ⟨some 26, none, .op (.mov (.t 6))⟩,
  ⟨some 27, none, .op (.iad 1 (.t 25) (.t 26))⟩,
  ⟨some 28, none, .op (.load false 1 (.t 27))⟩,
  ⟨some 29, none, .op (.mov (.t 6))⟩,
  ⟨some 30, none, .op (.iad 1 (.t 28) (.t 29))⟩,
  ⟨none, none, .op (.store 1 (.t 30) (.c (.b true)))⟩]
def weftref07_Reach.r7 : List AStep := [
  ⟨some 18, none, .op (.mov (.t 6))⟩,
  ⟨some 19, none, .op (.bin .add (.t 18) (.c (.i .i64 1)))⟩,
  ⟨some 6, none, .op (.mov (.t 19))⟩]
def weftref07_Reach.l0 : ACode := .seq (.seq (.post [0, 1, 5, 6, 17] (.region weftref07_Reach.r4)) (.post [0, 1, 5, 6] (.cond (.t 17) (.skip) (.exit 0)))) (.seq (.post [0, 1, 5, 6] (.block 1 (.seq (.post [0, 1, 5, 6] (.region weftref07_Reach.r5)) (.post [0, 1, 5, 6] (.region weftref07_Reach.r6))))) (.post [0, 1, 5, 6] (.region weftref07_Reach.r7)))
def weftref07_Reach.r8 : List AStep := [
  ⟨some 7, none, .op (.mov (.c (.i .i64 0)))⟩]
def weftref07_Reach.r9 : List AStep := [
  ⟨some 31, none, .op (.mov (.t 7))⟩,
  ⟨some 32, none, .op (.mov (.t 1))⟩,
  ⟨some 33, none, .op (.len false (.t 32))⟩,
  ⟨some 34, none, .op (.bin .lss (.t 31) (.t 33))⟩]
def weftref07_Reach.r10 : List AStep := [
  ⟨some 37, none, .op (.mov (.t 0))⟩,
  ⟨some 38, none, .op (.mov (.t 1))⟩,
  ⟨some 39, none, .op (.mov (.t 7))⟩,
  ⟨some 40, none, .op (.iad 2 (.t 38) (.t 39))⟩,
  ⟨some 41, none, .op (.fadr 0 (.t 40))⟩,
  ⟨some 42, none, .op (.load false 1 (.t 41))⟩,
  ⟨some 43, none, .call n_weftref07_member [.t 37, .t 42]⟩,
  ⟨some 44, none, .op (.mov (.t 43))⟩,
  ⟨some 45, (some (44, true)), .op (.mov (.t 0))⟩,
  ⟨some 46, (some (44, true)), .op (.mov (.t 1))⟩,
  ⟨some 47, (some (44, true)), .op (.mov (.t 7))⟩,
  ⟨some 48, (some (44, true)), .op (.iad 2 (.t 46) (.t 47))⟩,
  ⟨some 49, (some (44, true)), .op (.fadr 1 (.t 48))⟩,
  ⟨some 50, (some (44, true)), .op (.load false 1 (.t 49))⟩,
  ⟨some 51, (some (44, true)), .call n_weftref07_member [.t 45, .t 50]⟩,
  ⟨some 52, none, .op (.pick (.t 44) (.t 51) (.c (.b false)))⟩]
def weftref07_Reach.r11 : List AStep := [
  ⟨some 53, none, .op (.mov (.t 5))⟩,
  ⟨some 54, none, .op (.mov (.t 1))⟩,
  ⟨some 55, none, .op (.mov (.t 7))⟩,
  ⟨some 56, none, .op (.iad 2 (.t 54) (.t 55))⟩,
  ⟨some 57, none, .op (.fadr 0 (.t 56))⟩,
  ⟨some 58, none, .op (.load false 1 (.t 57))⟩,
  ⟨some 59, none, .op (.iad 1 (.t 53) (.t 58))⟩,
  ⟨some 60, none, .op (.load false 1 (.t 59))⟩,
  ⟨some 61, none, .op (.mov (.t 1))⟩,
  ⟨some 62, none, .op (.mov (.t 7))⟩,
  ⟨some 63, none, .op (.iad 2 (.t 61) (.t 62))⟩,
  ⟨some 64, none, .op (.fadr 1 (.t 63))⟩,
  ⟨some 65, none, .op (.load false 1 (.t 64))⟩,
  ⟨some 66, none, .op (.iad 1 (.t 60) (.t 65))⟩,
  ⟨none, none, .op (.store 1 (.t 66) (.c (.b true)))⟩]
def weftref07_Reach.r12 : List AStep := [
  ⟨some 35, none, .op (.mov (.t 7))⟩,
  ⟨some 36, none, .op (.bin .add (.t 35) (.c (.i .i64 1)))⟩,
  ⟨some 7, none, .op (.mov (.t 36))⟩]
def weftref07_Reach.l1 : ACode := .seq (.seq (.post [0, 1, 5, 7, 34] (.region weftref07_Reach.r9)) (.post [0, 1, 5, 7] (.cond (.t 34) (.skip) (.exit 2)))) (.seq (.post [0, 1, 5, 7] (.block 3 (.seq (.post [0, 1, 5, 7, 52] (.region weftref07_Reach.r10)) (.post [0, 1, 5, 7] (.cond (.t 52) (.post [0, 1, 5, 7] (.draw [0, 0, 0, 6, 14, 30, 63, 127, 0, 0, 768, 1792, 3840, 8191, 16383] weftref07_Reach.r11)) (.skip)))))) (.post [0, 1, 5, 7] (.region weftref07_Reach.r12)))
def weftref07_Reach.r13 : List AStep := [
  ⟨some 8, none, .op (.mov (.c (.i .i64 0)))⟩]
def weftref07_Reach.r14 : List AStep := [
  ⟨some 67, none, .op (.mov (.t 8))⟩,
  ⟨some 68, none, .op (.mov (.t 0))⟩,
  ⟨some 69, none, .op (.bin .lss (.t 67) (.t 68))⟩]
def weftref07_Reach.r15 : List AStep := [
  ⟨some 9, none, .op (.mov (.c (.i .i64 0)))⟩]
def weftref07_Reach.r16 : List AStep := [
  ⟨some 72, none, .op (.mov (.t 9))⟩,
  ⟨some 73, none, .op (.mov (.t 0))⟩,
  ⟨some 74, none, .op (.bin .lss (.t 72) (.t 73))⟩]
def weftref07_Reach.r17 : List AStep := [
  ⟨some 10, none, .op (.mov (.c (.i .i64 0)))⟩]
def weftref07_Reach.r18 : List AStep := [
  ⟨some 77, none, .op (.mov (.t 10))⟩,
  ⟨some 78, none, .op (.mov (.t 0))⟩,
  ⟨some 79, none, .op (.bin .lss (.t 77) (.t 78))⟩,
  ⟨some 80, none, .op (.mov (.t 79))⟩,
  ⟨some 81, (some (80, true)), .op (.mov (.t 5))⟩,
  ⟨some 82, (some (80, true)), .op (.mov (.t 9))⟩,
  ⟨some 83, (some (80, true)), .op (.iad 1 (.t 81) (.t 82))⟩,
  ⟨some 84, (some (80, true)), .op (.load false 1 (.t 83))⟩,
  ⟨some 85, (some (80, true)), .op (.mov (.t 8))⟩,
  ⟨some 86, (some (80, true)), .op (.iad 1 (.t 84) (.t 85))⟩,
  ⟨some 87, (some (80, true)), .op (.load false 1 (.t 86))⟩,
  ⟨some 88, none, .op (.pick (.t 80) (.t 87) (.c (.b false)))⟩]
def weftref07_Reach.r19 : List AStep := [
  ⟨some 91, none, .op (.mov (.t 5))⟩,
  ⟨some 92, none, .op (.mov (.t 9))⟩,
  ⟨some 93, none, .op (.iad 1 (.t 91) (.t 92))⟩,
  ⟨some 94, none, .op (.load false 1 (.t 93))⟩,
  ⟨some 95, none, .op (.mov (.t 10))⟩,
  ⟨some 96, none, .op (.mov (.t 5))⟩,
  ⟨some 97, none, .op (.mov (.t 9))⟩,
  ⟨some 98, none, .op (.iad 1 (.t 96) (.t 97))⟩,
  ⟨some 99, none, .op (.load false 1 (.t 98))⟩,
  ⟨some 100, none, .op (.mov (.t 10))⟩,
  ⟨some 101, none, .op (.iad 1 (.t 99) (.t 100))⟩,
  ⟨some 102, none, .op (.load false 1 (.t 101))⟩,
  ⟨some 103, none, .op (.mov (.t 102))⟩,
  ⟨some 104, (some (103, false)), .op (.mov (.t 5))⟩,
  ⟨some 105, (some (103, false)), .op (.mov (.t 8))⟩,
  ⟨some 106, (some (103, false)), .op (.iad 1 (.t 104) (.t 105))⟩,
  ⟨some 107, (some (103, false)), .op (.load false 1 (.t 106))⟩,
  ⟨some 108, (some (103, false)), .op (.mov (.t 10))⟩,
  ⟨some 109, (some (103, false)), .op (.iad 1 (.t 107) (.t 108))⟩,
  ⟨some 110, (some (103, false)), .op (.load false 1 (.t 109))⟩,
  ⟨some 111, none, .op (.pick (.t 103) (.c (.b true)) (.t 110))⟩,
  ⟨some 112, none, .op (.iad 1 (.t 94) (.t 95))⟩,
  ⟨none, none, .op (.store 1 (.t 112) (.t 111))⟩]
def weftref07_Reach.r20 : List AStep := [
  ⟨some 89, none, .op (.mov (.t 10))⟩,
  ⟨some 90, none, .op (.bin .add (.t 89) (.c (.i .i64 1)))⟩,
  ⟨some 10, none, .op (.mov (.t 90))⟩]
def weftref07_Reach.l4 : ACode := .seq (.seq (.post [0, 5, 8, 9, 10, 88] (.region weftref07_Reach.r18)) (.post [0, 5, 8, 9, 10] (.cond (.t 88) (.skip) (.exit 8)))) (.seq (.post [0, 5, 8, 9, 10] (.block 9 (.post [0, 5, 8, 9, 10] (.draw [0, 0, 3, 7, 0, 0, 0, 96, 224, 0, 992, 2016, 4064, 8160, 8160, 32736, 65504, 8160, 262112, 524256, 1048544, 2097151, 4194303] weftref07_Reach.r19)))) (.post [0, 5, 8, 9, 10] (.region weftref07_Reach.r20)))
def weftref07_Reach.r21 : List AStep := [
  ⟨some 75, none, .op (.mov (.t 9))⟩,
  ⟨some 76, none, .op (.bin .add (.t 75) (.c (.i .i64 1)))⟩,
  ⟨some 9, none, .op (.mov (.t 76))⟩]
def weftref07_Reach.l3 : ACode := .seq (.seq (.post [0, 5, 8, 9, 74] (.region weftref07_Reach.r16)) (.post [0, 5, 8, 9] (.cond (.t 74) (.skip) (.exit 6)))) (.seq (.post [0, 5, 8, 9] (.block 7 (.seq (.post [0, 5, 8, 9, 10] (.region weftref07_Reach.r17)) (.post [0, 5, 8, 9] (.block 8 (.loop weftref07_Reach.l4)))))) (.post [0, 5, 8, 9] (.region weftref07_Reach.r21)))
def weftref07_Reach.r22 : List AStep := [
  ⟨some 70, none, .op (.mov (.t 8))⟩,
  ⟨some 71, none, .op (.bin .add (.t 70) (.c (.i .i64 1)))⟩,
  ⟨some 8, none, .op (.mov (.t 71))⟩]
def weftref07_Reach.l2 : ACode := .seq (.seq (.post [0, 5, 8, 69] (.region weftref07_Reach.r14)) (.post [0, 5, 8] (.cond (.t 69) (.skip) (.exit 4)))) (.seq (.post [0, 5, 8] (.block 5 (.seq (.post [0, 5, 8, 9] (.region weftref07_Reach.r15)) (.post [0, 5, 8] (.block 6 (.loop weftref07_Reach.l3)))))) (.post [0, 5, 8] (.region weftref07_Reach.r22)))
def weftref07_Reach.r23 : List AStep := [
  ⟨some 113, none, .op (.mov (.t 5))⟩,
  ⟨some 4, none, .op (.mov (.t 113))⟩]
def weftref07_Reach : AFunc := ⟨114, [.t 4], .seq (.post [0, 1] (.region weftref07_Reach.r0)) (.seq (.post [0, 1] (.region weftref07_Reach.r1)) (.seq (.post [0, 1, 5] (.region weftref07_Reach.r2)) (.seq (.seq (.post [0, 1, 5, 6] (.region weftref07_Reach.r3)) (.post [0, 1, 5] (.block 0 (.loop weftref07_Reach.l0)))) (.seq (.seq (.post [0, 1, 5, 7] (.region weftref07_Reach.r8)) (.post [0, 5] (.block 2 (.loop weftref07_Reach.l1)))) (.seq (.seq (.post [0, 5, 8] (.region weftref07_Reach.r13)) (.post [5] (.block 4 (.loop weftref07_Reach.l2)))) (.seq (.post [4] (.region weftref07_Reach.r23)) (.ret)))))))⟩
theorem weftref07_Reach.ok : okFunc Tryz.prog Tryz.f55 weftref07_Reach = true := by kernel_rfl
theorem weftref07_Reach.at : Tryz.prog.funcs[n_weftref07_Reach]? = some Tryz.f55 := Tryz.func55
def weftref07_free.r0 : List AStep := [
  ⟨some 6, none, .op (.mov (.c (.b false)))⟩]
def weftref07_free.r1 : List AStep := [
  ⟨some 7, none, .op (.mov (.c (.i .i64 0)))⟩]
def weftref07_free.r2 : List AStep := [
  ⟨some 8, none, .op (.mov (.t 7))⟩,
  ⟨some 9, none, .op (.mov (.t 0))⟩,
  ⟨some 10, none, .op (.len false (.t 9))⟩,
  ⟨some 11, none, .op (.bin .lss (.t 8) (.t 10))⟩]
def weftref07_free.r3 : List AStep := [
  ⟨some 14, none, .op (.mov (.t 0))⟩,
  ⟨some 15, none, .op (.mov (.t 2))⟩,
  ⟨some 16, none, .op (.iad 1 (.t 14) (.t 15))⟩,
  ⟨some 17, none, .op (.load false 1 (.t 16))⟩,
  ⟨some 18, none, .op (.mov (.t 7))⟩,
  ⟨some 19, none, .op (.iad 1 (.t 17) (.t 18))⟩,
  ⟨some 20, none, .op (.load false 1 (.t 19))⟩,
  ⟨some 21, none, .op (.mov (.t 20))⟩,
  ⟨some 22, (some (21, true)), .op (.mov (.t 0))⟩,
  ⟨some 23, (some (21, true)), .op (.mov (.t 7))⟩,
  ⟨some 24, (some (21, true)), .op (.iad 1 (.t 22) (.t 23))⟩,
  ⟨some 25, (some (21, true)), .op (.load false 1 (.t 24))⟩,
  ⟨some 26, (some (21, true)), .op (.mov (.t 2))⟩,
  ⟨some 27, (some (21, true)), .op (.iad 1 (.t 25) (.t 26))⟩,
  ⟨some 28, (some (21, true)), .op (.load false 1 (.t 27))⟩,
  ⟨some 29, (some (21, true)), .op (.un .not (.t 28))⟩,
  ⟨some 30, none, .op (.pick (.t 21) (.t 29) (.c (.b false)))⟩,
  ⟨some 31, none, .op (.mov (.t 30))⟩,
  ⟨some 32, (some (31, true)), .op (.mov (.t 1))⟩,
  ⟨some 33, (some (31, true)), .op (.mov (.t 7))⟩,
  ⟨some 34, (some (31, true)), .op (.iad 1 (.t 32) (.t 33))⟩,
  ⟨some 35, (some (31, true)), .op (.load false 1 (.t 34))⟩,
  ⟨some 36, (some (31, true)), .op (.un .not (.t 35))⟩,
  ⟨some 37, none, .op (.pick (.t 31) (.t 36) (.c (.b false)))⟩]
def weftref07_free.r4 : List AStep := [
  ⟨some 6, none, .op (.mov (.c (.b false)))⟩]
def weftref07_free.r5 : List AStep := [
  ⟨some 12, none, .op (.mov (.t 7))⟩,
  ⟨some 13, none, .op (.bin .add (.t 12) (.c (.i .i64 1)))⟩,
  ⟨some 7, none, .op (.mov (.t 13))⟩]
def weftref07_free.l0 : ACode := .seq (.seq (.post [0, 1, 2, 7, 11] (.region weftref07_free.r2)) (.post [0, 1, 2, 7] (.cond (.t 11) (.skip) (.exit 0)))) (.seq (.post [0, 1, 2, 7] (.block 1 (.seq (.post [0, 1, 2, 7, 37] (.region weftref07_free.r3)) (.post [0, 1, 2, 7] (.cond (.t 37) (.seq (.post [6] (.region weftref07_free.r4)) (.ret)) (.skip)))))) (.post [0, 1, 2, 7] (.region weftref07_free.r5)))
def weftref07_free.r6 : List AStep := [
  ⟨some 6, none, .op (.mov (.c (.b true)))⟩]
def weftref07_free : AFunc := ⟨38, [.t 6], .seq (.post [0, 1, 2] (.region weftref07_free.r0)) (.seq (.seq (.post [0, 1, 2, 7] (.region weftref07_free.r1)) (.post [] (.block 0 (.loop weftref07_free.l0)))) (.seq (.post [6] (.region weftref07_free.r6)) (.ret)))⟩
theorem weftref07_free.ok : okFunc Tryz.prog Tryz.f56 weftref07_free = true := by kernel_rfl
theorem weftref07_free.at : Tryz.prog.funcs[n_weftref07_free]? = some Tryz.f56 := Tryz.func56
def weftref07_Parts.r0 : List AStep := [
  ⟨some 4, none, .op (.mov (.c (.sl none 0 0)))⟩]
def weftref07_Parts.r1 : List AStep := [
  ⟨some 11, none, .op (.mov (.t 0))⟩,
  ⟨some 12, none, .op (.bin .gtr (.t 11) (.c (.i .i64 20000)))⟩]
def weftref07_Parts.r2 : List AStep := [
  ⟨some 4, none, .op (.mov (.c (.sl none 0 0)))⟩]
def weftref07_Parts.r3 : List AStep := [
  ⟨some 13, none, .op (.mov (.t 0))⟩,
  ⟨some 14, none, .op (.mov (.t 1))⟩,
  ⟨some 15, none, .call n_weftref07_Reach [.t 13, .t 14]⟩,
  ⟨some 5, none, .op (.mov (.t 15))⟩]
def weftref07_Parts.r4 : List AStep := [
  ⟨some 16, none, .op (.mov (.t 5))⟩,
  ⟨some 17, none, .op (.len false (.t 16))⟩,
  ⟨some 18, none, .op (.mksl 1 1 [.b false] (.t 17) (.t 17))⟩,
  ⟨some 6, none, .op (.mov (.t 18))⟩]
def weftref07_Parts.r5 : List AStep := [
  ⟨some 7, none, .op (.mov (.c (.sl none 0 0)))⟩]
def weftref07_Parts.r6 : List AStep := [
  ⟨some 19, none, .op (.mov (.t 5))⟩,
  ⟨some 20, none, .op (.len false (.t 19))⟩,
  ⟨some 21, none, .op (.mov (.c (.i .i64 0)))⟩]
def weftref07_Parts.r7 : List AStep := [
  ⟨some 22, none, .op (.bin .lss (.t 21) (.t 20))⟩]
def weftref07_Parts.r8 : List AStep := [
  ⟨some 8, none, .op (.mov (.c (.i .i64 0)))⟩]
def weftref07_Parts.r9 : List AStep := [
  ⟨some 23, none, .op (.mov (.t 8))⟩,
  ⟨some 24, none, .op (.mov (.t 5))⟩,
  ⟨some 25, none, .op (.len false (.t 24))⟩,
  ⟨some 26, none, .op (.bin .lss (.t 23) (.t 25))⟩]
def weftref07_Parts.r10 : List AStep := [
  ⟨some 29, none, .op (.mov (.t 6))⟩,
  ⟨some 30, none, .op (.mov (.t 8))⟩,
  ⟨some 31, none, .op (.iad 1 (.t 29) (.t 30))⟩,
  ⟨some 32, none, .op (.load false 1 (.t 31))⟩,
  ⟨some 33, none, .op (.un .not (.t 32))⟩,
  ⟨some 34, none, .op (.mov (.t 33))⟩,
  ⟨some 35, (some (34, true)), .op (.mov (.t 5))⟩,
  ⟨some 36, (some (34, true)), .op (.mov (.t 6))⟩,
  ⟨some 37, (some (34, true)), .op (.mov (.t 8))⟩,
  ⟨some 38, (some (34, true)), .call n_weftref07_free [.t 35, .t 36, .t 37]⟩,
  ⟨some 39, none, .op (.pick (.t 34) (.t 38) (.c (.b false)))⟩]
def weftref07_Parts.r11 : List AStep := [
  ⟨some 9, none, .op (.mov (.c (.sl none 0 0)))⟩]
def weftref07_Parts.r12 : List AStep := [
  ⟨some 10, none, .op (.mov (.c (.i .i64 0)))⟩]
def weftref07_Parts.r13 : List AStep := [
  ⟨some 40, none, .op (.mov (.t 10))⟩,
  ⟨some 41, none, .op (.mov (.t 5))⟩,
  ⟨some 42, none, .op (.len false (.t 41))⟩,
  ⟨some 43, none, .op (.bin .lss (.t 40) (.t 42))⟩]
def weftref07_Parts.r14 : List AStep := [
  ⟨some 46, none, .op (.mov (.t 5))⟩,
  ⟨some 47, none, .op (.mov (.t 8))⟩,
  ⟨some 48, none, .op (.iad 1 (.t 46) (.t 47))⟩,
  ⟨some 49, none, .op (.load false 1 (.t 48))⟩,
  ⟨some 50, none, .op (.mov (.t 10))⟩,
  ⟨some 51, none, .op (.iad 1 (.t 49) (.t 50))⟩,
  ⟨some 52, none, .op (.load false 1 (.t 51))⟩,
  ⟨some 53, none, .op (.mov (.t 52))⟩,
  ⟨some 54, (some (53, true)), .op (.mov (.t 5))⟩,
  ⟨some 55, (some (53, true)), .op (.mov (.t 10))⟩,
  ⟨some 56, (some (53, true)), .op (.iad 1 (.t 54) (.t 55))⟩,
  ⟨some 57, (some (53, true)), .op (.load false 1 (.t 56))⟩,
  ⟨some 58, (some (53, true)), .op (.mov (.t 8))⟩,
  ⟨some 59, (some (53, true)), .op (.iad 1 (.t 57) (.t 58))⟩,
  ⟨some 60, (some (53, true)), .op (.load false 1 (.t 59))⟩,
  ⟨some 61, none, .op (.pick (.t 53) (.t 60) (.c (.b false)))⟩]
def weftref07_Parts.r15 : List AStep := [
  ⟨some 62, none, .op (.mov (.t 9))⟩,
  ⟨some 63, none, .op (.mov (.t 10))⟩,
  ⟨some 64, none, .op (.bfz 1 1 [.i .i64 0] [(0, 1, .t 63)])⟩,
  ⟨some 65, none, .op (.app 1 8 (.t 62) (.t 64))⟩,
  ⟨some 9, none, .op (.mov (.t 65))⟩]
def weftref07_Parts.r16 : List AStep := [
  ⟨some 66, none, .op (.mov (.t 6))⟩,
  ⟨some 67, none, .op (.mov (.t 10))⟩,
  ⟨some 68, none, .op (.iad 1 (.t 66) (.t 67))⟩,
  ⟨none, none, .op (.store 1 (.t 68) (.c (.b true)))⟩]
def weftref07_Parts.r17 : List AStep := [
  ⟨some 44, none, .op (.mov (.t 10))⟩,
  ⟨some 45, none, .op (.bin .add (.t 44) (.c (.i .i64 1)))⟩,
  ⟨some 10, none, .op (.mov (.t 45))⟩]
def weftref07_Parts.l2 : ACode := .seq (.seq (.post [5, 6, 7, 8, 9, 10, 20, 21, 43] (.region weftref07_Parts.r13)) (.post [5, 6, 7, 8, 9, 10, 20, 21] (.cond (.t 43) (.skip) (.exit 4)))) (.seq (.post [5, 6, 7, 8, 9, 10, 20, 21] (.block 5 (.seq (.post [5, 6, 7, 8, 9, 10, 20, 21, 61] (.region weftref07_Parts.r14)) (.post [5, 6, 7, 8, 9, 10, 20, 21] (.cond (.t 61) (.seq (.post [5, 6, 7, 8, 9, 10, 20, 21] (.region weftref07_Parts.r15)) (.post [5, 6, 7, 8, 9, 10, 20, 21] (.region weftref07_Parts.r16))) (.skip)))))) (.post [5, 6, 7, 8, 9, 10, 20, 21] (.region weftref07_Parts.r17)))
def weftref07_Parts.r18 : List AStep := [
  ⟨some 69, none, .op (.mov (.t 7))⟩,
  ⟨some 70, none, .op (.mov (.t 9))⟩,
  ⟨some 71, none, .op (.bfz 1 1 [.sl none 0 0] [(0, 1, .t 70)])⟩,
  ⟨some 72, none, .op (.app 1 24 (.t 69) (.t 71))⟩,
  ⟨some 7, none, .op (.mov (.t 72))⟩]
def weftref07_Parts.r19 : List AStep := [
  ⟨some 27, none, .op (.mov (.t 8))⟩,
  ⟨some 28, none, .op (.bin .add (.t 27) (.c (.i .i64 1)))⟩,
  ⟨some 8, none, .op (.mov (.t 28))⟩]
def weftref07_Parts.l1 : ACode := .seq (.seq (.post [5, 6, 7, 8, 20, 21, 26] (.region weftref07_Parts.r9)) (.post [5, 6, 7, 8, 20, 21] (.cond (.t 26) (.skip) (.exit 2)))) (.seq (.post [5, 6, 7, 8, 20, 21] (.block 3 (.seq (.post [5, 6, 7, 8, 20, 21, 39] (.region weftref07_Parts.r10)) (.post [5, 6, 7, 8, 20, 21] (.cond (.t 39) (.seq (.post [5, 6, 7, 8, 9, 20, 21] (.region weftref07_Parts.r11)) (.seq (.seq (.post [5, 6, 7, 8, 9, 10, 20, 21] (.region weftref07_Parts.r12)) (.post [5, 6, 7, 9, 20, 21] (.block 4 (.loop weftref07_Parts.l2)))) (.seq (.post [5, 6, 7, 20, 21] (.region weftref07_Parts.r18)) (.exit 2)))) (.skip)))))) (.post [5, 6, 7, 8, 20, 21] (.region weftref07_Parts.r19)))
def weftref07_Parts.r20 : List AStep := [
  ⟨some 73, none, .op (.bin .add (.t 21) (.c (.i .i64 1)))⟩,
  ⟨some 21, none, .op (.mov (.t 73))⟩]
def weftref07_Parts.l0 : ACode := .seq (.post [5, 6, 7, 20, 21, 22] (.region weftref07_Parts.r7)) (.seq (.post [5, 6, 7, 20, 21] (.cond (.t 22) (.skip) (.exit 0))) (.seq (.post [5, 6, 7, 20, 21] (.block 1 (.seq (.post [5, 6, 7, 8, 20, 21] (.region weftref07_Parts.r8)) (.post [5, 6, 7, 20, 21] (.block 2 (.loop weftref07_Parts.l1)))))) (.post [5, 6, 7, 20, 21] (.region weftref07_Parts.r20))))
def weftref07_Parts.r21 : List AStep := [
  ⟨some 74, none, .op (.mov (.t 7))⟩,
  ⟨some 4, none, .op (.mov (.t 74))⟩]
def weftref07_Parts : AFunc := ⟨75, [.t 4], .seq (.post [0, 1] (.region weftref07_Parts.r0)) (.seq (.seq (.post [0, 1, 12] (.region weftref07_Parts.r1)) (.post [0, 1] (.cond (.t 12) (.seq (.post [4] (.region weftref07_Parts.r2)) (.ret)) (.skip)))) (.seq (.post [5] (.region weftref07_Parts.r3)) (.seq (.post [5, 6] (.region weftref07_Parts.r4)) (.seq (.post [5, 6, 7] (.region weftref07_Parts.r5)) (.seq (.seq (.post [5, 6, 7, 20, 21] (.region weftref07_Parts.r6)) (.post [7] (.block 0 (.loop weftref07_Parts.l0)))) (.seq (.post [4] (.region weftref07_Parts.r21)) (.ret)))))))⟩
theorem weftref07_Parts.ok : okFunc Tryz.prog Tryz.f36 weftref07_Parts = true := by kernel_rfl
theorem weftref07_Parts.at : Tryz.prog.funcs[n_weftref07_Parts]? = some Tryz.f36 := Tryz.func36
def weftref32_Order.r0 : List AStep := [
  ⟨some 2, none, .op (.mov (.c (.sl none 0 0)))⟩]
def weftref32_Order.r1 : List AStep := [
  ⟨some 3, none, .op (.mov (.c (.sl none 0 0)))⟩]
def weftref32_Order.r2 : List AStep := [
  ⟨some 4, none, .op (.mov (.c (.i .i64 0)))⟩]
def weftref32_Order.r3 : List AStep := [
  ⟨some 12, none, .op (.mov (.t 4))⟩,
  ⟨some 13, none, .op (.mov (.t 0))⟩,
  ⟨some 14, none, .op (.len false (.t 13))⟩,
  ⟨some 15, none, .op (.bin .lss (.t 12) (.t 14))⟩]
def weftref32_Order.r4 : List AStep := [
  ⟨some 18, none, .op (.mov (.t 3))⟩,
  ⟨some 19, none, .op (.mov (.t 0))⟩,
  ⟨some 20, none, .op (.mov (.t 4))⟩,
  ⟨some 21, none, .op (.iad 2 (.t 19) (.t 20))⟩,
  ⟨some 22, none, .op (.fadr 0 (.t 21))⟩,
  ⟨some 23, none, .op (.load false 1 (.t 22))⟩,
  ⟨some 24, none, .call n_weftref05_Into [.t 18, .t 23]⟩,
  ⟨some 25, none, .op (.mov (.t 0))⟩,
  ⟨some 26, none, .op (.mov (.t 4))⟩,
  ⟨some 27, none, .op (.iad 2 (.t 25) (.t 26))⟩,
  ⟨some 28, none, .op (.fadr 1 (.t 27))⟩,
  ⟨some 29, none, .op (.load false 1 (.t 28))⟩,
  ⟨some 30, none, .call n_weftref05_Into [.t 24, .t 29]⟩,
  ⟨some 3, none, .op (.mov (.t 30))⟩]
def weftref32_Order.r5 : List AStep := [
  ⟨some 16, none, .op (.mov (.t 4))⟩,
  ⟨some 17, none, .op (.bin .add (.t 16) (.c (.i .i64 1)))⟩,
  ⟨some 4, none, .op (.mov (.t 17))⟩]
def weftref32_Order.l0 : ACode := .seq (.seq (.post [0, 3, 4, 15] (.region weftref32_Order.r3)) (.post [0, 3, 4] (.cond (.t 15) (.skip) (.exit 0)))) (.seq (.post [0, 3, 4] (.block 1 (.post [0, 3, 4] (.draw [0, 0, 0, 6, 14, 30, 63, 0, 0, 384, 896, 1920, 4095, 8191] weftref32_Order.r4)))) (.post [0, 3, 4] (.region weftref32_Order.r5)))
def weftref32_Order.r6 : List AStep := [
  ⟨some 5, none, .op (.mov (.c (.sl none 0 0)))⟩]
def weftref32_Order.r7 : List AStep := [
  ⟨some 6, none, .op (.mov (.c (.i .i64 0)))⟩]
def weftref32_Order.r8 : List AStep := [
  ⟨some 31, none, .op (.mov (.t 6))⟩,
  ⟨some 32, none, .op (.mov (.t 0))⟩,
  ⟨some 33, none, .op (.len false (.t 32))⟩,
  ⟨some 34, none, .op (.bin .lss (.t 31) (.t 33))⟩]
def weftref32_Order.r9 : List AStep := [
  ⟨some 37, none, .op (.mov (.t 5))⟩,
  ⟨some 38, none, .op (.mov (.t 3))⟩,
  ⟨some 39, none, .op (.mov (.t 0))⟩,
  ⟨some 40, none, .op (.mov (.t 6))⟩,
  ⟨some 41, none, .op (.iad 2 (.t 39) (.t 40))⟩,
  ⟨some 42, none, .op (.fadr 0 (.t 41))⟩,
  ⟨some 43, none, .op (.load false 1 (.t 42))⟩,
  ⟨some 44, none, .call n_weftref05_Number [.t 38, .t 43]⟩,
  ⟨some 45, none, .op (.mov (.t 3))⟩,
  ⟨some 46, none, .op (.mov (.t 0))⟩,
  ⟨some 47, none, .op (.mov (.t 6))⟩,
  ⟨some 48, none, .op (.iad 2 (.t 46) (.t 47))⟩,
  ⟨some 49, none, .op (.fadr 1 (.t 48))⟩,
  ⟨some 50, none, .op (.load false 1 (.t 49))⟩,
  ⟨some 51, none, .call n_weftref05_Number [.t 45, .t 50]⟩,
  ⟨some 52, none, .op (.build [.i .i64 0, .i .i64 0] [(0, 1, .t 44), (1, 1, .t 51)])⟩,
  ⟨some 53, none, .op (.bfz 1 2 [.i .i64 0, .i .i64 0] [(0, 2, .t 52)])⟩,
  ⟨some 54, none, .op (.app 2 16 (.t 37) (.t 53))⟩,
  ⟨some 5, none, .op (.mov (.t 54))⟩]
def weftref32_Order.r10 : List AStep := [
  ⟨some 35, none, .op (.mov (.t 6))⟩,
  ⟨some 36, none, .op (.bin .add (.t 35) (.c (.i .i64 1)))⟩,
  ⟨some 6, none, .op (.mov (.t 36))⟩]
def weftref32_Order.l1 : ACode := .seq (.seq (.post [0, 3, 5, 6, 34] (.region weftref32_Order.r8)) (.post [0, 3, 5, 6] (.cond (.t 34) (.skip) (.exit 2)))) (.seq (.post [0, 3, 5, 6] (.block 3 (.post [0, 3, 5, 6] (.draw [0, 0, 0, 0, 12, 28, 60, 126, 0, 0, 0, 1536, 3584, 7680, 16382, 32766, 65534, 131071, 262143] weftref32_Order.r9)))) (.post [0, 3, 5, 6] (.region weftref32_Order.r10)))
def weftref32_Order.r11 : List AStep := [
  ⟨some 7, none, .op (.mov (.c (.sl none 0 0)))⟩]
def weftref32_Order.r12 : List AStep := [
  ⟨some 55, none, .op (.mov (.t 3))⟩,
  ⟨some 56, none, .op (.len false (.t 55))⟩,
  ⟨some 57, none, .op (.mov (.t 5))⟩,
  ⟨some 58, none, .call n_weftref07_Parts [.t 56, .t 57]⟩,
  ⟨some 8, none, .op (.mov (.t 58))⟩]
def weftref32_Order.r13 : List AStep := [
  ⟨some 9, none, .op (.mov (.c (.i .i64 0)))⟩]
def weftref32_Order.r14 : List AStep := [
  ⟨some 59, none, .op (.mov (.t 9))⟩,
  ⟨some 60, none, .op (.mov (.t 8))⟩,
  ⟨some 61, none, .op (.len false (.t 60))⟩,
  ⟨some 62, none, .op (.bin .lss (.t 59) (.t 61))⟩]
def weftref32_Order.r15 : List AStep := [
  ⟨some 10, none, .op (.mov (.c (.sl none 0 0)))⟩]
def weftref32_Order.r16 : List AStep := [
  ⟨some 11, none, .op (.mov (.c (.i .i64 0)))⟩]
def weftref32_Order.r17 : List AStep := [
  ⟨some 65, none, .op (.mov (.t 11))⟩,
  ⟨some 66, none, .op (.mov (.t 8))⟩,
  ⟨some 67, none, .op (.mov (.t 9))⟩,
  ⟨some 68, none, .op (.iad 1 (.t 66) (.t 67))⟩,
  ⟨some 69, none, .op (.load false 1 (.t 68))⟩,
  ⟨some 70, none, .op (.len false (.t 69))⟩,
  ⟨some 71, none, .op (.bin .lss (.t 65) (.t 70))⟩]
def weftref32_Order.r18 : List AStep := [
  ⟨some 74, none, .op (.mov (.t 10))⟩,
  ⟨some 75, none, .op (.mov (.t 3))⟩,
  ⟨some 76, none, .op (.mov (.t 8))⟩,
  ⟨some 77, none, .op (.mov (.t 9))⟩,
  ⟨some 78, none, .op (.iad 1 (.t 76) (.t 77))⟩,
  ⟨some 79, none, .op (.load false 1 (.t 78))⟩,
  ⟨some 80, none, .op (.mov (.t 11))⟩,
  ⟨some 81, none, .op (.iad 1 (.t 79) (.t 80))⟩,
  ⟨some 82, none, .op (.load false 1 (.t 81))⟩,
  ⟨some 83, none, .op (.iad 1 (.t 75) (.t 82))⟩,
  ⟨some 84, none, .op (.load false 1 (.t 83))⟩,
  ⟨some 85, none, .op (.bfz 1 1 [.s []] [(0, 1, .t 84)])⟩,
  ⟨some 86, none, .op (.app 1 16 (.t 74) (.t 85))⟩,
  ⟨some 10, none, .op (.mov (.t 86))⟩]
def weftref32_Order.r19 : List AStep := [
  ⟨some 72, none, .op (.mov (.t 11))⟩,
  ⟨some 73, none, .op (.bin .add (.t 72) (.c (.i .i64 1)))⟩,
  ⟨some 11, none, .op (.mov (.t 73))⟩]
def weftref32_Order.l3 : ACode := .seq (.seq (.post [3, 7, 8, 9, 10, 11, 71] (.region weftref32_Order.r17)) (.post [3, 7, 8, 9, 10, 11] (.cond (.t 71) (.skip) (.exit 6)))) (.seq (.post [3, 7, 8, 9, 10, 11] (.block 7 (.post [3, 7, 8, 9, 10, 11] (.region weftref32_Order.r18)))) (.post [3, 7, 8, 9, 10, 11] (.region weftref32_Order.r19)))
def weftref32_Order.r20 : List AStep := [
  ⟨some 87, none, .op (.mov (.t 7))⟩,
  ⟨some 88, none, .op (.mov (.t 10))⟩,
  ⟨some 89, none, .op (.bfz 1 1 [.sl none 0 0] [(0, 1, .t 88)])⟩,
  ⟨some 90, none, .op (.app 1 24 (.t 87) (.t 89))⟩,
  ⟨some 7, none, .op (.mov (.t 90))⟩]
def weftref32_Order.r21 : List AStep := [
  ⟨some 63, none, .op (.mov (.t 9))⟩,
  ⟨some 64, none, .op (.bin .add (.t 63) (.c (.i .i64 1)))⟩,
  ⟨some 9, none, .op (.mov (.t 64))⟩]
def weftref32_Order.l2 : ACode := .seq (.seq (.post [3, 7, 8, 9, 62] (.region weftref32_Order.r14)) (.post [3, 7, 8, 9] (.cond (.t 62) (.skip) (.exit 4)))) (.seq (.post [3, 7, 8, 9] (.block 5 (.seq (.post [3, 7, 8, 9, 10] (.region weftref32_Order.r15)) (.seq (.seq (.post [3, 7, 8, 9, 10, 11] (.region weftref32_Order.r16)) (.post [3, 7, 8, 9, 10] (.block 6 (.loop weftref32_Order.l3)))) (.post [3, 7, 8, 9] (.region weftref32_Order.r20)))))) (.post [3, 7, 8, 9] (.region weftref32_Order.r21)))
def weftref32_Order.r22 : List AStep := [
  ⟨some 91, none, .op (.mov (.t 7))⟩,
  ⟨some 2, none, .op (.mov (.t 91))⟩]
def weftref32_Order : AFunc := ⟨92, [.t 2], .seq (.post [0] (.region weftref32_Order.r0)) (.seq (.post [0, 3] (.region weftref32_Order.r1)) (.seq (.seq (.post [0, 3, 4] (.region weftref32_Order.r2)) (.post [0, 3] (.block 0 (.loop weftref32_Order.l0)))) (.seq (.post [0, 3, 5] (.region weftref32_Order.r6)) (.seq (.seq (.post [0, 3, 5, 6] (.region weftref32_Order.r7)) (.post [3, 5] (.block 2 (.loop weftref32_Order.l1)))) (.seq (.post [3, 5, 7] (.region weftref32_Order.r11)) (.seq (.post [3, 7, 8] (.region weftref32_Order.r12)) (.seq (.seq (.post [3, 7, 8, 9] (.region weftref32_Order.r13)) (.post [7] (.block 4 (.loop weftref32_Order.l2)))) (.seq (.post [2] (.region weftref32_Order.r22)) (.ret)))))))))⟩
theorem weftref32_Order.ok : okFunc Tryz.prog Tryz.f20 weftref32_Order = true := by kernel_rfl
theorem weftref32_Order.at : Tryz.prog.funcs[n_weftref32_Order]? = some Tryz.f20 := Tryz.func20
def weftref05_Sorted.r0 : List AStep := [
  ⟨some 2, none, .op (.mov (.c (.sl none 0 0)))⟩]
def weftref05_Sorted.r1 : List AStep := [
  ⟨some 3, none, .op (.mov (.c (.sl none 0 0)))⟩]
def weftref05_Sorted.r2 : List AStep := [
  ⟨some 4, none, .op (.mov (.c (.i .i64 0)))⟩]
def weftref05_Sorted.r3 : List AStep := [
  ⟨some 5, none, .op (.mov (.t 4))⟩,
  ⟨some 6, none, .op (.mov (.t 0))⟩,
  ⟨some 7, none, .op (.len false (.t 6))⟩,
  ⟨some 8, none, .op (.bin .lss (.t 5) (.t 7))⟩]
def weftref05_Sorted.r4 : List AStep := [
  ⟨some 11, none, .op (.mov (.t 3))⟩,
  ⟨some 12, none, .op (.mov (.t 0))⟩,
  ⟨some 13, none, .op (.mov (.t 4))⟩,
  ⟨some 14, none, .op (.iad 1 (.t 12) (.t 13))⟩,
  ⟨some 15, none, .op (.load false 1 (.t 14))⟩,
  ⟨some 16, none, .call n_weftref05_Into [.t 11, .t 15]⟩,
  ⟨some 3, none, .op (.mov (.t 16))⟩]
def weftref05_Sorted.r5 : List AStep := [
  ⟨some 9, none, .op (.mov (.t 4))⟩,
  ⟨some 10, none, .op (.bin .add (.t 9) (.c (.i .i64 1)))⟩,
  ⟨some 4, none, .op (.mov (.t 10))⟩]
def weftref05_Sorted.l0 : ACode := .seq (.seq (.post [0, 3, 4, 8] (.region weftref05_Sorted.r3)) (.post [0, 3, 4] (.cond (.t 8) (.skip) (.exit 0)))) (.seq (.post [0, 3, 4] (.block 1 (.post [0, 3, 4] (.region weftref05_Sorted.r4)))) (.post [0, 3, 4] (.region weftref05_Sorted.r5)))
def weftref05_Sorted.r6 : List AStep := [
  ⟨some 17, none, .op (.mov (.t 3))⟩,
  ⟨some 2, none, .op (.mov (.t 17))⟩]
def weftref05_Sorted : AFunc := ⟨18, [.t 2], .seq (.post [0] (.region weftref05_Sorted.r0)) (.seq (.post [0, 3] (.region weftref05_Sorted.r1)) (.seq (.seq (.post [0, 3, 4] (.region weftref05_Sorted.r2)) (.post [3] (.block 0 (.loop weftref05_Sorted.l0)))) (.seq (.post [2] (.region weftref05_Sorted.r6)) (.ret))))⟩
theorem weftref05_Sorted.ok : okFunc Tryz.prog Tryz.f39 weftref05_Sorted = true := by kernel_rfl
theorem weftref05_Sorted.at : Tryz.prog.funcs[n_weftref05_Sorted]? = some Tryz.f39 := Tryz.func39
def weftref32_Reach.r0 : List AStep := [
  ⟨some 4, none, .op (.mov (.c (.sl none 0 0)))⟩]
def weftref32_Reach.r1 : List AStep := [
  ⟨some 8, none, .op (.mov (.t 1))⟩,
  ⟨some 9, none, .call n_weftref05_Sorted [.t 8]⟩,
  ⟨some 5, none, .op (.mov (.t 9))⟩]
def weftref32_Reach.r2 : List AStep := [
  ⟨some 10, none, .op (.mov (.t 5))⟩,
  ⟨some 11, none, .op (.len false (.t 10))⟩,
  ⟨some 6, none, .op (.mov (.t 11))⟩]
def weftref32_Reach.r3 : List AStep := [
  ⟨some 7, none, .op (.mov (.c (.i .i64 0)))⟩]
def weftref32_Reach.r4 : List AStep := [
  ⟨some 12, none, .op (.mov (.t 7))⟩,
  ⟨some 13, none, .op (.mov (.t 0))⟩,
  ⟨some 14, none, .op (.len false (.t 13))⟩,
  ⟨some 15, none, .op (.bin .lss (.t 12) (.t 14))⟩]
def weftref32_Reach.r5 : List AStep := [
  ⟨some 18, none, .op (.mov (.t 5))⟩,
  ⟨some 19, none, .op (.mov (.t 0))⟩,
  ⟨some 20, none, .op (.mov (.t 7))⟩,
  ⟨some 21, none, .op (.iad 2 (.t 19) (.t 20))⟩,
  ⟨some 22, none, .op (.fadr 0 (.t 21))⟩,
  ⟨some 23, none, .op (.load false 1 (.t 22))⟩,
  ⟨some 24, none, .call n_weftref05_Number [.t 18, .t 23]⟩,
  ⟨some 25, none, .op (.bin .geq (.t 24) (.c (.i .i64 0)))⟩]
def weftref32_Reach.r6 : List AStep := [
  ⟨some 26, none, .op (.mov (.t 5))⟩,
  ⟨some 27, none, .op (.mov (.t 0))⟩,
  ⟨some 28, none, .op (.mov (.t 7))⟩,
  ⟨some 29, none, .op (.iad 2 (.t 27) (.t 28))⟩,
  ⟨some 30, none, .op (.fadr 1 (.t 29))⟩,
  ⟨some 31, none, .op (.load false 1 (.t 30))⟩,
  ⟨some 32, none, .call n_weftref05_Into [.t 26, .t 31]⟩,
  ⟨some 5, none, .op (.mov (.t 32))⟩]
def weftref32_Reach.r7 : List AStep := [
  ⟨some 16, none, .op (.mov (.t 7))⟩,
  ⟨some 17, none, .op (.bin .add (.t 16) (.c (.i .i64 1)))⟩,
  ⟨some 7, none, .op (.mov (.t 17))⟩]
def weftref32_Reach.l1 : ACode := .seq (.seq (.post [0, 5, 6, 7, 15] (.region weftref32_Reach.r4)) (.post [0, 5, 6, 7] (.cond (.t 15) (.skip) (.exit 2)))) (.seq (.post [0, 5, 6, 7] (.block 3 (.seq (.post [0, 5, 6, 7, 25] (.region weftref32_Reach.r5)) (.post [0, 5, 6, 7] (.cond (.t 25) (.post [0, 5, 6, 7] (.region weftref32_Reach.r6)) (.skip)))))) (.post [0, 5, 6, 7] (.region weftref32_Reach.r7)))
def weftref32_Reach.r8 : List AStep := [
  ⟨some 33, none, .op (.mov (.t 5))⟩,
  ⟨some 34, none, .op (.len false (.t 33))⟩,
  ⟨some 35, none, .op (.mov (.t 6))⟩,
  ⟨some 36, none, .op (.bin .eql (.t 34) (.t 35))⟩]
def weftref32_Reach.r9 : List AStep := [
  ⟨some 37, none, .op (.mov (.t 5))⟩,
  ⟨some 4, none, .op (.mov (.t 37))⟩]
def weftref32_Reach.l0 : ACode := .post [0, 5] (.block 1 (.seq (.post [0, 5, 6] (.region weftref32_Reach.r2)) (.seq (.seq (.post [0, 5, 6, 7] (.region weftref32_Reach.r3)) (.post [0, 5, 6] (.block 2 (.loop weftref32_Reach.l1)))) (.seq (.post [0, 5, 36] (.region weftref32_Reach.r8)) (.post [0, 5] (.cond (.t 36) (.seq (.post [4] (.region weftref32_Reach.r9)) (.ret)) (.skip)))))))
def weftref32_Reach : AFunc := ⟨38, [.t 4], .seq (.post [0, 1] (.region weftref32_Reach.r0)) (.seq (.post [0, 5] (.region weftref32_Reach.r1)) (.post [4] (.block 0 (.loop weftref32_Reach.l0))))⟩
theorem weftref32_Reach.ok : okFunc Tryz.prog Tryz.f22 weftref32_Reach = true := by kernel_rfl
theorem weftref32_Reach.at : Tryz.prog.funcs[n_weftref32_Reach]? = some Tryz.f22 := Tryz.func22
def weftlaw32_QueryReach.r0 : List AStep := [
  ⟨some 4, none, .op (.mov (.c (.b false)))⟩]
def weftlaw32_QueryReach.r1 : List AStep := [
  ⟨some 8, none, .op (.mov (.t 0))⟩,
  ⟨some 9, none, .call n_weftlaw32_greatEdges [.t 8]⟩,
  ⟨some 10, none, .op (.mov (.t 9))⟩,
  ⟨some 11, (some (10, false)), .op (.mov (.t 1))⟩,
  ⟨some 12, (some (10, false)), .call n_weftlaw21_GreatTexts [.t 11]⟩,
  ⟨some 13, none, .op (.pick (.t 10) (.c (.b true)) (.t 12))⟩]
def weftlaw32_QueryReach.r2 : List AStep := [
  ⟨some 4, none, .op (.mov (.c (.b true)))⟩]
def weftlaw32_QueryReach.r3 : List AStep := [
  ⟨some 14, none, .op (.mov (.t 0))⟩,
  ⟨some 15, none, .call n_weftlaw32_edges [.t 14]⟩,
  ⟨some 16, none, .call n_query_Order [.t 15]⟩,
  ⟨some 17, none, .op (.mov (.t 0))⟩,
  ⟨some 18, none, .call n_weftref32_Order [.t 17]⟩,
  ⟨some 5, none, .op (.mov (.t 16))⟩,
  ⟨some 6, none, .op (.mov (.t 18))⟩]
def weftlaw32_QueryReach.r4 : List AStep := [
  ⟨some 19, none, .op (.mov (.t 5))⟩,
  ⟨some 20, none, .op (.len false (.t 19))⟩,
  ⟨some 21, none, .op (.mov (.t 6))⟩,
  ⟨some 22, none, .op (.len false (.t 21))⟩,
  ⟨some 23, none, .op (.bin .neq (.t 20) (.t 22))⟩,
  ⟨some 24, none, .op (.mov (.t 23))⟩,
  ⟨some 25, (some (24, false)), .op (.mov (.t 0))⟩,
  ⟨some 26, (some (24, false)), .call n_weftlaw32_edges [.t 25]⟩,
  ⟨some 27, (some (24, false)), .op (.mov (.t 1))⟩,
  ⟨some 28, (some (24, false)), .call n_query_Reach [.t 26, .t 27]⟩,
  ⟨some 29, (some (24, false)), .op (.mov (.t 0))⟩,
  ⟨some 30, (some (24, false)), .op (.mov (.t 1))⟩,
  ⟨some 31, (some (24, false)), .call n_weftref32_Reach [.t 29, .t 30]⟩,
  ⟨some 32, (some (24, false)), .call n_weftref05_Same [.t 28, .t 31]⟩,
  ⟨some 33, (some (24, false)), .op (.un .not (.t 32))⟩,
  ⟨some 34, none, .op (.pick (.t 24) (.c (.b true)) (.t 33))⟩]
def weftlaw32_QueryReach.r5 : List AStep := [
  ⟨some 4, none, .op (.mov (.c (.b false)))⟩]
def weftlaw32_QueryReach.r6 : List AStep := [
  ⟨some 7, none, .op (.mov (.c (.i .i64 0)))⟩]
def weftlaw32_QueryReach.r7 : List AStep := [
  ⟨some 35, none, .op (.mov (.t 7))⟩,
  ⟨some 36, none, .op (.mov (.t 5))⟩,
  ⟨some 37, none, .op (.len false (.t 36))⟩,
  ⟨some 38, none, .op (.bin .lss (.t 35) (.t 37))⟩,
  ⟨some 39, none, .op (.mov (.t 38))⟩,
  ⟨some 40, (some (39, true)), .op (.mov (.t 7))⟩,
  ⟨some 41, (some (39, true)), .op (.mov (.t 6))⟩,
  ⟨some 42, (some (39, true)), .op (.len false (.t 41))⟩,
  ⟨some 43, (some (39, true)), .op (.bin .lss (.t 40) (.t 42))⟩,
  ⟨some 44, none, .op (.pick (.t 39) (.t 43) (.c (.b false)))⟩]
def weftlaw32_QueryReach.r8 : List AStep := [
  ⟨some 47, none, .op (.mov (.t 5))⟩,
  ⟨some 48, none, .op (.mov (.t 7))⟩,
  ⟨some 49, none, .op (.iad 1 (.t 47) (.t 48))⟩,
  ⟨some 50, none, .op (.load false 1 (.t 49))⟩,
  ⟨some 51, none, .op (.mov (.t 6))⟩,
  ⟨some 52, none, .op (.mov (.t 7))⟩,
  ⟨some 53, none, .op (.iad 1 (.t 51) (.t 52))⟩,
  ⟨some 54, none, .op (.load false 1 (.t 53))⟩,
  ⟨some 55, none, .call n_weftref05_Same [.t 50, .t 54]⟩,
  ⟨some 56, none, .op (.un .not (.t 55))⟩]
def weftlaw32_QueryReach.r9 : List AStep := [
  ⟨some 4, none, .op (.mov (.c (.b false)))⟩]
def weftlaw32_QueryReach.r10 : List AStep := [
  ⟨some 45, none, .op (.mov (.t 7))⟩,
  ⟨some 46, none, .op (.bin .add (.t 45) (.c (.i .i64 1)))⟩,
  ⟨some 7, none, .op (.mov (.t 46))⟩]
def weftlaw32_QueryReach.l0 : ACode := .seq (.seq (.post [5, 6, 7, 44] (.region weftlaw32_QueryReach.r7)) (.post [5, 6, 7] (.cond (.t 44) (.skip) (.exit 0)))) (.seq (.post [5, 6, 7] (.block 1 (.seq (.post [5, 6, 7, 56] (.draw [0, 0, 3, 7, 0, 0, 48, 112, 255, 511] weftlaw32_QueryReach.r8)) (.post [5, 6, 7] (.cond (.t 56) (.seq (.post [4] (.region weftlaw32_QueryReach.r9)) (.ret)) (.skip)))))) (.post [5, 6, 7] (.region weftlaw32_QueryReach.r10)))
def weftlaw32_QueryReach.r11 : List AStep := [
  ⟨some 57, none, .call n_weftlaw32_works []⟩,
  ⟨some 4, none, .op (.mov (.t 57))⟩]
def weftlaw32_QueryReach : AFunc := ⟨58, [.t 4], .seq (.post [0, 1] (.region weftlaw32_QueryReach.r0)) (.seq (.seq (.post [0, 1, 13] (.region weftlaw32_QueryReach.r1)) (.post [0, 1] (.cond (.t 13) (.seq (.post [4] (.region weftlaw32_QueryReach.r2)) (.ret)) (.skip)))) (.seq (.post [0, 1, 5, 6] (.region weftlaw32_QueryReach.r3)) (.seq (.seq (.post [5, 6, 34] (.region weftlaw32_QueryReach.r4)) (.post [5, 6] (.cond (.t 34) (.seq (.post [4] (.region weftlaw32_QueryReach.r5)) (.ret)) (.skip)))) (.seq (.seq (.post [5, 6, 7] (.region weftlaw32_QueryReach.r6)) (.post [] (.block 0 (.loop weftlaw32_QueryReach.l0)))) (.seq (.post [4] (.region weftlaw32_QueryReach.r11)) (.ret))))))⟩
theorem weftlaw32_QueryReach.ok : okFunc Tryz.prog Tryz.f4 weftlaw32_QueryReach = true := by kernel_rfl
theorem weftlaw32_QueryReach.at : Tryz.prog.funcs[n_weftlaw32_QueryReach]? = some Tryz.f4 := Tryz.func4
end C
end Go.Proofs.YtggjaoibcfgofaaGreatDoor
