/- What the law QueryFacts alone needs: CodeA. -/
import Derived.Test.YtggjaoibcfgofaaGreatDoorProg
import Derived.Test.YtggjaoibcfgofaaGreatDoorW0
import Derived.Test.YtggjaoibcfgofaaGreatDoorW1
import Derived.Test.YtggjaoibcfgofaaGreatDoorW2
import Derived.Test.YtggjaoibcfgofaaGreatDoorW3
import Derived.Test.YtggjaoibcfgofaaGreatDoorW4
import Derived.Test.YtggjaoibcfgofaaGreatDoorW5
import Derived.Test.YtggjaoibcfgofaaGreatDoorW6
import Derived.Test.YtggjaoibcfgofaaGreatDoorW7
import Derived.Test.YtggjaoibcfgofaaGreatDoorW8
import Derived.Test.YtggjaoibcfgofaaGreatDoorW9
import Derived.Test.YtggjaoibcfgofaaGreatDoorW10
import Derived.Test.YtggjaoibcfgofaaGreatDoorW11
import Derived.Test.YtggjaoibcfgofaaGreatDoorW12
import Derived.Test.YtggjaoibcfgofaaGreatDoorW13
import Derived.Test.YtggjaoibcfgofaaGreatDoorW14
import Derived.Test.YtggjaoibcfgofaaGreatDoorW15
import Derived.Test.YtggjaoibcfgofaaGreatDoorW16
import Derived.Test.YtggjaoibcfgofaaGreatDoorW17
import Derived.Test.YtggjaoibcfgofaaGreatDoorW18
import Derived.Test.YtggjaoibcfgofaaGreatDoorW19
import Derived.Test.YtggjaoibcfgofaaGreatDoorW20
import Derived.Test.YtggjaoibcfgofaaGreatDoorW21
import Derived.Test.YtggjaoibcfgofaaGreatDoorW22
import Derived.Test.YtggjaoibcfgofaaGreatDoorW23
import Derived.Test.YtggjaoibcfgofaaGreatDoorW24
import Derived.Test.YtggjaoibcfgofaaGreatDoorW25
import Derived.Test.YtggjaoibcfgofaaGreatDoorW26
import Derived.Test.YtggjaoibcfgofaaGreatDoorW27
import Derived.Test.YtggjaoibcfgofaaGreatDoorW28
import Derived.Test.YtggjaoibcfgofaaGreatDoorW29
import Derived.Test.YtggjaoibcfgofaaGreatDoorW30
import Derived.Test.YtggjaoibcfgofaaGreatDoorW31
namespace Go.Proofs.YtggjaoibcfgofaaGreatDoor
open Am Go.Proofs
set_option maxRecDepth 100000
namespace C
def n_weftref17_Of : FuncId := 29
def n_weftref32_Alias : FuncId := 9
def n_weftref01_letter : FuncId := 94
def n_weftref01_digit : FuncId := 75
def n_weftref01_Split : FuncId := 74
def n_weftref01_Read : FuncId := 50
def n_weftref14_parts : FuncId := 49
def n_weftref14_count : FuncId := 95
def n_weftref01_Name : FuncId := 96
def n_weftref14_Right : FuncId := 76
def n_weftref01_plain : FuncId := 97
def n_weftref01_Text : FuncId := 77
def n_weftref14_Text : FuncId := 51
def n_weftref14_Read : FuncId := 32
def n_weftref32_Callees : FuncId := 12
def n_weftref32_Holders : FuncId := 14
def n_weftlaw32_QueryFacts : FuncId := 3
def weftref17_Of.r0 : List AStep := [
  ⟨some 4, none, .op (.mov (.c (.sl none 0 0)))⟩]
def weftref17_Of.r1 : List AStep := [
  ⟨some 5, none, .op (.mov (.c (.i .i64 0)))⟩]
def weftref17_Of.r2 : List AStep := [
  ⟨some 6, none, .op (.mov (.t 5))⟩,
  ⟨some 7, none, .op (.mov (.t 0))⟩,
  ⟨some 8, none, .op (.len false (.t 7))⟩,
  ⟨some 9, none, .op (.bin .lss (.t 6) (.t 8))⟩]
def weftref17_Of.r3 : List AStep := [
  ⟨some 12, none, .op (.mov (.t 0))⟩,
  ⟨some 13, none, .op (.mov (.t 5))⟩,
  ⟨some 14, none, .op (.iad 2 (.t 12) (.t 13))⟩,
  ⟨some 15, none, .op (.fadr 0 (.t 14))⟩,
  ⟨some 16, none, .op (.load false 1 (.t 15))⟩,
  ⟨some 17, none, .op (.mov (.t 1))⟩,
  ⟨some 18, none, .op (.bin .eql (.t 16) (.t 17))⟩]
def weftref17_Of.r4 : List AStep := [
  ⟨some 19, none, .op (.bz 1)⟩,
  ⟨some 20, none, .op (.mov (.t 0))⟩,
  ⟨some 21, none, .op (.mov (.t 5))⟩,
  ⟨some 22, none, .op (.iad 2 (.t 20) (.t 21))⟩,
  ⟨some 23, none, .op (.fadr 1 (.t 22))⟩,
  ⟨some 24, none, .op (.load false 1 (.t 23))⟩,
  ⟨some 25, none, .op (.app 1 16 (.t 19) (.t 24))⟩,
  ⟨some 4, none, .op (.mov (.t 25))⟩]
def weftref17_Of.r5 : List AStep := [
  ⟨some 10, none, .op (.mov (.t 5))⟩,
  ⟨some 11, none, .op (.bin .add (.t 10) (.c (.i .i64 1)))⟩,
  ⟨some 5, none, .op (.mov (.t 11))⟩]
def weftref17_Of.l0 : ACode := .seq (.seq (.post [0, 1, 5, 9] (.region weftref17_Of.r2)) (.post [0, 1, 5] (.cond (.t 9) (.skip) (.exit 0)))) (.seq (.post [0, 1, 5] (.block 1 (.seq (.post [0, 1, 5, 18] (.region weftref17_Of.r3)) (.post [0, 1, 5] (.cond (.t 18) (.seq (.post [4] (.region weftref17_Of.r4)) (.ret)) (.skip)))))) (.post [0, 1, 5] (.region weftref17_Of.r5)))
def weftref17_Of.r6 : List AStep := [
  ⟨some 4, none, .op (.mov (.c (.sl none 0 0)))⟩]
def weftref17_Of : AFunc := ⟨26, [.t 4], .seq (.post [0, 1] (.region weftref17_Of.r0)) (.seq (.seq (.post [0, 1, 5] (.region weftref17_Of.r1)) (.post [] (.block 0 (.loop weftref17_Of.l0)))) (.seq (.post [4] (.region weftref17_Of.r6)) (.ret)))⟩
theorem weftref17_Of.ok : okFunc Tryz.prog Tryz.f29 weftref17_Of = true := by kernel_rfl
theorem weftref17_Of.at : Tryz.prog.funcs[n_weftref17_Of]? = some Tryz.f29 := Tryz.func29
def weftref32_Alias.r0 : List AStep := [
  ⟨some 6, none, .op (.mov (.c (.b false)))⟩]
def weftref32_Alias.r1 : List AStep := [
  ⟨some 10, none, .op (.mov (.t 0))⟩,
  ⟨some 11, none, .op (.mov (.t 1))⟩,
  ⟨some 12, none, .call n_weftref17_Of [.t 10, .t 11]⟩,
  ⟨some 13, none, .op (.mov (.t 0))⟩,
  ⟨some 14, none, .op (.mov (.t 2))⟩,
  ⟨some 15, none, .call n_weftref17_Of [.t 13, .t 14]⟩,
  ⟨some 7, none, .op (.mov (.t 12))⟩,
  ⟨some 8, none, .op (.mov (.t 15))⟩]
def weftref32_Alias.r2 : List AStep := [
  ⟨some 9, none, .op (.mov (.c (.i .i64 0)))⟩]
def weftref32_Alias.r3 : List AStep := [
  ⟨some 16, none, .op (.mov (.t 9))⟩,
  ⟨some 17, none, .op (.mov (.t 7))⟩,
  ⟨some 18, none, .op (.len false (.t 17))⟩,
  ⟨some 19, none, .op (.bin .lss (.t 16) (.t 18))⟩]
def weftref32_Alias.r4 : List AStep := [
  ⟨some 22, none, .op (.mov (.t 8))⟩,
  ⟨some 23, none, .op (.mov (.t 7))⟩,
  ⟨some 24, none, .op (.mov (.t 9))⟩,
  ⟨some 25, none, .op (.iad 1 (.t 23) (.t 24))⟩,
  ⟨some 26, none, .op (.load false 1 (.t 25))⟩,
  ⟨some 27, none, .call n_weftref05_Number [.t 22, .t 26]⟩,
  ⟨some 28, none, .op (.bin .geq (.t 27) (.c (.i .i64 0)))⟩]
def weftref32_Alias.r5 : List AStep := [
  ⟨some 6, none, .op (.mov (.c (.b true)))⟩]
def weftref32_Alias.r6 : List AStep := [
  ⟨some 20, none, .op (.mov (.t 9))⟩,
  ⟨some 21, none, .op (.bin .add (.t 20) (.c (.i .i64 1)))⟩,
  ⟨some 9, none, .op (.mov (.t 21))⟩]
def weftref32_Alias.l0 : ACode := .seq (.seq (.post [7, 8, 9, 19] (.region weftref32_Alias.r3)) (.post [7, 8, 9] (.cond (.t 19) (.skip) (.exit 0)))) (.seq (.post [7, 8, 9] (.block 1 (.seq (.post [7, 8, 9, 28] (.region weftref32_Alias.r4)) (.post [7, 8, 9] (.cond (.t 28) (.seq (.post [6] (.region weftref32_Alias.r5)) (.ret)) (.skip)))))) (.post [7, 8, 9] (.region weftref32_Alias.r6)))
def weftref32_Alias.r7 : List AStep := [
  ⟨some 6, none, .op (.mov (.c (.b false)))⟩]
def weftref32_Alias : AFunc := ⟨29, [.t 6], .seq (.post [0, 1, 2] (.region weftref32_Alias.r0)) (.seq (.post [7, 8] (.region weftref32_Alias.r1)) (.seq (.seq (.post [7, 8, 9] (.region weftref32_Alias.r2)) (.post [] (.block 0 (.loop weftref32_Alias.l0)))) (.seq (.post [6] (.region weftref32_Alias.r7)) (.ret))))⟩
theorem weftref32_Alias.ok : okFunc Tryz.prog Tryz.f9 weftref32_Alias = true := by kernel_rfl
theorem weftref32_Alias.at : Tryz.prog.funcs[n_weftref32_Alias]? = some Tryz.f9 := Tryz.func9
def weftref01_letter.r0 : List AStep := [
  ⟨some 2, none, .op (.mov (.c (.b false)))⟩]
def weftref01_letter.r1 : List AStep := [
  ⟨some 3, none, .op (.mov (.t 0))⟩,
  ⟨some 4, none, .op (.bin .geq (.t 3) (.c (.i .u8 65)))⟩,
  ⟨some 5, none, .op (.mov (.t 4))⟩,
  ⟨some 6, (some (5, true)), .op (.mov (.t 0))⟩,
  ⟨some 7, (some (5, true)), .op (.bin .leq (.t 6) (.c (.i .u8 90)))⟩,
  ⟨some 8, none, .op (.pick (.t 5) (.t 7) (.c (.b false)))⟩,
  ⟨some 9, none, .op (.mov (.t 8))⟩,
  ⟨some 10, (some (9, false)), .op (.mov (.t 0))⟩,
  ⟨some 11, (some (9, false)), .op (.bin .geq (.t 10) (.c (.i .u8 97)))⟩,
  ⟨some 12, (some (9, false)), .op (.mov (.t 11))⟩,
  ⟨some 13, (some (12, true)), .op (.mov (.t 0))⟩,
  ⟨some 14, (some (12, true)), .op (.bin .leq (.t 13) (.c (.i .u8 122)))⟩,
  ⟨some 15, (some (9, false)), .op (.pick (.t 12) (.t 14) (.c (.b false)))⟩,
  ⟨some 16, none, .op (.pick (.t 9) (.c (.b true)) (.t 15))⟩,
  ⟨some 17, none, .op (.mov (.t 16))⟩,
  ⟨some 18, (some (17, false)), .op (.mov (.t 0))⟩,
  ⟨some 19, (some (17, false)), .op (.bin .eql (.t 18) (.c (.i .u8 95)))⟩,
  ⟨some 20, none, .op (.pick (.t 17) (.c (.b true)) (.t 19))⟩,
  ⟨some 2, none, .op (.mov (.t 20))⟩]
def weftref01_letter : AFunc := ⟨21, [.t 2], .seq (.post [0] (.region weftref01_letter.r0)) (.seq (.post [2] (.region weftref01_letter.r1)) (.ret))⟩
theorem weftref01_letter.ok : okFunc Tryz.prog Tryz.f94 weftref01_letter = true := by kernel_rfl
theorem weftref01_letter.at : Tryz.prog.funcs[n_weftref01_letter]? = some Tryz.f94 := Tryz.func94
def weftref01_digit.r0 : List AStep := [
  ⟨some 2, none, .op (.mov (.c (.b false)))⟩]
def weftref01_digit.r1 : List AStep := [
  ⟨some 3, none, .op (.mov (.t 0))⟩,
  ⟨some 4, none, .op (.bin .geq (.t 3) (.c (.i .u8 48)))⟩,
  ⟨some 5, none, .op (.mov (.t 4))⟩,
  ⟨some 6, (some (5, true)), .op (.mov (.t 0))⟩,
  ⟨some 7, (some (5, true)), .op (.bin .leq (.t 6) (.c (.i .u8 57)))⟩,
  ⟨some 8, none, .op (.pick (.t 5) (.t 7) (.c (.b false)))⟩,
  ⟨some 2, none, .op (.mov (.t 8))⟩]
def weftref01_digit : AFunc := ⟨9, [.t 2], .seq (.post [0] (.region weftref01_digit.r0)) (.seq (.post [2] (.region weftref01_digit.r1)) (.ret))⟩
theorem weftref01_digit.ok : okFunc Tryz.prog Tryz.f75 weftref01_digit = true := by kernel_rfl
theorem weftref01_digit.at : Tryz.prog.funcs[n_weftref01_digit]? = some Tryz.f75 := Tryz.func75
def weftref01_Split.r0 : List AStep := [
  ⟨some 2, none, .op (.mov (.c (.s [])))⟩,
  ⟨some 3, none, .op (.mov (.c (.s [])))⟩]
def weftref01_Split.r1 : List AStep := [
  ⟨some 6, none, .op (.mov (.t 0))⟩,
  ⟨some 7, none, .op (.len true (.t 6))⟩,
  ⟨some 8, none, .op (.bin .gtr (.t 7) (.c (.i .i64 0)))⟩,
  ⟨some 9, none, .op (.mov (.t 8))⟩,
  ⟨some 10, (some (9, true)), .op (.mov (.t 0))⟩,
  ⟨some 11, (some (9, true)), .op (.idx (.t 10) (.c (.i .i64 0)))⟩,
  ⟨some 12, (some (9, true)), .call n_weftref01_letter [.t 11]⟩,
  ⟨some 13, none, .op (.pick (.t 9) (.t 12) (.c (.b false)))⟩,
  ⟨some 4, none, .op (.mov (.t 13))⟩]
def weftref01_Split.r2 : List AStep := [
  ⟨some 5, none, .op (.mov (.c (.i .i64 0)))⟩]
def weftref01_Split.r3 : List AStep := [
  ⟨some 14, none, .op (.mov (.t 5))⟩,
  ⟨some 15, none, .op (.mov (.t 0))⟩,
  ⟨some 16, none, .op (.len true (.t 15))⟩,
  ⟨some 17, none, .op (.bin .lss (.t 14) (.t 16))⟩,
  ⟨some 18, none, .op (.mov (.t 17))⟩,
  ⟨some 19, (some (18, true)), .op (.mov (.t 0))⟩,
  ⟨some 20, (some (18, true)), .op (.mov (.t 5))⟩,
  ⟨some 21, (some (18, true)), .op (.idx (.t 19) (.t 20))⟩,
  ⟨some 22, (some (18, true)), .call n_weftref01_digit [.t 21]⟩,
  ⟨some 23, (some (18, true)), .op (.mov (.t 22))⟩,
  ⟨some 24, (some (23, false)), .op (.mov (.t 4))⟩,
  ⟨some 25, (some (23, false)), .op (.mov (.t 24))⟩,
  ⟨some 26, (some (25, true)), .op (.mov (.t 0))⟩,
  ⟨some 27, (some (25, true)), .op (.mov (.t 5))⟩,
  ⟨some 28, (some (25, true)), .op (.idx (.t 26) (.t 27))⟩,
  ⟨some 29, (some (25, true)), .call n_weftref01_letter [.t 28]⟩,
  ⟨some 30, (some (23, false)), .op (.pick (.t 25) (.t 29) (.c (.b false)))⟩,
  ⟨some 31, (some (18, true)), .op (.pick (.t 23) (.c (.b true)) (.t 30))⟩,
  ⟨some 32, none, .op (.pick (.t 18) (.t 31) (.c (.b false)))⟩]
def weftref01_Split.r4 : List AStep := [
  ⟨some 33, none, .op (.mov (.t 5))⟩,
  ⟨some 34, none, .op (.bin .add (.t 33) (.c (.i .i64 1)))⟩,
  ⟨some 5, none, .op (.mov (.t 34))⟩]
def weftref01_Split.l0 : ACode := .seq (.seq (.post [0, 4, 5, 32] (.region weftref01_Split.r3)) (.post [0, 4, 5] (.cond (.t 32) (.skip) (.exit 0)))) (.post [0, 4, 5] (.block 1 (.post [0, 4, 5] (.region weftref01_Split.r4))))
def weftref01_Split.r5 : List AStep := [
  ⟨some 35, none, .op (.mov (.t 0))⟩,
  ⟨some 36, none, .op (.mov (.t 5))⟩,
  ⟨some 37, none, .op (.sls (.t 35) none (some (.t 36)))⟩,
  ⟨some 38, none, .op (.mov (.t 0))⟩,
  ⟨some 39, none, .op (.mov (.t 5))⟩,
  ⟨some 40, none, .op (.sls (.t 38) (some (.t 39)) none)⟩,
  ⟨some 2, none, .op (.mov (.t 37))⟩,
  ⟨some 3, none, .op (.mov (.t 40))⟩]
def weftref01_Split : AFunc := ⟨41, [.t 2, .t 3], .seq (.post [0] (.region weftref01_Split.r0)) (.seq (.post [0, 4] (.region weftref01_Split.r1)) (.seq (.post [0, 4, 5] (.region weftref01_Split.r2)) (.seq (.post [0, 5] (.block 0 (.loop weftref01_Split.l0))) (.seq (.post [2, 3] (.draw [0, 0, 3, 0, 0, 24, 7, 127] weftref01_Split.r5)) (.ret)))))⟩
theorem weftref01_Split.ok : okFunc Tryz.prog Tryz.f74 weftref01_Split = true := by kernel_rfl
theorem weftref01_Split.at : Tryz.prog.funcs[n_weftref01_Split]? = some Tryz.f74 := Tryz.func74
def weftref01_Read.r0 : List AStep := [
  ⟨some 2, none, .op (.mov (.c (.i .i64 0)))⟩,
  ⟨some 3, none, .op (.mov (.c (.i .i64 0)))⟩]
def weftref01_Read.r1 : List AStep := [
  ⟨some 7, none, .op (.mov (.t 0))⟩,
  ⟨some 8, none, .op (.bin .eql (.t 7) (.c (.s [])))⟩]
def weftref01_Read.r2 : List AStep := [
  ⟨some 2, none, .op (.mov (.c (.i .i64 0)))⟩,
  ⟨some 3, none, .op (.mov (.c (.i .i64 1)))⟩]
def weftref01_Read.r3 : List AStep := [
  ⟨some 4, none, .op (.mov (.c (.i .i64 0)))⟩]
def weftref01_Read.r4 : List AStep := [
  ⟨some 9, none, .op (.mov (.t 4))⟩,
  ⟨some 10, none, .op (.mov (.t 0))⟩,
  ⟨some 11, none, .op (.len true (.t 10))⟩,
  ⟨some 12, none, .op (.bin .lss (.t 9) (.t 11))⟩]
def weftref01_Read.r5 : List AStep := [
  ⟨some 15, none, .op (.mov (.t 0))⟩,
  ⟨some 16, none, .op (.mov (.t 4))⟩,
  ⟨some 17, none, .op (.idx (.t 15) (.t 16))⟩,
  ⟨some 18, none, .call n_weftref01_digit [.t 17]⟩,
  ⟨some 19, none, .op (.un .not (.t 18))⟩]
def weftref01_Read.r6 : List AStep := [
  ⟨some 2, none, .op (.mov (.c (.i .i64 0)))⟩,
  ⟨some 3, none, .op (.mov (.c (.i .i64 3)))⟩]
def weftref01_Read.r7 : List AStep := [
  ⟨some 13, none, .op (.mov (.t 4))⟩,
  ⟨some 14, none, .op (.bin .add (.t 13) (.c (.i .i64 1)))⟩,
  ⟨some 4, none, .op (.mov (.t 14))⟩]
def weftref01_Read.l0 : ACode := .seq (.seq (.post [0, 4, 12] (.region weftref01_Read.r4)) (.post [0, 4] (.cond (.t 12) (.skip) (.exit 0)))) (.seq (.post [0, 4] (.block 1 (.seq (.post [0, 4, 19] (.region weftref01_Read.r5)) (.post [0, 4] (.cond (.t 19) (.seq (.post [2, 3] (.region weftref01_Read.r6)) (.ret)) (.skip)))))) (.post [0, 4] (.region weftref01_Read.r7)))
def weftref01_Read.r8 : List AStep := [
  ⟨some 20, none, .op (.mov (.t 0))⟩,
  ⟨some 21, none, .op (.idx (.t 20) (.c (.i .i64 0)))⟩,
  ⟨some 22, none, .op (.bin .eql (.t 21) (.c (.i .u8 48)))⟩,
  ⟨some 23, none, .op (.mov (.t 22))⟩,
  ⟨some 24, (some (23, true)), .op (.mov (.t 0))⟩,
  ⟨some 25, (some (23, true)), .op (.len true (.t 24))⟩,
  ⟨some 26, (some (23, true)), .op (.bin .gtr (.t 25) (.c (.i .i64 1)))⟩,
  ⟨some 27, none, .op (.pick (.t 23) (.t 26) (.c (.b false)))⟩]
def weftref01_Read.r9 : List AStep := [
  ⟨some 2, none, .op (.mov (.c (.i .i64 0)))⟩,
  ⟨some 3, none, .op (.mov (.c (.i .i64 3)))⟩]
def weftref01_Read.r10 : List AStep := [
  ⟨some 5, none, .op (.mov (.c (.i .i64 0)))⟩]
def weftref01_Read.r11 : List AStep := [
  ⟨some 6, none, .op (.mov (.c (.i .i64 0)))⟩]
def weftref01_Read.r12 : List AStep := [
  ⟨some 28, none, .op (.mov (.t 6))⟩,
  ⟨some 29, none, .op (.mov (.t 0))⟩,
  ⟨some 30, none, .op (.len true (.t 29))⟩,
  ⟨some 31, none, .op (.bin .lss (.t 28) (.t 30))⟩]
def weftref01_Read.r13 : List AStep := [
  ⟨some 34, none, .op (.mov (.t 5))⟩,
  ⟨some 35, none, .op (.bin .mul (.c (.i .i64 10)) (.t 34))⟩,
  ⟨some 36, none, .op (.mov (.t 0))⟩,
  ⟨some 37, none, .op (.mov (.t 6))⟩,
  ⟨some 38, none, .op (.idx (.t 36) (.t 37))⟩,
  ⟨some 39, none, .op (.bin .sub (.t 38) (.c (.i .u8 48)))⟩,
  ⟨some 40, none, .op (.conv .i64 (.t 39))⟩,
  ⟨some 41, none, .op (.bin .add (.t 35) (.t 40))⟩,
  ⟨some 5, none, .op (.mov (.t 41))⟩]
def weftref01_Read.r14 : List AStep := [
  ⟨some 42, none, .op (.mov (.t 5))⟩,
  ⟨some 43, none, .op (.bin .gtr (.t 42) (.c (.i .i64 268435456)))⟩]
def weftref01_Read.r15 : List AStep := [
  ⟨some 2, none, .op (.mov (.c (.i .i64 0)))⟩,
  ⟨some 3, none, .op (.mov (.c (.i .i64 2)))⟩]
def weftref01_Read.r16 : List AStep := [
  ⟨some 32, none, .op (.mov (.t 6))⟩,
  ⟨some 33, none, .op (.bin .add (.t 32) (.c (.i .i64 1)))⟩,
  ⟨some 6, none, .op (.mov (.t 33))⟩]
def weftref01_Read.l1 : ACode := .seq (.seq (.post [0, 5, 6, 31] (.region weftref01_Read.r12)) (.post [0, 5, 6] (.cond (.t 31) (.skip) (.exit 2)))) (.seq (.post [0, 5, 6] (.block 3 (.seq (.post [0, 5, 6] (.region weftref01_Read.r13)) (.seq (.post [0, 5, 6, 43] (.region weftref01_Read.r14)) (.post [0, 5, 6] (.cond (.t 43) (.seq (.post [2, 3] (.region weftref01_Read.r15)) (.ret)) (.skip))))))) (.post [0, 5, 6] (.region weftref01_Read.r16)))
def weftref01_Read.r17 : List AStep := [
  ⟨some 44, none, .op (.mov (.t 5))⟩,
  ⟨some 2, none, .op (.mov (.t 44))⟩,
  ⟨some 3, none, .op (.mov (.c (.i .i64 0)))⟩]
def weftref01_Read : AFunc := ⟨45, [.t 2, .t 3], .seq (.post [0] (.region weftref01_Read.r0)) (.seq (.seq (.post [0, 8] (.region weftref01_Read.r1)) (.post [0] (.cond (.t 8) (.seq (.post [2, 3] (.region weftref01_Read.r2)) (.ret)) (.skip)))) (.seq (.seq (.post [0, 4] (.region weftref01_Read.r3)) (.post [0] (.block 0 (.loop weftref01_Read.l0)))) (.seq (.seq (.post [0, 27] (.region weftref01_Read.r8)) (.post [0] (.cond (.t 27) (.seq (.post [2, 3] (.region weftref01_Read.r9)) (.ret)) (.skip)))) (.seq (.post [0, 5] (.region weftref01_Read.r10)) (.seq (.seq (.post [0, 5, 6] (.region weftref01_Read.r11)) (.post [5] (.block 2 (.loop weftref01_Read.l1)))) (.seq (.post [2, 3] (.region weftref01_Read.r17)) (.ret)))))))⟩
theorem weftref01_Read.ok : okFunc Tryz.prog Tryz.f50 weftref01_Read = true := by kernel_rfl
theorem weftref01_Read.at : Tryz.prog.funcs[n_weftref01_Read]? = some Tryz.f50 := Tryz.func50
def weftref14_parts.r0 : List AStep := [
  ⟨some 2, none, .op (.mov (.c (.s [])))⟩,
  ⟨some 3, none, .op (.mov (.c (.i .i64 0)))⟩,
  ⟨some 4, none, .op (.mov (.c (.s [])))⟩,
  ⟨some 5, none, .op (.mov (.c (.s [])))⟩,
  ⟨some 6, none, .op (.mov (.c (.i .i64 0)))⟩]
def weftref14_parts.r1 : List AStep := [
  ⟨some 16, none, .op (.mov (.t 0))⟩,
  ⟨some 17, none, .call n_weftref01_Split [.t 16]⟩,
  ⟨some 15, none, .op (.mov (.t 17))⟩,
  ⟨some 18, none, .op (.ext 0 (.t 15))⟩,
  ⟨some 19, none, .op (.ext 1 (.t 15))⟩,
  ⟨some 7, none, .op (.mov (.t 18))⟩,
  ⟨some 8, none, .op (.mov (.t 19))⟩]
def weftref14_parts.r2 : List AStep := [
  ⟨some 9, none, .op (.mov (.c (.i .i64 0)))⟩,
  ⟨some 10, none, .op (.mov (.c (.i .i64 (-1))))⟩]
def weftref14_parts.r3 : List AStep := [
  ⟨some 20, none, .op (.mov (.t 8))⟩,
  ⟨some 21, none, .op (.bin .neq (.t 20) (.c (.s [])))⟩,
  ⟨some 22, none, .op (.mov (.t 21))⟩,
  ⟨some 23, (some (22, true)), .op (.mov (.t 8))⟩,
  ⟨some 24, (some (22, true)), .op (.idx (.t 23) (.c (.i .i64 0)))⟩,
  ⟨some 25, (some (22, true)), .op (.bin .eql (.t 24) (.c (.i .u8 126)))⟩,
  ⟨some 26, none, .op (.pick (.t 22) (.t 25) (.c (.b false)))⟩]
def weftref14_parts.r4 : List AStep := [
  ⟨some 28, none, .op (.mov (.t 8))⟩,
  ⟨some 29, none, .op (.sls (.t 28) (some (.c (.i .i64 1))) none)⟩,
  ⟨some 30, none, .call n_weftref01_Split [.t 29]⟩,
  ⟨some 27, none, .op (.mov (.t 30))⟩,
  ⟨some 31, none, .op (.ext 0 (.t 27))⟩,
  ⟨some 32, none, .op (.ext 1 (.t 27))⟩,
  ⟨some 11, none, .op (.mov (.t 31))⟩,
  ⟨some 12, none, .op (.mov (.t 32))⟩]
def weftref14_parts.r5 : List AStep := [
  ⟨some 34, none, .op (.mov (.t 11))⟩,
  ⟨some 35, none, .call n_weftref01_Read [.t 34]⟩,
  ⟨some 33, none, .op (.mov (.t 35))⟩,
  ⟨some 36, none, .op (.ext 0 (.t 33))⟩,
  ⟨some 37, none, .op (.ext 1 (.t 33))⟩,
  ⟨some 9, none, .op (.mov (.t 36))⟩]
def weftref14_parts.r6 : List AStep := [
  ⟨some 38, none, .op (.mov (.t 12))⟩,
  ⟨some 8, none, .op (.mov (.t 38))⟩]
def weftref14_parts.r7 : List AStep := [
  ⟨some 13, none, .op (.mov (.c (.s [])))⟩,
  ⟨some 14, none, .op (.mov (.c (.s [])))⟩]
def weftref14_parts.r8 : List AStep := [
  ⟨some 39, none, .op (.mov (.t 8))⟩,
  ⟨some 40, none, .op (.bin .neq (.t 39) (.c (.s [])))⟩,
  ⟨some 41, none, .op (.mov (.t 40))⟩,
  ⟨some 42, (some (41, true)), .op (.mov (.t 8))⟩,
  ⟨some 43, (some (41, true)), .op (.idx (.t 42) (.c (.i .i64 0)))⟩,
  ⟨some 44, (some (41, true)), .op (.bin .neq (.t 43) (.c (.i .u8 43)))⟩,
  ⟨some 45, none, .op (.pick (.t 41) (.t 44) (.c (.b false)))⟩]
def weftref14_parts.r9 : List AStep := [
  ⟨some 46, none, .op (.mov (.t 8))⟩,
  ⟨some 47, none, .op (.sls (.t 46) none (some (.c (.i .i64 1))))⟩,
  ⟨some 13, none, .op (.mov (.t 47))⟩]
def weftref14_parts.r10 : List AStep := [
  ⟨some 49, none, .op (.mov (.t 8))⟩,
  ⟨some 50, none, .op (.sls (.t 49) (some (.c (.i .i64 1))) none)⟩,
  ⟨some 51, none, .call n_weftref01_Split [.t 50]⟩,
  ⟨some 48, none, .op (.mov (.t 51))⟩,
  ⟨some 52, none, .op (.ext 0 (.t 48))⟩,
  ⟨some 53, none, .op (.ext 1 (.t 48))⟩,
  ⟨some 14, none, .op (.mov (.t 52))⟩,
  ⟨some 8, none, .op (.mov (.t 53))⟩]
def weftref14_parts.r11 : List AStep := [
  ⟨some 54, none, .op (.mov (.t 13))⟩,
  ⟨some 55, none, .op (.bin .eql (.t 54) (.c (.s [40])))⟩,
  ⟨some 56, none, .op (.mov (.t 55))⟩,
  ⟨some 57, (some (56, true)), .op (.mov (.t 8))⟩,
  ⟨some 58, (some (56, true)), .op (.bin .eql (.t 57) (.c (.s [41])))⟩,
  ⟨some 59, none, .op (.pick (.t 56) (.t 58) (.c (.b false)))⟩]
def weftref14_parts.r12 : List AStep := [
  ⟨some 8, none, .op (.mov (.c (.s [])))⟩]
def weftref14_parts.r13 : List AStep := [
  ⟨some 60, none, .op (.mov (.t 8))⟩,
  ⟨some 61, none, .op (.bin .neq (.t 60) (.c (.s [])))⟩,
  ⟨some 62, none, .op (.mov (.t 61))⟩,
  ⟨some 63, (some (62, true)), .op (.mov (.t 8))⟩,
  ⟨some 64, (some (62, true)), .op (.idx (.t 63) (.c (.i .i64 0)))⟩,
  ⟨some 65, (some (62, true)), .op (.bin .eql (.t 64) (.c (.i .u8 43)))⟩,
  ⟨some 66, none, .op (.pick (.t 62) (.t 65) (.c (.b false)))⟩]
def weftref14_parts.r14 : List AStep := [
  ⟨some 68, none, .op (.mov (.t 8))⟩,
  ⟨some 69, none, .op (.sls (.t 68) (some (.c (.i .i64 1))) none)⟩,
  ⟨some 70, none, .call n_weftref01_Read [.t 69]⟩,
  ⟨some 67, none, .op (.mov (.t 70))⟩,
  ⟨some 71, none, .op (.ext 0 (.t 67))⟩,
  ⟨some 72, none, .op (.ext 1 (.t 67))⟩,
  ⟨some 10, none, .op (.mov (.t 71))⟩]
def weftref14_parts.r15 : List AStep := [
  ⟨some 73, none, .op (.mov (.t 7))⟩,
  ⟨some 74, none, .op (.mov (.t 9))⟩,
  ⟨some 75, none, .op (.mov (.t 13))⟩,
  ⟨some 76, none, .op (.mov (.t 14))⟩,
  ⟨some 77, none, .op (.mov (.t 10))⟩,
  ⟨some 2, none, .op (.mov (.t 73))⟩,
  ⟨some 3, none, .op (.mov (.t 74))⟩,
  ⟨some 4, none, .op (.mov (.t 75))⟩,
  ⟨some 5, none, .op (.mov (.t 76))⟩,
  ⟨some 6, none, .op (.mov (.t 77))⟩]
def weftref14_parts : AFunc := ⟨78, [.t 2, .t 3, .t 4, .t 5, .t 6], .seq (.post [0] (.region weftref14_parts.r0)) (.seq (.post [7, 8] (.region weftref14_parts.r1)) (.seq (.post [7, 8, 9, 10] (.region weftref14_parts.r2)) (.seq (.seq (.post [7, 8, 9, 10, 26] (.region weftref14_parts.r3)) (.post [7, 8, 9, 10] (.cond (.t 26) (.seq (.post [7, 10, 11, 12] (.region weftref14_parts.r4)) (.seq (.post [7, 9, 10, 12] (.region weftref14_parts.r5)) (.post [7, 8, 9, 10] (.region weftref14_parts.r6)))) (.skip)))) (.seq (.post [7, 8, 9, 10, 13, 14] (.region weftref14_parts.r7)) (.seq (.seq (.post [7, 8, 9, 10, 13, 14, 45] (.region weftref14_parts.r8)) (.post [7, 8, 9, 10, 13, 14] (.cond (.t 45) (.seq (.post [7, 8, 9, 10, 13] (.region weftref14_parts.r9)) (.seq (.post [7, 8, 9, 10, 13, 14] (.region weftref14_parts.r10)) (.seq (.post [7, 8, 9, 10, 13, 14, 59] (.region weftref14_parts.r11)) (.post [7, 8, 9, 10, 13, 14] (.cond (.t 59) (.post [7, 8, 9, 10, 13, 14] (.region weftref14_parts.r12)) (.skip)))))) (.skip)))) (.seq (.seq (.post [7, 8, 9, 10, 13, 14, 66] (.region weftref14_parts.r13)) (.post [7, 9, 10, 13, 14] (.cond (.t 66) (.post [7, 9, 10, 13, 14] (.region weftref14_parts.r14)) (.skip)))) (.seq (.post [2, 3, 4, 5, 6] (.region weftref14_parts.r15)) (.ret))))))))⟩
theorem weftref14_parts.ok : okFunc Tryz.prog Tryz.f49 weftref14_parts = true := by kernel_rfl
theorem weftref14_parts.at : Tryz.prog.funcs[n_weftref14_parts]? = some Tryz.f49 := Tryz.func49
def weftref14_count.r0 : List AStep := [
  ⟨some 2, none, .op (.mov (.c (.b false)))⟩]
def weftref14_count.r1 : List AStep := [
  ⟨some 3, none, .op (.mov (.t 0))⟩,
  ⟨some 4, none, .op (.bin .geq (.t 3) (.c (.i .i64 0)))⟩,
  ⟨some 5, none, .op (.mov (.t 4))⟩,
  ⟨some 6, (some (5, true)), .op (.mov (.t 0))⟩,
  ⟨some 7, (some (5, true)), .op (.bin .leq (.t 6) (.c (.i .i64 268435456)))⟩,
  ⟨some 8, none, .op (.pick (.t 5) (.t 7) (.c (.b false)))⟩,
  ⟨some 2, none, .op (.mov (.t 8))⟩]
def weftref14_count : AFunc := ⟨9, [.t 2], .seq (.post [0] (.region weftref14_count.r0)) (.seq (.post [2] (.region weftref14_count.r1)) (.ret))⟩
theorem weftref14_count.ok : okFunc Tryz.prog Tryz.f95 weftref14_count = true := by kernel_rfl
theorem weftref14_count.at : Tryz.prog.funcs[n_weftref14_count]? = some Tryz.f95 := Tryz.func95
def weftref01_Name.r0 : List AStep := [
  ⟨some 2, none, .op (.mov (.c (.b false)))⟩]
def weftref01_Name.r1 : List AStep := [
  ⟨some 4, none, .op (.mov (.t 0))⟩,
  ⟨some 5, none, .op (.bin .eql (.t 4) (.c (.s [])))⟩,
  ⟨some 6, none, .op (.mov (.t 5))⟩,
  ⟨some 7, (some (6, false)), .op (.mov (.t 0))⟩,
  ⟨some 8, (some (6, false)), .op (.len true (.t 7))⟩,
  ⟨some 9, (some (6, false)), .op (.bin .gtr (.t 8) (.c (.i .i64 16)))⟩,
  ⟨some 10, none, .op (.pick (.t 6) (.c (.b true)) (.t 9))⟩,
  ⟨some 11, none, .op (.mov (.t 10))⟩,
  ⟨some 12, (some (11, false)), .op (.mov (.t 0))⟩,
  ⟨some 13, (some (11, false)), .op (.idx (.t 12) (.c (.i .i64 0)))⟩,
  ⟨some 14, (some (11, false)), .call n_weftref01_letter [.t 13]⟩,
  ⟨some 15, (some (11, false)), .op (.un .not (.t 14))⟩,
  ⟨some 16, none, .op (.pick (.t 11) (.c (.b true)) (.t 15))⟩]
def weftref01_Name.r2 : List AStep := [
  ⟨some 2, none, .op (.mov (.c (.b false)))⟩]
def weftref01_Name.r3 : List AStep := [
  ⟨some 3, none, .op (.mov (.c (.i .i64 0)))⟩]
def weftref01_Name.r4 : List AStep := [
  ⟨some 17, none, .op (.mov (.t 3))⟩,
  ⟨some 18, none, .op (.mov (.t 0))⟩,
  ⟨some 19, none, .op (.len true (.t 18))⟩,
  ⟨some 20, none, .op (.bin .lss (.t 17) (.t 19))⟩]
def weftref01_Name.r5 : List AStep := [
  ⟨some 23, none, .op (.mov (.t 0))⟩,
  ⟨some 24, none, .op (.mov (.t 3))⟩,
  ⟨some 25, none, .op (.idx (.t 23) (.t 24))⟩,
  ⟨some 26, none, .call n_weftref01_letter [.t 25]⟩,
  ⟨some 27, none, .op (.un .not (.t 26))⟩,
  ⟨some 28, none, .op (.mov (.t 27))⟩,
  ⟨some 29, (some (28, true)), .op (.mov (.t 0))⟩,
  ⟨some 30, (some (28, true)), .op (.mov (.t 3))⟩,
  ⟨some 31, (some (28, true)), .op (.idx (.t 29) (.t 30))⟩,
  ⟨some 32, (some (28, true)), .call n_weftref01_digit [.t 31]⟩,
  ⟨some 33, (some (28, true)), .op (.un .not (.t 32))⟩,
  ⟨some 34, none, .op (.pick (.t 28) (.t 33) (.c (.b false)))⟩]
def weftref01_Name.r6 : List AStep := [
  ⟨some 2, none, .op (.mov (.c (.b false)))⟩]
def weftref01_Name.r7 : List AStep := [
  ⟨some 21, none, .op (.mov (.t 3))⟩,
  ⟨some 22, none, .op (.bin .add (.t 21) (.c (.i .i64 1)))⟩,
  ⟨some 3, none, .op (.mov (.t 22))⟩]
def weftref01_Name.l0 : ACode := .seq (.seq (.post [0, 3, 20] (.region weftref01_Name.r4)) (.post [0, 3] (.cond (.t 20) (.skip) (.exit 0)))) (.seq (.post [0, 3] (.block 1 (.seq (.post [0, 3, 34] (.region weftref01_Name.r5)) (.post [0, 3] (.cond (.t 34) (.seq (.post [2] (.region weftref01_Name.r6)) (.ret)) (.skip)))))) (.post [0, 3] (.region weftref01_Name.r7)))
def weftref01_Name.r8 : List AStep := [
  ⟨some 2, none, .op (.mov (.c (.b true)))⟩]
def weftref01_Name : AFunc := ⟨35, [.t 2], .seq (.post [0] (.region weftref01_Name.r0)) (.seq (.seq (.post [0, 16] (.region weftref01_Name.r1)) (.post [0] (.cond (.t 16) (.seq (.post [2] (.region weftref01_Name.r2)) (.ret)) (.skip)))) (.seq (.seq (.post [0, 3] (.region weftref01_Name.r3)) (.post [] (.block 0 (.loop weftref01_Name.l0)))) (.seq (.post [2] (.region weftref01_Name.r8)) (.ret))))⟩
theorem weftref01_Name.ok : okFunc Tryz.prog Tryz.f96 weftref01_Name = true := by kernel_rfl
theorem weftref01_Name.at : Tryz.prog.funcs[n_weftref01_Name]? = some Tryz.f96 := Tryz.func96
def weftref14_Right.r0 : List AStep := [
  ⟨some 1, none, .op (.boxf (.t 0))⟩,
  ⟨some 2, none, .op (.mov (.c (.b false)))⟩]
def weftref14_Right.r1 : List AStep := [
  ⟨some 5, none, .op (.fadr 0 (.t 1))⟩,
  ⟨some 6, none, .op (.load false 1 (.t 5))⟩,
  ⟨some 7, none, .op (.bin .lss (.t 6) (.c (.i .i64 1)))⟩,
  ⟨some 8, none, .op (.mov (.t 7))⟩,
  ⟨some 9, (some (8, false)), .op (.fadr 0 (.t 1))⟩,
  ⟨some 10, (some (8, false)), .op (.load false 1 (.t 9))⟩,
  ⟨some 11, (some (8, false)), .op (.bin .gtr (.t 10) (.c (.i .i64 7)))⟩,
  ⟨some 12, none, .op (.pick (.t 8) (.c (.b true)) (.t 11))⟩,
  ⟨some 13, none, .op (.mov (.t 12))⟩,
  ⟨some 14, (some (13, false)), .op (.fadr 2 (.t 1))⟩,
  ⟨some 15, (some (13, false)), .op (.load false 1 (.t 14))⟩,
  ⟨some 16, (some (13, false)), .call n_weftref14_count [.t 15]⟩,
  ⟨some 17, (some (13, false)), .op (.un .not (.t 16))⟩,
  ⟨some 18, none, .op (.pick (.t 13) (.c (.b true)) (.t 17))⟩,
  ⟨some 19, none, .op (.mov (.t 18))⟩,
  ⟨some 20, (some (19, false)), .op (.fadr 4 (.t 1))⟩,
  ⟨some 21, (some (19, false)), .op (.load false 1 (.t 20))⟩,
  ⟨some 22, (some (19, false)), .call n_weftref14_count [.t 21]⟩,
  ⟨some 23, (some (19, false)), .op (.un .not (.t 22))⟩,
  ⟨some 24, none, .op (.pick (.t 19) (.c (.b true)) (.t 23))⟩,
  ⟨some 25, none, .op (.mov (.t 24))⟩,
  ⟨some 26, (some (25, false)), .op (.fadr 5 (.t 1))⟩,
  ⟨some 27, (some (25, false)), .op (.load false 1 (.t 26))⟩,
  ⟨some 28, (some (25, false)), .op (.bin .neq (.t 27) (.c (.i .i64 (-1))))⟩,
  ⟨some 29, (some (25, false)), .op (.mov (.t 28))⟩,
  ⟨some 30, (some (29, true)), .op (.fadr 5 (.t 1))⟩,
  ⟨some 31, (some (29, true)), .op (.load false 1 (.t 30))⟩,
  ⟨some 32, (some (29, true)), .call n_weftref14_count [.t 31]⟩,
  ⟨some 33, (some (29, true)), .op (.un .not (.t 32))⟩,
  ⟨some 34, (some (25, false)), .op (.pick (.t 29) (.t 33) (.c (.b false)))⟩,
  ⟨some 35, none, .op (.pick (.t 25) (.c (.b true)) (.t 34))⟩]
def weftref14_Right.r2 : List AStep := [
  ⟨some 2, none, .op (.mov (.c (.b false)))⟩]
def weftref14_Right.r3 : List AStep := [
  ⟨some 36, none, .op (.fadr 0 (.t 1))⟩,
  ⟨some 37, none, .op (.load false 1 (.t 36))⟩,
  ⟨some 38, none, .op (.bin .eql (.t 37) (.c (.i .i64 1)))⟩,
  ⟨some 39, none, .op (.mov (.t 38))⟩,
  ⟨some 40, (some (39, false)), .op (.fadr 0 (.t 1))⟩,
  ⟨some 41, (some (39, false)), .op (.load false 1 (.t 40))⟩,
  ⟨some 42, (some (39, false)), .op (.bin .eql (.t 41) (.c (.i .i64 5)))⟩,
  ⟨some 43, none, .op (.pick (.t 39) (.c (.b true)) (.t 42))⟩,
  ⟨some 44, none, .op (.mov (.t 43))⟩,
  ⟨some 45, (some (44, false)), .op (.fadr 0 (.t 1))⟩,
  ⟨some 46, (some (44, false)), .op (.load false 1 (.t 45))⟩,
  ⟨some 47, (some (44, false)), .op (.bin .eql (.t 46) (.c (.i .i64 6)))⟩,
  ⟨some 48, none, .op (.pick (.t 44) (.c (.b true)) (.t 47))⟩,
  ⟨some 3, none, .op (.mov (.t 48))⟩]
def weftref14_Right.r4 : List AStep := [
  ⟨some 49, none, .op (.fadr 0 (.t 1))⟩,
  ⟨some 50, none, .op (.load false 1 (.t 49))⟩,
  ⟨some 51, none, .op (.bin .eql (.t 50) (.c (.i .i64 2)))⟩,
  ⟨some 52, none, .op (.mov (.t 51))⟩,
  ⟨some 53, (some (52, false)), .op (.fadr 0 (.t 1))⟩,
  ⟨some 54, (some (52, false)), .op (.load false 1 (.t 53))⟩,
  ⟨some 55, (some (52, false)), .op (.bin .eql (.t 54) (.c (.i .i64 3)))⟩,
  ⟨some 56, none, .op (.pick (.t 52) (.c (.b true)) (.t 55))⟩,
  ⟨some 57, none, .op (.mov (.t 56))⟩,
  ⟨some 58, (some (57, false)), .op (.fadr 0 (.t 1))⟩,
  ⟨some 59, (some (57, false)), .op (.load false 1 (.t 58))⟩,
  ⟨some 60, (some (57, false)), .op (.bin .eql (.t 59) (.c (.i .i64 7)))⟩,
  ⟨some 61, none, .op (.pick (.t 57) (.c (.b true)) (.t 60))⟩,
  ⟨some 4, none, .op (.mov (.t 61))⟩]
def weftref14_Right.r5 : List AStep := [
  ⟨some 63, none, .op (.fadr 0 (.t 1))⟩,
  ⟨some 64, none, .op (.load false 1 (.t 63))⟩,
  ⟨some 65, none, .op (.bin .eql (.t 64) (.c (.i .i64 5)))⟩,
  ⟨some 66, none, .op (.fadr 1 (.t 1))⟩,
  ⟨some 67, none, .op (.load false 1 (.t 66))⟩,
  ⟨some 68, none, .op (.bin .eql (.t 67) (.c (.s [])))⟩,
  ⟨some 69, none, .op (.eqk .bool true (.t 65) (.t 68))⟩,
  ⟨some 70, none, .op (.mov (.t 69))⟩,
  ⟨some 71, (some (70, false)), .op (.fadr 1 (.t 1))⟩,
  ⟨some 72, (some (70, false)), .op (.load false 1 (.t 71))⟩,
  ⟨some 73, (some (70, false)), .op (.bin .neq (.t 72) (.c (.s [])))⟩,
  ⟨some 74, (some (70, false)), .op (.mov (.t 73))⟩,
  ⟨some 75, (some (74, true)), .op (.fadr 1 (.t 1))⟩,
  ⟨some 76, (some (74, true)), .op (.load false 1 (.t 75))⟩,
  ⟨some 77, (some (74, true)), .call n_weftref01_Name [.t 76]⟩,
  ⟨some 78, (some (74, true)), .op (.un .not (.t 77))⟩,
  ⟨some 79, (some (70, false)), .op (.pick (.t 74) (.t 78) (.c (.b false)))⟩,
  ⟨some 80, none, .op (.pick (.t 70) (.c (.b true)) (.t 79))⟩,
  ⟨some 81, none, .op (.mov (.t 80))⟩,
  ⟨some 82, (some (81, false)), .op (.fadr 0 (.t 1))⟩,
  ⟨some 83, (some (81, false)), .op (.load false 1 (.t 82))⟩,
  ⟨some 84, (some (81, false)), .op (.bin .eql (.t 83) (.c (.i .i64 5)))⟩,
  ⟨some 85, (some (81, false)), .op (.mov (.t 84))⟩,
  ⟨some 86, (some (85, true)), .op (.fadr 2 (.t 1))⟩,
  ⟨some 87, (some (85, true)), .op (.load false 1 (.t 86))⟩,
  ⟨some 88, (some (85, true)), .op (.bin .neq (.t 87) (.c (.i .i64 0)))⟩,
  ⟨some 89, (some (81, false)), .op (.pick (.t 85) (.t 88) (.c (.b false)))⟩,
  ⟨some 90, none, .op (.pick (.t 81) (.c (.b true)) (.t 89))⟩,
  ⟨some 62, none, .op (.mov (.t 90))⟩]
def weftref14_Right.r6 : List AStep := [
  ⟨some 2, none, .op (.mov (.c (.b false)))⟩]
def weftref14_Right.r7 : List AStep := [
  ⟨some 92, none, .op (.mov (.t 3))⟩,
  ⟨some 93, none, .op (.fadr 3 (.t 1))⟩,
  ⟨some 94, none, .op (.load false 1 (.t 93))⟩,
  ⟨some 95, none, .op (.bin .neq (.t 94) (.c (.s [])))⟩,
  ⟨some 96, none, .op (.eqk .bool true (.t 92) (.t 95))⟩,
  ⟨some 97, none, .op (.mov (.t 96))⟩,
  ⟨some 98, (some (97, false)), .op (.mov (.t 3))⟩,
  ⟨some 99, (some (97, false)), .op (.mov (.t 98))⟩,
  ⟨some 100, (some (99, true)), .op (.fadr 3 (.t 1))⟩,
  ⟨some 101, (some (99, true)), .op (.load false 1 (.t 100))⟩,
  ⟨some 102, (some (99, true)), .call n_weftref01_Name [.t 101]⟩,
  ⟨some 103, (some (99, true)), .op (.un .not (.t 102))⟩,
  ⟨some 104, (some (97, false)), .op (.pick (.t 99) (.t 103) (.c (.b false)))⟩,
  ⟨some 105, none, .op (.pick (.t 97) (.c (.b true)) (.t 104))⟩,
  ⟨some 91, none, .op (.mov (.t 105))⟩]
def weftref14_Right.r8 : List AStep := [
  ⟨some 2, none, .op (.mov (.c (.b false)))⟩]
def weftref14_Right.r9 : List AStep := [
  ⟨some 107, none, .op (.mov (.t 4))⟩,
  ⟨some 108, none, .op (.un .not (.t 107))⟩,
  ⟨some 109, none, .op (.mov (.t 108))⟩,
  ⟨some 110, (some (109, true)), .op (.fadr 4 (.t 1))⟩,
  ⟨some 111, (some (109, true)), .op (.load false 1 (.t 110))⟩,
  ⟨some 112, (some (109, true)), .op (.bin .neq (.t 111) (.c (.i .i64 0)))⟩,
  ⟨some 113, none, .op (.pick (.t 109) (.t 112) (.c (.b false)))⟩,
  ⟨some 114, none, .op (.mov (.t 113))⟩,
  ⟨some 115, (some (114, false)), .op (.fadr 4 (.t 1))⟩,
  ⟨some 116, (some (114, false)), .op (.load false 1 (.t 115))⟩,
  ⟨some 117, (some (114, false)), .op (.bin .eql (.t 116) (.c (.i .i64 0)))⟩,
  ⟨some 118, (some (114, false)), .op (.mov (.t 117))⟩,
  ⟨some 119, (some (118, true)), .op (.fadr 0 (.t 1))⟩,
  ⟨some 120, (some (118, true)), .op (.load false 1 (.t 119))⟩,
  ⟨some 121, (some (118, true)), .op (.bin .eql (.t 120) (.c (.i .i64 3)))⟩,
  ⟨some 122, (some (118, true)), .op (.mov (.t 121))⟩,
  ⟨some 123, (some (122, false)), .op (.fadr 0 (.t 1))⟩,
  ⟨some 124, (some (122, false)), .op (.load false 1 (.t 123))⟩,
  ⟨some 125, (some (122, false)), .op (.bin .eql (.t 124) (.c (.i .i64 7)))⟩,
  ⟨some 126, (some (118, true)), .op (.pick (.t 122) (.c (.b true)) (.t 125))⟩,
  ⟨some 127, (some (114, false)), .op (.pick (.t 118) (.t 126) (.c (.b false)))⟩,
  ⟨some 128, none, .op (.pick (.t 114) (.c (.b true)) (.t 127))⟩,
  ⟨some 106, none, .op (.mov (.t 128))⟩]
def weftref14_Right.r10 : List AStep := [
  ⟨some 2, none, .op (.mov (.c (.b false)))⟩]
def weftref14_Right.r11 : List AStep := [
  ⟨some 129, none, .op (.fadr 0 (.t 1))⟩,
  ⟨some 130, none, .op (.load false 1 (.t 129))⟩,
  ⟨some 131, none, .op (.bin .geq (.t 130) (.c (.i .i64 5)))⟩,
  ⟨some 132, none, .op (.mov (.t 131))⟩,
  ⟨some 133, (some (132, false)), .op (.fadr 5 (.t 1))⟩,
  ⟨some 134, (some (132, false)), .op (.load false 1 (.t 133))⟩,
  ⟨some 135, (some (132, false)), .op (.bin .eql (.t 134) (.c (.i .i64 (-1))))⟩,
  ⟨some 136, none, .op (.pick (.t 132) (.c (.b true)) (.t 135))⟩,
  ⟨some 2, none, .op (.mov (.t 136))⟩]
def weftref14_Right : AFunc := ⟨137, [.t 2], .seq (.post [1] (.region weftref14_Right.r0)) (.seq (.seq (.post [1, 35] (.region weftref14_Right.r1)) (.post [1] (.cond (.t 35) (.seq (.post [2] (.region weftref14_Right.r2)) (.ret)) (.skip)))) (.seq (.post [1, 3] (.region weftref14_Right.r3)) (.seq (.post [1, 3, 4] (.region weftref14_Right.r4)) (.seq (.post [1] (.block 0 (.seq (.post [1, 3, 4, 62] (.region weftref14_Right.r5)) (.post [1] (.cond (.t 62) (.seq (.post [2] (.region weftref14_Right.r6)) (.ret)) (.seq (.post [1, 4, 91] (.region weftref14_Right.r7)) (.post [1] (.cond (.t 91) (.seq (.post [2] (.region weftref14_Right.r8)) (.ret)) (.seq (.post [1, 106] (.region weftref14_Right.r9)) (.post [1] (.cond (.t 106) (.seq (.post [2] (.region weftref14_Right.r10)) (.ret)) (.skip)))))))))))) (.seq (.post [2] (.region weftref14_Right.r11)) (.ret))))))⟩
theorem weftref14_Right.ok : okFunc Tryz.prog Tryz.f76 weftref14_Right = true := by kernel_rfl
theorem weftref14_Right.at : Tryz.prog.funcs[n_weftref14_Right]? = some Tryz.f76 := Tryz.func76
def weftref01_plain.r0 : List AStep := [
  ⟨some 2, none, .op (.mov (.c (.s [])))⟩]
def weftref01_plain.r1 : List AStep := [
  ⟨some 4, none, .op (.mov (.t 0))⟩,
  ⟨some 5, none, .op (.bin .rem (.t 4) (.c (.i .u64 10)))⟩,
  ⟨some 6, none, .op (.conv .u8 (.t 5))⟩,
  ⟨some 7, none, .op (.bin .add (.c (.i .u8 48)) (.t 6))⟩,
  ⟨some 8, none, .op (.bsl 1 [.i .u8 0] [(0, 1, .t 7)])⟩,
  ⟨some 9, none, .op (.b2s (.t 8))⟩,
  ⟨some 3, none, .op (.mov (.t 9))⟩]
def weftref01_plain.r2 : List AStep := [
  ⟨some 10, none, .op (.mov (.t 0))⟩,
  ⟨some 11, none, .op (.bin .geq (.t 10) (.c (.i .u64 10)))⟩]
def weftref01_plain.r3 : List AStep := [
  ⟨some 12, none, .op (.mov (.t 0))⟩,
  ⟨some 13, none, .op (.bin .quo (.t 12) (.c (.i .u64 10)))⟩,
  ⟨some 0, none, .op (.mov (.t 13))⟩]
def weftref01_plain.r4 : List AStep := [
  ⟨some 14, none, .op (.mov (.t 0))⟩,
  ⟨some 15, none, .op (.bin .rem (.t 14) (.c (.i .u64 10)))⟩,
  ⟨some 16, none, .op (.conv .u8 (.t 15))⟩,
  ⟨some 17, none, .op (.bin .add (.c (.i .u8 48)) (.t 16))⟩,
  ⟨some 18, none, .op (.bsl 1 [.i .u8 0] [(0, 1, .t 17)])⟩,
  ⟨some 19, none, .op (.b2s (.t 18))⟩,
  ⟨some 20, none, .op (.mov (.t 3))⟩,
  ⟨some 21, none, .op (.bin .add (.t 19) (.t 20))⟩,
  ⟨some 3, none, .op (.mov (.t 21))⟩]
def weftref01_plain.l0 : ACode := .seq (.seq (.post [0, 3, 11] (.region weftref01_plain.r2)) (.post [0, 3] (.cond (.t 11) (.skip) (.exit 0)))) (.post [0, 3] (.block 1 (.seq (.post [0, 3] (.region weftref01_plain.r3)) (.post [0, 3] (.region weftref01_plain.r4)))))
def weftref01_plain.r5 : List AStep := [
  ⟨some 22, none, .op (.mov (.t 3))⟩,
  ⟨some 2, none, .op (.mov (.t 22))⟩]
def weftref01_plain : AFunc := ⟨23, [.t 2], .seq (.post [0] (.region weftref01_plain.r0)) (.seq (.post [0, 3] (.region weftref01_plain.r1)) (.seq (.post [3] (.block 0 (.loop weftref01_plain.l0))) (.seq (.post [2] (.region weftref01_plain.r5)) (.ret))))⟩
theorem weftref01_plain.ok : okFunc Tryz.prog Tryz.f97 weftref01_plain = true := by kernel_rfl
theorem weftref01_plain.at : Tryz.prog.funcs[n_weftref01_plain]? = some Tryz.f97 := Tryz.func97
def weftref01_Text.r0 : List AStep := [
  ⟨some 2, none, .op (.mov (.c (.s [])))⟩]
def weftref01_Text.r1 : List AStep := [
  ⟨some 3, none, .op (.mov (.t 0))⟩,
  ⟨some 4, none, .op (.bin .geq (.t 3) (.c (.i .i64 0)))⟩]
def weftref01_Text.r2 : List AStep := [
  ⟨some 5, none, .op (.mov (.t 0))⟩,
  ⟨some 6, none, .op (.conv .u64 (.t 5))⟩,
  ⟨some 7, none, .call n_weftref01_plain [.t 6]⟩,
  ⟨some 2, none, .op (.mov (.t 7))⟩]
def weftref01_Text.r3 : List AStep := [
  ⟨some 8, none, .op (.mov (.t 0))⟩,
  ⟨some 9, none, .op (.conv .u64 (.t 8))⟩,
  ⟨some 10, none, .op (.un .neg (.t 9))⟩,
  ⟨some 11, none, .call n_weftref01_plain [.t 10]⟩,
  ⟨some 12, none, .op (.bin .add (.c (.s [45])) (.t 11))⟩,
  ⟨some 2, none, .op (.mov (.t 12))⟩]
def weftref01_Text : AFunc := ⟨13, [.t 2], .seq (.post [0] (.region weftref01_Text.r0)) (.seq (.seq (.post [0, 4] (.region weftref01_Text.r1)) (.post [0] (.cond (.t 4) (.seq (.post [2] (.region weftref01_Text.r2)) (.ret)) (.skip)))) (.seq (.post [2] (.region weftref01_Text.r3)) (.ret)))⟩
theorem weftref01_Text.ok : okFunc Tryz.prog Tryz.f77 weftref01_Text = true := by kernel_rfl
theorem weftref01_Text.at : Tryz.prog.funcs[n_weftref01_Text]? = some Tryz.f77 := Tryz.func77
def weftref14_Text.r0 : List AStep := [
  ⟨some 1, none, .op (.boxf (.t 0))⟩,
  ⟨some 2, none, .op (.mov (.c (.s [])))⟩,
  ⟨some 3, none, .op (.mov (.c (.i .i64 0)))⟩]
def weftref14_Text.r1 : List AStep := [
  ⟨some 5, none, .op (.load true 6 (.t 1))⟩,
  ⟨some 6, none, .call n_weftref14_Right [.t 5]⟩,
  ⟨some 7, none, .op (.un .not (.t 6))⟩]
def weftref14_Text.r2 : List AStep := [
  ⟨some 2, none, .op (.mov (.c (.s [])))⟩,
  ⟨some 3, none, .op (.mov (.c (.i .i64 11)))⟩]
def weftref14_Text.r3 : List AStep := [
  ⟨some 8, none, .op (.fadr 1 (.t 1))⟩,
  ⟨some 9, none, .op (.load false 1 (.t 8))⟩,
  ⟨some 4, none, .op (.mov (.t 9))⟩]
def weftref14_Text.r4 : List AStep := [
  ⟨some 10, none, .op (.fadr 2 (.t 1))⟩,
  ⟨some 11, none, .op (.load false 1 (.t 10))⟩,
  ⟨some 12, none, .op (.bin .gtr (.t 11) (.c (.i .i64 0)))⟩]
def weftref14_Text.r5 : List AStep := [
  ⟨some 13, none, .op (.mov (.t 4))⟩,
  ⟨some 14, none, .op (.bin .add (.t 13) (.c (.s [126])))⟩,
  ⟨some 15, none, .op (.fadr 2 (.t 1))⟩,
  ⟨some 16, none, .op (.load false 1 (.t 15))⟩,
  ⟨some 17, none, .call n_weftref01_Text [.t 16]⟩,
  ⟨some 18, none, .op (.bin .add (.t 14) (.t 17))⟩,
  ⟨some 4, none, .op (.mov (.t 18))⟩]
def weftref14_Text.r6 : List AStep := [
  ⟨some 19, none, .op (.fadr 0 (.t 1))⟩,
  ⟨some 20, none, .op (.load false 1 (.t 19))⟩]
def weftref14_Text.r7 : List AStep := [
  ⟨some 22, none, .op (.bin .eql (.t 20) (.c (.i .i64 1)))⟩,
  ⟨some 21, none, .op (.mov (.t 22))⟩]
def weftref14_Text.r8 : List AStep := [
  ⟨some 23, none, .op (.mov (.t 4))⟩,
  ⟨some 24, none, .op (.bin .add (.t 23) (.c (.s [46])))⟩,
  ⟨some 25, none, .op (.fadr 3 (.t 1))⟩,
  ⟨some 26, none, .op (.load false 1 (.t 25))⟩,
  ⟨some 27, none, .op (.bin .add (.t 24) (.t 26))⟩,
  ⟨some 4, none, .op (.mov (.t 27))⟩]
def weftref14_Text.r9 : List AStep := [
  ⟨some 29, none, .op (.bin .eql (.t 20) (.c (.i .i64 2)))⟩,
  ⟨some 28, none, .op (.mov (.t 29))⟩]
def weftref14_Text.r10 : List AStep := [
  ⟨some 30, none, .op (.mov (.t 4))⟩,
  ⟨some 31, none, .op (.bin .add (.t 30) (.c (.s [36])))⟩,
  ⟨some 32, none, .op (.fadr 4 (.t 1))⟩,
  ⟨some 33, none, .op (.load false 1 (.t 32))⟩,
  ⟨some 34, none, .call n_weftref01_Text [.t 33]⟩,
  ⟨some 35, none, .op (.bin .add (.t 31) (.t 34))⟩,
  ⟨some 4, none, .op (.mov (.t 35))⟩]
def weftref14_Text.r11 : List AStep := [
  ⟨some 37, none, .op (.bin .eql (.t 20) (.c (.i .i64 3)))⟩,
  ⟨some 36, none, .op (.mov (.t 37))⟩]
def weftref14_Text.r12 : List AStep := [
  ⟨some 38, none, .op (.mov (.t 4))⟩,
  ⟨some 39, none, .op (.bin .add (.t 38) (.c (.s [64])))⟩,
  ⟨some 40, none, .op (.fadr 4 (.t 1))⟩,
  ⟨some 41, none, .op (.load false 1 (.t 40))⟩,
  ⟨some 42, none, .call n_weftref01_Text [.t 41]⟩,
  ⟨some 43, none, .op (.bin .add (.t 39) (.t 42))⟩,
  ⟨some 4, none, .op (.mov (.t 43))⟩]
def weftref14_Text.r13 : List AStep := [
  ⟨some 45, none, .op (.bin .eql (.t 20) (.c (.i .i64 4)))⟩,
  ⟨some 44, none, .op (.mov (.t 45))⟩]
def weftref14_Text.r14 : List AStep := [
  ⟨some 46, none, .op (.mov (.t 4))⟩,
  ⟨some 47, none, .op (.bin .add (.t 46) (.c (.s [40, 41])))⟩,
  ⟨some 4, none, .op (.mov (.t 47))⟩]
def weftref14_Text.r15 : List AStep := [
  ⟨some 49, none, .op (.bin .eql (.t 20) (.c (.i .i64 5)))⟩,
  ⟨some 48, none, .op (.mov (.t 49))⟩]
def weftref14_Text.r16 : List AStep := [
  ⟨some 50, none, .op (.fadr 3 (.t 1))⟩,
  ⟨some 51, none, .op (.load false 1 (.t 50))⟩,
  ⟨some 4, none, .op (.mov (.t 51))⟩]
def weftref14_Text.r17 : List AStep := [
  ⟨some 53, none, .op (.bin .eql (.t 20) (.c (.i .i64 6)))⟩,
  ⟨some 52, none, .op (.mov (.t 53))⟩]
def weftref14_Text.r18 : List AStep := [
  ⟨some 54, none, .op (.mov (.t 4))⟩,
  ⟨some 55, none, .op (.bin .add (.t 54) (.c (.s [37])))⟩,
  ⟨some 56, none, .op (.fadr 3 (.t 1))⟩,
  ⟨some 57, none, .op (.load false 1 (.t 56))⟩,
  ⟨some 58, none, .op (.bin .add (.t 55) (.t 57))⟩,
  ⟨some 4, none, .op (.mov (.t 58))⟩]
def weftref14_Text.r19 : List AStep := [
  ⟨some 60, none, .op (.bin .eql (.t 20) (.c (.i .i64 7)))⟩,
  ⟨some 59, none, .op (.mov (.t 60))⟩]
def weftref14_Text.r20 : List AStep := [
  ⟨some 61, none, .op (.mov (.t 4))⟩,
  ⟨some 62, none, .op (.bin .add (.t 61) (.c (.s [35])))⟩,
  ⟨some 63, none, .op (.fadr 4 (.t 1))⟩,
  ⟨some 64, none, .op (.load false 1 (.t 63))⟩,
  ⟨some 65, none, .call n_weftref01_Text [.t 64]⟩,
  ⟨some 66, none, .op (.bin .add (.t 62) (.t 65))⟩,
  ⟨some 4, none, .op (.mov (.t 66))⟩]
def weftref14_Text.r21 : List AStep := [
  ⟨some 67, none, .op (.fadr 5 (.t 1))⟩,
  ⟨some 68, none, .op (.load false 1 (.t 67))⟩,
  ⟨some 69, none, .op (.bin .geq (.t 68) (.c (.i .i64 0)))⟩]
def weftref14_Text.r22 : List AStep := [
  ⟨some 70, none, .op (.mov (.t 4))⟩,
  ⟨some 71, none, .op (.bin .add (.t 70) (.c (.s [43])))⟩,
  ⟨some 72, none, .op (.fadr 5 (.t 1))⟩,
  ⟨some 73, none, .op (.load false 1 (.t 72))⟩,
  ⟨some 74, none, .call n_weftref01_Text [.t 73]⟩,
  ⟨some 75, none, .op (.bin .add (.t 71) (.t 74))⟩,
  ⟨some 4, none, .op (.mov (.t 75))⟩]
def weftref14_Text.r23 : List AStep := [
  ⟨some 76, none, .op (.mov (.t 4))⟩,
  ⟨some 2, none, .op (.mov (.t 76))⟩,
  ⟨some 3, none, .op (.mov (.c (.i .i64 0)))⟩]
def weftref14_Text : AFunc := ⟨77, [.t 2, .t 3], .seq (.post [1] (.region weftref14_Text.r0)) (.seq (.seq (.post [1, 7] (.region weftref14_Text.r1)) (.post [1] (.cond (.t 7) (.seq (.post [2, 3] (.region weftref14_Text.r2)) (.ret)) (.skip)))) (.seq (.post [1, 4] (.region weftref14_Text.r3)) (.seq (.seq (.post [1, 4, 12] (.region weftref14_Text.r4)) (.post [1, 4] (.cond (.t 12) (.post [1, 4] (.region weftref14_Text.r5)) (.skip)))) (.seq (.seq (.post [1, 4, 20] (.region weftref14_Text.r6)) (.post [1, 4] (.block 0 (.seq (.post [1, 4, 20, 21] (.region weftref14_Text.r7)) (.post [1, 4] (.cond (.t 21) (.post [1, 4] (.region weftref14_Text.r8)) (.seq (.post [1, 4, 20, 28] (.region weftref14_Text.r9)) (.post [1, 4] (.cond (.t 28) (.post [1, 4] (.region weftref14_Text.r10)) (.seq (.post [1, 4, 20, 36] (.region weftref14_Text.r11)) (.post [1, 4] (.cond (.t 36) (.post [1, 4] (.region weftref14_Text.r12)) (.seq (.post [1, 4, 20, 44] (.region weftref14_Text.r13)) (.post [1, 4] (.cond (.t 44) (.post [1, 4] (.region weftref14_Text.r14)) (.seq (.post [1, 4, 20, 48] (.region weftref14_Text.r15)) (.post [1, 4] (.cond (.t 48) (.post [1, 4] (.region weftref14_Text.r16)) (.seq (.post [1, 4, 20, 52] (.region weftref14_Text.r17)) (.post [1, 4] (.cond (.t 52) (.post [1, 4] (.region weftref14_Text.r18)) (.seq (.post [1, 4, 59] (.region weftref14_Text.r19)) (.post [1, 4] (.cond (.t 59) (.post [1, 4] (.region weftref14_Text.r20)) (.skip))))))))))))))))))))))))) (.seq (.seq (.post [1, 4, 69] (.region weftref14_Text.r21)) (.post [4] (.cond (.t 69) (.post [4] (.region weftref14_Text.r22)) (.skip)))) (.seq (.post [2, 3] (.region weftref14_Text.r23)) (.ret)))))))⟩
theorem weftref14_Text.ok : okFunc Tryz.prog Tryz.f51 weftref14_Text = true := by kernel_rfl
theorem weftref14_Text.at : Tryz.prog.funcs[n_weftref14_Text]? = some Tryz.f51 := Tryz.func51
def weftref14_Read.r0 : List AStep := [
  ⟨some 2, none, .op (.new [.i .i64 0, .s [], .i .i64 0, .s [], .i .i64 0, .i .i64 0])⟩,
  ⟨some 3, none, .op (.mov (.c (.i .i64 0)))⟩]
def weftref14_Read.r1 : List AStep := [
  ⟨some 16, none, .op (.mov (.t 0))⟩,
  ⟨some 17, none, .call n_weftref14_parts [.t 16]⟩,
  ⟨some 15, none, .op (.mov (.t 17))⟩,
  ⟨some 18, none, .op (.ext 0 (.t 15))⟩,
  ⟨some 19, none, .op (.ext 1 (.t 15))⟩,
  ⟨some 20, none, .op (.ext 2 (.t 15))⟩,
  ⟨some 21, none, .op (.ext 3 (.t 15))⟩,
  ⟨some 22, none, .op (.ext 4 (.t 15))⟩,
  ⟨some 4, none, .op (.mov (.t 18))⟩,
  ⟨some 5, none, .op (.mov (.t 19))⟩,
  ⟨some 6, none, .op (.mov (.t 20))⟩,
  ⟨some 7, none, .op (.mov (.t 21))⟩,
  ⟨some 8, none, .op (.mov (.t 22))⟩]
def weftref14_Read.r2 : List AStep := [
  ⟨some 24, none, .op (.mov (.t 7))⟩,
  ⟨some 25, none, .call n_weftref01_Read [.t 24]⟩,
  ⟨some 23, none, .op (.mov (.t 25))⟩,
  ⟨some 26, none, .op (.ext 0 (.t 23))⟩,
  ⟨some 27, none, .op (.ext 1 (.t 23))⟩,
  ⟨some 9, none, .op (.mov (.t 26))⟩,
  ⟨some 10, none, .op (.mov (.t 27))⟩]
def weftref14_Read.r3 : List AStep := [
  ⟨some 28, none, .op (.mov (.t 4))⟩,
  ⟨some 29, none, .op (.mov (.t 5))⟩,
  ⟨some 30, none, .op (.mov (.t 7))⟩,
  ⟨some 31, none, .op (.build [.i .i64 0, .s [], .i .i64 0, .s [], .i .i64 0, .i .i64 0] [(0, 1, .c (.i .i64 1)), (1, 1, .t 28), (2, 1, .t 29), (3, 1, .t 30), (5, 1, .c (.i .i64 (-1)))])⟩,
  ⟨some 32, none, .op (.mov (.t 4))⟩,
  ⟨some 33, none, .op (.mov (.t 5))⟩,
  ⟨some 34, none, .op (.mov (.t 9))⟩,
  ⟨some 35, none, .op (.build [.i .i64 0, .s [], .i .i64 0, .s [], .i .i64 0, .i .i64 0] [(0, 1, .c (.i .i64 2)), (1, 1, .t 32), (2, 1, .t 33), (4, 1, .t 34), (5, 1, .c (.i .i64 (-1)))])⟩,
  ⟨some 36, none, .op (.mov (.t 4))⟩,
  ⟨some 37, none, .op (.mov (.t 5))⟩,
  ⟨some 38, none, .op (.mov (.t 9))⟩,
  ⟨some 39, none, .op (.build [.i .i64 0, .s [], .i .i64 0, .s [], .i .i64 0, .i .i64 0] [(0, 1, .c (.i .i64 3)), (1, 1, .t 36), (2, 1, .t 37), (4, 1, .t 38), (5, 1, .c (.i .i64 (-1)))])⟩,
  ⟨some 40, none, .op (.mov (.t 4))⟩,
  ⟨some 41, none, .op (.mov (.t 5))⟩,
  ⟨some 42, none, .op (.build [.i .i64 0, .s [], .i .i64 0, .s [], .i .i64 0, .i .i64 0] [(0, 1, .c (.i .i64 4)), (1, 1, .t 40), (2, 1, .t 41), (5, 1, .c (.i .i64 (-1)))])⟩,
  ⟨some 43, none, .op (.mov (.t 4))⟩,
  ⟨some 44, none, .op (.mov (.t 8))⟩,
  ⟨some 45, none, .op (.build [.i .i64 0, .s [], .i .i64 0, .s [], .i .i64 0, .i .i64 0] [(0, 1, .c (.i .i64 5)), (3, 1, .t 43), (5, 1, .t 44)])⟩,
  ⟨some 46, none, .op (.mov (.t 4))⟩,
  ⟨some 47, none, .op (.mov (.t 5))⟩,
  ⟨some 48, none, .op (.mov (.t 7))⟩,
  ⟨some 49, none, .op (.mov (.t 8))⟩,
  ⟨some 50, none, .op (.build [.i .i64 0, .s [], .i .i64 0, .s [], .i .i64 0, .i .i64 0] [(0, 1, .c (.i .i64 6)), (1, 1, .t 46), (2, 1, .t 47), (3, 1, .t 48), (5, 1, .t 49)])⟩,
  ⟨some 51, none, .op (.mov (.t 4))⟩,
  ⟨some 52, none, .op (.mov (.t 5))⟩,
  ⟨some 53, none, .op (.mov (.t 9))⟩,
  ⟨some 54, none, .op (.mov (.t 8))⟩,
  ⟨some 55, none, .op (.build [.i .i64 0, .s [], .i .i64 0, .s [], .i .i64 0, .i .i64 0] [(0, 1, .c (.i .i64 7)), (1, 1, .t 51), (2, 1, .t 52), (4, 1, .t 53), (5, 1, .t 54)])⟩,
  ⟨some 56, none, .op (.bfz 7 6 [.i .i64 0, .s [], .i .i64 0, .s [], .i .i64 0, .i .i64 0] [(0, 6, .t 31), (6, 6, .t 35), (12, 6, .t 39), (18, 6, .t 42), (24, 6, .t 45), (30, 6, .t 50), (36, 6, .t 55)])⟩,
  ⟨some 11, none, .op (.mov (.t 56))⟩]
def weftref14_Read.r4 : List AStep := [
  ⟨some 12, none, .op (.mov (.c (.i .i64 0)))⟩]
def weftref14_Read.r5 : List AStep := [
  ⟨some 57, none, .op (.mov (.t 12))⟩,
  ⟨some 58, none, .op (.mov (.t 11))⟩,
  ⟨some 59, none, .op (.len false (.t 58))⟩,
  ⟨some 60, none, .op (.bin .lss (.t 57) (.t 59))⟩]
def weftref14_Read.r6 : List AStep := [
  ⟨some 64, none, .op (.mov (.t 11))⟩,
  ⟨some 65, none, .op (.mov (.t 12))⟩,
  ⟨some 66, none, .op (.iad 6 (.t 64) (.t 65))⟩,
  ⟨some 67, none, .op (.load true 6 (.t 66))⟩,
  ⟨some 68, none, .call n_weftref14_Text [.t 67]⟩,
  ⟨some 63, none, .op (.mov (.t 68))⟩,
  ⟨some 69, none, .op (.ext 0 (.t 63))⟩,
  ⟨some 70, none, .op (.ext 1 (.t 63))⟩,
  ⟨some 13, none, .op (.mov (.t 69))⟩,
  ⟨some 14, none, .op (.mov (.t 70))⟩]
def weftref14_Read.r7 : List AStep := [
  ⟨some 71, none, .op (.mov (.t 14))⟩,
  ⟨some 72, none, .op (.bin .eql (.t 71) (.c (.i .i64 0)))⟩,
  ⟨some 73, none, .op (.mov (.t 72))⟩,
  ⟨some 74, (some (73, true)), .op (.mov (.t 13))⟩,
  ⟨some 75, (some (73, true)), .op (.mov (.t 0))⟩,
  ⟨some 76, (some (73, true)), .op (.bin .eql (.t 74) (.t 75))⟩,
  ⟨some 77, none, .op (.pick (.t 73) (.t 76) (.c (.b false)))⟩,
  ⟨some 78, none, .op (.mov (.t 77))⟩,
  ⟨some 79, (some (78, true)), .op (.mov (.t 6))⟩,
  ⟨some 80, (some (78, true)), .op (.bin .neq (.t 79) (.c (.s [])))⟩,
  ⟨some 81, (some (78, true)), .op (.mov (.t 80))⟩,
  ⟨some 82, (some (81, false)), .op (.mov (.t 11))⟩,
  ⟨some 83, (some (81, false)), .op (.mov (.t 12))⟩,
  ⟨some 84, (some (81, false)), .op (.iad 6 (.t 82) (.t 83))⟩,
  ⟨some 85, (some (81, false)), .op (.fadr 0 (.t 84))⟩,
  ⟨some 86, (some (81, false)), .op (.load false 1 (.t 85))⟩,
  ⟨some 87, (some (81, false)), .op (.bin .eql (.t 86) (.c (.i .i64 5)))⟩,
  ⟨some 88, (some (78, true)), .op (.pick (.t 81) (.c (.b true)) (.t 87))⟩,
  ⟨some 89, none, .op (.pick (.t 78) (.t 88) (.c (.b false)))⟩]
def weftref14_Read.r8 : List AStep := [
  ⟨some 90, none, .op (.mov (.t 11))⟩,
  ⟨some 91, none, .op (.mov (.t 12))⟩,
  ⟨some 92, none, .op (.iad 6 (.t 90) (.t 91))⟩,
  ⟨some 93, none, .op (.load true 6 (.t 92))⟩,
  ⟨none, none, .op (.store 6 (.t 2) (.t 93))⟩,
  ⟨some 3, none, .op (.mov (.c (.i .i64 0)))⟩]
def weftref14_Read.r9 : List AStep := [
  ⟨some 61, none, .op (.mov (.t 12))⟩,
  ⟨some 62, none, .op (.bin .add (.t 61) (.c (.i .i64 1)))⟩,
  ⟨some 12, none, .op (.mov (.t 62))⟩]
def weftref14_Read.l0 : ACode := .seq (.seq (.post [0, 2, 6, 11, 12, 60] (.region weftref14_Read.r5)) (.post [0, 2, 6, 11, 12] (.cond (.t 60) (.skip) (.exit 0)))) (.seq (.post [0, 2, 6, 11, 12] (.block 1 (.seq (.post [0, 2, 6, 11, 12, 13, 14] (.region weftref14_Read.r6)) (.seq (.post [0, 2, 6, 11, 12, 89] (.region weftref14_Read.r7)) (.post [0, 2, 6, 11, 12] (.cond (.t 89) (.seq (.post [2, 3] (.region weftref14_Read.r8)) (.ret)) (.skip))))))) (.post [0, 2, 6, 11, 12] (.region weftref14_Read.r9)))
def weftref14_Read.r10 : List AStep := [
  ⟨some 94, none, .op (.build [.i .i64 0, .s [], .i .i64 0, .s [], .i .i64 0, .i .i64 0] [])⟩,
  ⟨none, none, .op (.store 6 (.t 2) (.t 94))⟩,
  ⟨some 3, none, .op (.mov (.c (.i .i64 11)))⟩]
def weftref14_Read : AFunc := ⟨95, [.cell 2 true 6, .t 3], .seq (.post [0, 2] (.region weftref14_Read.r0)) (.seq (.post [0, 2, 4, 5, 6, 7, 8] (.region weftref14_Read.r1)) (.seq (.post [0, 2, 4, 5, 6, 7, 8, 9] (.region weftref14_Read.r2)) (.seq (.post [0, 2, 6, 11] (.region weftref14_Read.r3)) (.seq (.seq (.post [0, 2, 6, 11, 12] (.region weftref14_Read.r4)) (.post [2] (.block 0 (.loop weftref14_Read.l0)))) (.seq (.post [2, 3] (.region weftref14_Read.r10)) (.ret))))))⟩
theorem weftref14_Read.ok : okFunc Tryz.prog Tryz.f32 weftref14_Read = true := by kernel_rfl
theorem weftref14_Read.at : Tryz.prog.funcs[n_weftref14_Read]? = some Tryz.f32 := Tryz.func32
def weftref32_Callees.r0 : List AStep := [
  ⟨some 4, none, .op (.mov (.c (.sl none 0 0)))⟩]
def weftref32_Callees.r1 : List AStep := [
  ⟨some 5, none, .op (.mov (.c (.sl none 0 0)))⟩]
def weftref32_Callees.r2 : List AStep := [
  ⟨some 10, none, .op (.mov (.t 0))⟩,
  ⟨some 11, none, .op (.mov (.t 1))⟩,
  ⟨some 12, none, .call n_weftref17_Of [.t 10, .t 11]⟩,
  ⟨some 6, none, .op (.mov (.t 12))⟩]
def weftref32_Callees.r3 : List AStep := [
  ⟨some 7, none, .op (.mov (.c (.i .i64 0)))⟩]
def weftref32_Callees.r4 : List AStep := [
  ⟨some 13, none, .op (.mov (.t 7))⟩,
  ⟨some 14, none, .op (.mov (.t 6))⟩,
  ⟨some 15, none, .op (.len false (.t 14))⟩,
  ⟨some 16, none, .op (.bin .lss (.t 13) (.t 15))⟩]
def weftref32_Callees.r5 : List AStep := [
  ⟨some 20, none, .op (.mov (.t 6))⟩,
  ⟨some 21, none, .op (.mov (.t 7))⟩,
  ⟨some 22, none, .op (.iad 1 (.t 20) (.t 21))⟩,
  ⟨some 23, none, .op (.load false 1 (.t 22))⟩,
  ⟨some 24, none, .call n_weftref14_Read [.t 23]⟩,
  ⟨some 19, none, .op (.mov (.t 24))⟩,
  ⟨some 25, none, .op (.ext 0 (.t 19))⟩,
  ⟨some 26, none, .op (.ext 1 (.t 19))⟩,
  ⟨some 8, none, .op (.new [.i .i64 0, .s [], .i .i64 0, .s [], .i .i64 0, .i .i64 0])⟩,
  ⟨none, none, .op (.store 6 (.t 8) (.t 25))⟩,
  ⟨some 9, none, .op (.mov (.t 26))⟩]
def weftref32_Callees.r6 : List AStep := [
  ⟨some 27, none, .op (.mov (.t 9))⟩,
  ⟨some 28, none, .op (.bin .eql (.t 27) (.c (.i .i64 0)))⟩,
  ⟨some 29, none, .op (.mov (.t 28))⟩,
  ⟨some 30, (some (29, true)), .op (.fadr 0 (.t 8))⟩,
  ⟨some 31, (some (29, true)), .op (.load false 1 (.t 30))⟩,
  ⟨some 32, (some (29, true)), .op (.bin .eql (.t 31) (.c (.i .i64 4)))⟩,
  ⟨some 33, none, .op (.pick (.t 29) (.t 32) (.c (.b false)))⟩]
def weftref32_Callees.r7 : List AStep := [
  ⟨some 34, none, .op (.mov (.t 5))⟩,
  ⟨some 35, none, .op (.fadr 1 (.t 8))⟩,
  ⟨some 36, none, .op (.load false 1 (.t 35))⟩,
  ⟨some 37, none, .call n_weftref05_Into [.t 34, .t 36]⟩,
  ⟨some 5, none, .op (.mov (.t 37))⟩]
def weftref32_Callees.r8 : List AStep := [
  ⟨some 17, none, .op (.mov (.t 7))⟩,
  ⟨some 18, none, .op (.bin .add (.t 17) (.c (.i .i64 1)))⟩,
  ⟨some 7, none, .op (.mov (.t 18))⟩]
def weftref32_Callees.l0 : ACode := .seq (.seq (.post [5, 6, 7, 16] (.region weftref32_Callees.r4)) (.post [5, 6, 7] (.cond (.t 16) (.skip) (.exit 0)))) (.seq (.post [5, 6, 7] (.block 1 (.seq (.post [5, 6, 7, 8, 9] (.region weftref32_Callees.r5)) (.seq (.post [5, 6, 7, 8, 33] (.region weftref32_Callees.r6)) (.post [5, 6, 7] (.cond (.t 33) (.post [5, 6, 7] (.region weftref32_Callees.r7)) (.skip))))))) (.post [5, 6, 7] (.region weftref32_Callees.r8)))
def weftref32_Callees.r9 : List AStep := [
  ⟨some 38, none, .op (.mov (.t 5))⟩,
  ⟨some 4, none, .op (.mov (.t 38))⟩]
def weftref32_Callees : AFunc := ⟨39, [.t 4], .seq (.post [0, 1] (.region weftref32_Callees.r0)) (.seq (.post [0, 1, 5] (.region weftref32_Callees.r1)) (.seq (.post [5, 6] (.region weftref32_Callees.r2)) (.seq (.seq (.post [5, 6, 7] (.region weftref32_Callees.r3)) (.post [5] (.block 0 (.loop weftref32_Callees.l0)))) (.seq (.post [4] (.region weftref32_Callees.r9)) (.ret)))))⟩
theorem weftref32_Callees.ok : okFunc Tryz.prog Tryz.f12 weftref32_Callees = true := by kernel_rfl
theorem weftref32_Callees.at : Tryz.prog.funcs[n_weftref32_Callees]? = some Tryz.f12 := Tryz.func12
def weftref32_Holders.r0 : List AStep := [
  ⟨some 4, none, .op (.mov (.c (.sl none 0 0)))⟩]
def weftref32_Holders.r1 : List AStep := [
  ⟨some 5, none, .op (.mov (.c (.sl none 0 0)))⟩]
def weftref32_Holders.r2 : List AStep := [
  ⟨some 6, none, .op (.mov (.c (.i .i64 0)))⟩]
def weftref32_Holders.r3 : List AStep := [
  ⟨some 7, none, .op (.mov (.t 6))⟩,
  ⟨some 8, none, .op (.mov (.t 0))⟩,
  ⟨some 9, none, .op (.len false (.t 8))⟩,
  ⟨some 10, none, .op (.bin .lss (.t 7) (.t 9))⟩]
def weftref32_Holders.r4 : List AStep := [
  ⟨some 13, none, .op (.mov (.t 0))⟩,
  ⟨some 14, none, .op (.mov (.t 6))⟩,
  ⟨some 15, none, .op (.iad 2 (.t 13) (.t 14))⟩,
  ⟨some 16, none, .op (.fadr 1 (.t 15))⟩,
  ⟨some 17, none, .op (.load false 1 (.t 16))⟩,
  ⟨some 18, none, .op (.mov (.t 1))⟩,
  ⟨some 19, none, .call n_weftref05_Number [.t 17, .t 18]⟩,
  ⟨some 20, none, .op (.bin .geq (.t 19) (.c (.i .i64 0)))⟩]
def weftref32_Holders.r5 : List AStep := [
  ⟨some 21, none, .op (.mov (.t 5))⟩,
  ⟨some 22, none, .op (.mov (.t 0))⟩,
  ⟨some 23, none, .op (.mov (.t 6))⟩,
  ⟨some 24, none, .op (.iad 2 (.t 22) (.t 23))⟩,
  ⟨some 25, none, .op (.fadr 0 (.t 24))⟩,
  ⟨some 26, none, .op (.load false 1 (.t 25))⟩,
  ⟨some 27, none, .call n_weftref05_Into [.t 21, .t 26]⟩,
  ⟨some 5, none, .op (.mov (.t 27))⟩]
def weftref32_Holders.r6 : List AStep := [
  ⟨some 11, none, .op (.mov (.t 6))⟩,
  ⟨some 12, none, .op (.bin .add (.t 11) (.c (.i .i64 1)))⟩,
  ⟨some 6, none, .op (.mov (.t 12))⟩]
def weftref32_Holders.l0 : ACode := .seq (.seq (.post [0, 1, 5, 6, 10] (.region weftref32_Holders.r3)) (.post [0, 1, 5, 6] (.cond (.t 10) (.skip) (.exit 0)))) (.seq (.post [0, 1, 5, 6] (.block 1 (.seq (.post [0, 1, 5, 6, 20] (.region weftref32_Holders.r4)) (.post [0, 1, 5, 6] (.cond (.t 20) (.post [0, 1, 5, 6] (.region weftref32_Holders.r5)) (.skip)))))) (.post [0, 1, 5, 6] (.region weftref32_Holders.r6)))
def weftref32_Holders.r7 : List AStep := [
  ⟨some 28, none, .op (.mov (.t 5))⟩,
  ⟨some 4, none, .op (.mov (.t 28))⟩]
def weftref32_Holders : AFunc := ⟨29, [.t 4], .seq (.post [0, 1] (.region weftref32_Holders.r0)) (.seq (.post [0, 1, 5] (.region weftref32_Holders.r1)) (.seq (.seq (.post [0, 1, 5, 6] (.region weftref32_Holders.r2)) (.post [5] (.block 0 (.loop weftref32_Holders.l0)))) (.seq (.post [4] (.region weftref32_Holders.r7)) (.ret))))⟩
theorem weftref32_Holders.ok : okFunc Tryz.prog Tryz.f14 weftref32_Holders = true := by kernel_rfl
theorem weftref32_Holders.at : Tryz.prog.funcs[n_weftref32_Holders]? = some Tryz.f14 := Tryz.func14
end C
end Go.Proofs.YtggjaoibcfgofaaGreatDoor
