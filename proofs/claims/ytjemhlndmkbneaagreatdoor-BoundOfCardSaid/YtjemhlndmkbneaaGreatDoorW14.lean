/- Part 14 of the proof of the laws of the queries: CodeB. -/
import Derived.Test.YtjemhlndmkbneaaGreatDoorW13
namespace Go.Proofs.YtjemhlndmkbneaaGreatDoor
open Am Go.Proofs
set_option maxRecDepth 100000
namespace C
def slices_Concat_string_string.r0 : List AStep := [
  ⟨some 2, none, .op (.mov (.c (.sl none 0 0)))⟩]
def slices_Concat_string_string.r1 : List AStep := [
  ⟨some 3, none, .op (.mov (.c (.i .i64 0)))⟩]
def slices_Concat_string_string.r2 : List AStep := [
  ⟨some 9, none, .op (.mov (.t 0))⟩,
  ⟨some 10, none, .op (.len false (.t 9))⟩,
  ⟨some 11, none, .op (.mov (.c (.i .i64 0)))⟩]
def slices_Concat_string_string.r3 : List AStep := [
  ⟨some 12, none, .op (.bin .lss (.t 11) (.t 10))⟩]
def slices_Concat_string_string.r4 : List AStep := [
  ⟨some 13, none, .op (.iad 1 (.t 9) (.t 11))⟩,
  ⟨some 14, none, .op (.load false 1 (.t 13))⟩,
  ⟨some 5, none, .op (.mov (.t 14))⟩]
def slices_Concat_string_string.r5 : List AStep := [
  ⟨some 15, none, .op (.mov (.t 3))⟩,
  ⟨some 16, none, .op (.mov (.t 5))⟩,
  ⟨some 17, none, .op (.len false (.t 16))⟩,
  ⟨some 18, none, .op (.bin .add (.t 15) (.t 17))⟩,
  ⟨some 3, none, .op (.mov (.t 18))⟩]
def slices_Concat_string_string.r6 : List AStep := [
  ⟨some 19, none, .op (.mov (.t 3))⟩,
  ⟨some 20, none, .op (.bin .lss (.t 19) (.c (.i .i64 0)))⟩]
def slices_Concat_string_string.r7 : List AStep := [
  ⟨some 21, none, .op (.no)⟩,
  ⟨none, none, .op (.no)⟩]
def slices_Concat_string_string.r8 : List AStep := [
  ⟨some 22, none, .op (.bin .add (.t 11) (.c (.i .i64 1)))⟩,
  ⟨some 11, none, .op (.mov (.t 22))⟩]
def slices_Concat_string_string.l0 : ACode := .seq (.post [0, 3, 9, 10, 11, 12] (.region slices_Concat_string_string.r3)) (.seq (.post [0, 3, 9, 10, 11] (.cond (.t 12) (.skip) (.exit 0))) (.seq (.post [0, 3, 9, 10, 11] (.block 1 (.seq (.post [0, 3, 5, 9, 10, 11] (.region slices_Concat_string_string.r4)) (.seq (.post [0, 3, 9, 10, 11] (.region slices_Concat_string_string.r5)) (.seq (.post [0, 3, 9, 10, 11, 20] (.region slices_Concat_string_string.r6)) (.post [0, 3, 9, 10, 11] (.cond (.t 20) (.post [0, 3, 9, 10, 11] (.region slices_Concat_string_string.r7)) (.skip)))))))) (.post [0, 3, 9, 10, 11] (.region slices_Concat_string_string.r8))))
def slices_Concat_string_string.r9 : List AStep := [
  ⟨some 23, none, .op (.mov (.t 3))⟩,
  ⟨some 24, none, .call n_slices_Grow_string_string [.c (.sl none 0 0), .t 23]⟩,
  ⟨some 6, none, .op (.mov (.t 24))⟩]
def slices_Concat_string_string.r10 : List AStep := [
  ⟨some 25, none, .op (.mov (.t 0))⟩,
  ⟨some 26, none, .op (.len false (.t 25))⟩,
  ⟨some 27, none, .op (.mov (.c (.i .i64 0)))⟩]
def slices_Concat_string_string.r11 : List AStep := [
  ⟨some 28, none, .op (.bin .lss (.t 27) (.t 26))⟩]
def slices_Concat_string_string.r12 : List AStep := [
  ⟨some 29, none, .op (.iad 1 (.t 25) (.t 27))⟩,
  ⟨some 30, none, .op (.load false 1 (.t 29))⟩,
  ⟨some 8, none, .op (.mov (.t 30))⟩]
def slices_Concat_string_string.r13 : List AStep := [
  ⟨some 31, none, .op (.mov (.t 6))⟩,
  ⟨some 32, none, .op (.mov (.t 8))⟩,
  ⟨some 33, none, .op (.app 1 16 (.t 31) (.t 32))⟩,
  ⟨some 6, none, .op (.mov (.t 33))⟩]
def slices_Concat_string_string.r14 : List AStep := [
  ⟨some 34, none, .op (.bin .add (.t 27) (.c (.i .i64 1)))⟩,
  ⟨some 27, none, .op (.mov (.t 34))⟩]
def slices_Concat_string_string.l1 : ACode := .seq (.post [6, 25, 26, 27, 28] (.region slices_Concat_string_string.r11)) (.seq (.post [6, 25, 26, 27] (.cond (.t 28) (.skip) (.exit 2))) (.seq (.post [6, 25, 26, 27] (.block 3 (.seq (.post [6, 8, 25, 26, 27] (.region slices_Concat_string_string.r12)) (.post [6, 25, 26, 27] (.region slices_Concat_string_string.r13))))) (.post [6, 25, 26, 27] (.region slices_Concat_string_string.r14))))
def slices_Concat_string_string.r15 : List AStep := [
  ⟨some 35, none, .op (.mov (.t 6))⟩,
  ⟨some 2, none, .op (.mov (.t 35))⟩]
def slices_Concat_string_string : AFunc := ⟨36, [.t 2], .seq (.post [0] (.region slices_Concat_string_string.r0)) (.seq (.post [0, 3] (.region slices_Concat_string_string.r1)) (.seq (.seq (.post [0, 3, 9, 10, 11] (.region slices_Concat_string_string.r2)) (.post [0, 3] (.block 0 (.loop slices_Concat_string_string.l0)))) (.seq (.post [0, 6] (.region slices_Concat_string_string.r9)) (.seq (.seq (.post [6, 25, 26, 27] (.region slices_Concat_string_string.r10)) (.post [6] (.block 2 (.loop slices_Concat_string_string.l1)))) (.seq (.post [2] (.region slices_Concat_string_string.r15)) (.ret))))))⟩
theorem slices_Concat_string_string.ok : okFunc Tryz.prog Tryz.f12 slices_Concat_string_string = true := by kernel_rfl
theorem slices_Concat_string_string.at : Tryz.prog.funcs[n_slices_Concat_string_string]? = some Tryz.f12 := Tryz.func12
def bound_Of.r0 : List AStep := [
  ⟨some 1, none, .op (.boxf (.t 0))⟩,
  ⟨some 2, none, .op (.new [.i .i64 0, .i .i64 0])⟩]
def bound_Of.r1 : List AStep := [
  ⟨some 3, none, .op (.new [.i .i64 0, .i .i64 0])⟩]
def bound_Of.r2 : List AStep := [
  ⟨some 8, none, .op (.load true 3 (.t 1))⟩,
  ⟨some 9, none, .call n_system_Check [.t 8]⟩,
  ⟨some 10, none, .op (.bin .neq (.t 9) (.c (.i .i64 0)))⟩]
def bound_Of.r3 : List AStep := [
  ⟨some 11, none, .op (.load true 2 (.t 3))⟩,
  ⟨none, none, .op (.store 2 (.t 2) (.t 11))⟩]
def bound_Of.r4 : List AStep := [
  ⟨some 12, none, .op (.load true 3 (.t 1))⟩,
  ⟨some 13, none, .call n_system_Nodes [.t 12]⟩,
  ⟨some 14, none, .op (.load true 3 (.t 1))⟩,
  ⟨some 15, none, .call n_system_Places [.t 14]⟩,
  ⟨some 16, none, .op (.bfz 2 1 [.sl none 0 0] [(0, 1, .t 13), (1, 1, .t 15)])⟩,
  ⟨some 17, none, .call n_slices_Concat_string_string [.t 16]⟩,
  ⟨some 18, none, .call n_intern_Sorted_string [.t 17]⟩,
  ⟨some 19, none, .op (.len false (.t 18))⟩,
  ⟨some 20, none, .op (.fadr 0 (.t 3))⟩,
  ⟨none, none, .op (.store 1 (.t 20) (.t 19))⟩]
def bound_Of.r5 : List AStep := [
  ⟨some 21, none, .op (.fadr 1 (.t 1))⟩,
  ⟨some 22, none, .op (.load false 1 (.t 21))⟩,
  ⟨some 23, none, .op (.len false (.t 22))⟩,
  ⟨some 24, none, .op (.mov (.c (.i .i64 0)))⟩]
def bound_Of.r6 : List AStep := [
  ⟨some 25, none, .op (.bin .lss (.t 24) (.t 23))⟩]
def bound_Of.r7 : List AStep := [
  ⟨some 26, none, .op (.iad 3 (.t 22) (.t 24))⟩,
  ⟨some 27, none, .op (.load true 3 (.t 26))⟩,
  ⟨some 5, none, .op (.new [.s [], .s [], .s []])⟩,
  ⟨none, none, .op (.store 3 (.t 5) (.t 27))⟩]
def bound_Of.r8 : List AStep := [
  ⟨some 28, none, .op (.fadr 0 (.t 3))⟩,
  ⟨some 29, none, .op (.load false 1 (.t 28))⟩,
  ⟨some 30, none, .op (.fadr 1 (.t 5))⟩,
  ⟨some 31, none, .op (.load false 1 (.t 30))⟩,
  ⟨some 32, none, .op (.len true (.t 31))⟩,
  ⟨some 33, none, .op (.bin .add (.t 32) (.c (.i .i64 1)))⟩,
  ⟨some 34, none, .op (.bin .add (.t 29) (.t 33))⟩,
  ⟨some 35, none, .op (.fadr 0 (.t 3))⟩,
  ⟨none, none, .op (.store 1 (.t 35) (.t 34))⟩]
def bound_Of.r9 : List AStep := [
  ⟨some 36, none, .op (.bin .add (.t 24) (.c (.i .i64 1)))⟩,
  ⟨some 24, none, .op (.mov (.t 36))⟩]
def bound_Of.l0 : ACode := .seq (.post [1, 2, 3, 22, 23, 24, 25] (.region bound_Of.r6)) (.seq (.post [1, 2, 3, 22, 23, 24] (.cond (.t 25) (.skip) (.exit 0))) (.seq (.post [1, 2, 3, 22, 23, 24] (.block 1 (.seq (.post [1, 2, 3, 5, 22, 23, 24] (.region bound_Of.r7)) (.post [1, 2, 3, 22, 23, 24] (.region bound_Of.r8))))) (.post [1, 2, 3, 22, 23, 24] (.region bound_Of.r9))))
def bound_Of.r10 : List AStep := [
  ⟨some 37, none, .op (.fadr 2 (.t 1))⟩,
  ⟨some 38, none, .op (.load false 1 (.t 37))⟩,
  ⟨some 39, none, .op (.len false (.t 38))⟩,
  ⟨some 40, none, .op (.mov (.c (.i .i64 0)))⟩]
def bound_Of.r11 : List AStep := [
  ⟨some 41, none, .op (.bin .lss (.t 40) (.t 39))⟩]
def bound_Of.r12 : List AStep := [
  ⟨some 42, none, .op (.iad 6 (.t 38) (.t 40))⟩,
  ⟨some 43, none, .op (.load true 6 (.t 42))⟩,
  ⟨some 7, none, .op (.new [.i .i64 0, .s [], .s [], .i .i64 0, .s [], .sl none 0 0])⟩,
  ⟨none, none, .op (.store 6 (.t 7) (.t 43))⟩]
def bound_Of.r13 : List AStep := [
  ⟨some 44, none, .op (.fadr 0 (.t 7))⟩,
  ⟨some 45, none, .op (.load false 1 (.t 44))⟩,
  ⟨some 46, none, .op (.bin .neq (.t 45) (.c (.i .i64 1)))⟩,
  ⟨some 47, none, .op (.mov (.t 46))⟩,
  ⟨some 48, (some (47, true)), .op (.fadr 0 (.t 7))⟩,
  ⟨some 49, (some (47, true)), .op (.load false 1 (.t 48))⟩,
  ⟨some 50, (some (47, true)), .op (.bin .neq (.t 49) (.c (.i .i64 2)))⟩,
  ⟨some 51, none, .op (.pick (.t 47) (.t 50) (.c (.b false)))⟩]
def bound_Of.r14 : List AStep := [
  ⟨some 52, none, .op (.fadr 1 (.t 3))⟩,
  ⟨some 53, none, .op (.load false 1 (.t 52))⟩,
  ⟨some 54, none, .op (.bin .add (.t 53) (.c (.i .i64 1)))⟩,
  ⟨some 55, none, .op (.fadr 1 (.t 3))⟩,
  ⟨none, none, .op (.store 1 (.t 55) (.t 54))⟩]
def bound_Of.r15 : List AStep := [
  ⟨some 56, none, .op (.bin .add (.t 40) (.c (.i .i64 1)))⟩,
  ⟨some 40, none, .op (.mov (.t 56))⟩]
def bound_Of.l1 : ACode := .seq (.post [2, 3, 38, 39, 40, 41] (.region bound_Of.r11)) (.seq (.post [2, 3, 38, 39, 40] (.cond (.t 41) (.skip) (.exit 2))) (.seq (.post [2, 3, 38, 39, 40] (.block 3 (.seq (.post [2, 3, 7, 38, 39, 40] (.region bound_Of.r12)) (.seq (.post [2, 3, 38, 39, 40, 51] (.region bound_Of.r13)) (.post [2, 3, 38, 39, 40] (.cond (.t 51) (.post [2, 3, 38, 39, 40] (.region bound_Of.r14)) (.skip))))))) (.post [2, 3, 38, 39, 40] (.region bound_Of.r15))))
def bound_Of.r16 : List AStep := [
  ⟨some 57, none, .op (.load true 2 (.t 3))⟩,
  ⟨none, none, .op (.store 2 (.t 2) (.t 57))⟩]
def bound_Of : AFunc := ⟨58, [.cell 2 true 2], .seq (.post [1, 2] (.region bound_Of.r0)) (.seq (.post [1, 2, 3] (.region bound_Of.r1)) (.seq (.seq (.post [1, 2, 3, 10] (.region bound_Of.r2)) (.post [1, 2, 3] (.cond (.t 10) (.seq (.post [2] (.region bound_Of.r3)) (.ret)) (.skip)))) (.seq (.post [1, 2, 3] (.draw [0, 1, 0, 7, 15, 31, 63, 127, 255, 511] bound_Of.r4)) (.seq (.seq (.post [1, 2, 3, 22, 23, 24] (.region bound_Of.r5)) (.post [1, 2, 3] (.block 0 (.loop bound_Of.l0)))) (.seq (.seq (.post [2, 3, 38, 39, 40] (.region bound_Of.r10)) (.post [2, 3] (.block 2 (.loop bound_Of.l1)))) (.seq (.post [2] (.region bound_Of.r16)) (.ret)))))))⟩
theorem bound_Of.ok : okFunc Tryz.prog Tryz.f5 bound_Of = true := by kernel_rfl
theorem bound_Of.at : Tryz.prog.funcs[n_bound_Of]? = some Tryz.f5 := Tryz.func5
def weftref01_letter.r0 : List AStep := [
  ⟨some 2, none, .op (.mov (.c (.b false)))⟩]
def weftref01_letter.r1 : List AStep := [
  ⟨some 3, none, .op (.mov (.t 0))⟩,
  ⟨some 4, none, .op (.bin .geq (.t 3) (.c (.i .u8 65)))⟩,
  ⟨some 5, none, .op (.mov (.t 4))⟩,
  ⟨some 6, (some (5, true)), .op (.mov (.t 0))⟩,
  ⟨some 7, (some (5, true)), .op (.bin .leq (.t 6) (.c (.i .u8 90)))⟩,
  ⟨some 8, none, .op (.pick (.t 5) (.t 7) (.c (.b false)))⟩,
  ⟨some 9, none, .op (.mov (.t 8))⟩,
  ⟨some 10, (some (9, false)), .op (.mov (.t 0))⟩,
  ⟨some 11, (some (9, false)), .op (.bin .geq (.t 10) (.c (.i .u8 97)))⟩,
  ⟨some 12, (some (9, false)), .op (.mov (.t 11))⟩,
  ⟨some 13, (some (12, true)), .op (.mov (.t 0))⟩,
  ⟨some 14, (some (12, true)), .op (.bin .leq (.t 13) (.c (.i .u8 122)))⟩,
  ⟨some 15, (some (9, false)), .op (.pick (.t 12) (.t 14) (.c (.b false)))⟩,
  ⟨some 16, none, .op (.pick (.t 9) (.c (.b true)) (.t 15))⟩,
  ⟨some 17, none, .op (.mov (.t 16))⟩,
  ⟨some 18, (some (17, false)), .op (.mov (.t 0))⟩,
  ⟨some 19, (some (17, false)), .op (.bin .eql (.t 18) (.c (.i .u8 95)))⟩,
  ⟨some 20, none, .op (.pick (.t 17) (.c (.b true)) (.t 19))⟩,
  ⟨some 2, none, .op (.mov (.t 20))⟩]
def weftref01_letter : AFunc := ⟨21, [.t 2], .seq (.post [0] (.region weftref01_letter.r0)) (.seq (.post [2] (.region weftref01_letter.r1)) (.ret))⟩
theorem weftref01_letter.ok : okFunc Tryz.prog Tryz.f111 weftref01_letter = true := by kernel_rfl
theorem weftref01_letter.at : Tryz.prog.funcs[n_weftref01_letter]? = some Tryz.f111 := Tryz.func111
def weftref01_digit.r0 : List AStep := [
  ⟨some 2, none, .op (.mov (.c (.b false)))⟩]
def weftref01_digit.r1 : List AStep := [
  ⟨some 3, none, .op (.mov (.t 0))⟩,
  ⟨some 4, none, .op (.bin .geq (.t 3) (.c (.i .u8 48)))⟩,
  ⟨some 5, none, .op (.mov (.t 4))⟩,
  ⟨some 6, (some (5, true)), .op (.mov (.t 0))⟩,
  ⟨some 7, (some (5, true)), .op (.bin .leq (.t 6) (.c (.i .u8 57)))⟩,
  ⟨some 8, none, .op (.pick (.t 5) (.t 7) (.c (.b false)))⟩,
  ⟨some 2, none, .op (.mov (.t 8))⟩]
def weftref01_digit : AFunc := ⟨9, [.t 2], .seq (.post [0] (.region weftref01_digit.r0)) (.seq (.post [2] (.region weftref01_digit.r1)) (.ret))⟩
theorem weftref01_digit.ok : okFunc Tryz.prog Tryz.f96 weftref01_digit = true := by kernel_rfl
theorem weftref01_digit.at : Tryz.prog.funcs[n_weftref01_digit]? = some Tryz.f96 := Tryz.func96
def weftref01_Split.r0 : List AStep := [
  ⟨some 2, none, .op (.mov (.c (.s [])))⟩,
  ⟨some 3, none, .op (.mov (.c (.s [])))⟩]
def weftref01_Split.r1 : List AStep := [
  ⟨some 6, none, .op (.mov (.t 0))⟩,
  ⟨some 7, none, .op (.len true (.t 6))⟩,
  ⟨some 8, none, .op (.bin .gtr (.t 7) (.c (.i .i64 0)))⟩,
  ⟨some 9, none, .op (.mov (.t 8))⟩,
  ⟨some 10, (some (9, true)), .op (.mov (.t 0))⟩,
  ⟨some 11, (some (9, true)), .op (.idx (.t 10) (.c (.i .i64 0)))⟩,
  ⟨some 12, (some (9, true)), .call n_weftref01_letter [.t 11]⟩,
  ⟨some 13, none, .op (.pick (.t 9) (.t 12) (.c (.b false)))⟩,
  ⟨some 4, none, .op (.mov (.t 13))⟩]
def weftref01_Split.r2 : List AStep := [
  ⟨some 5, none, .op (.mov (.c (.i .i64 0)))⟩]
def weftref01_Split.r3 : List AStep := [
  ⟨some 14, none, .op (.mov (.t 5))⟩,
  ⟨some 15, none, .op (.mov (.t 0))⟩,
  ⟨some 16, none, .op (.len true (.t 15))⟩,
  ⟨some 17, none, .op (.bin .lss (.t 14) (.t 16))⟩,
  ⟨some 18, none, .op (.mov (.t 17))⟩,
  ⟨some 19, (some (18, true)), .op (.mov (.t 0))⟩,
  ⟨some 20, (some (18, true)), .op (.mov (.t 5))⟩,
  ⟨some 21, (some (18, true)), .op (.idx (.t 19) (.t 20))⟩,
  ⟨some 22, (some (18, true)), .call n_weftref01_digit [.t 21]⟩,
  ⟨some 23, (some (18, true)), .op (.mov (.t 22))⟩,
  ⟨some 24, (some (23, false)), .op (.mov (.t 4))⟩,
  ⟨some 25, (some (23, false)), .op (.mov (.t 24))⟩,
  ⟨some 26, (some (25, true)), .op (.mov (.t 0))⟩,
  ⟨some 27, (some (25, true)), .op (.mov (.t 5))⟩,
  ⟨some 28, (some (25, true)), .op (.idx (.t 26) (.t 27))⟩,
  ⟨some 29, (some (25, true)), .call n_weftref01_letter [.t 28]⟩,
  ⟨some 30, (some (23, false)), .op (.pick (.t 25) (.t 29) (.c (.b false)))⟩,
  ⟨some 31, (some (18, true)), .op (.pick (.t 23) (.c (.b true)) (.t 30))⟩,
  ⟨some 32, none, .op (.pick (.t 18) (.t 31) (.c (.b false)))⟩]
def weftref01_Split.r4 : List AStep := [
  ⟨some 33, none, .op (.mov (.t 5))⟩,
  ⟨some 34, none, .op (.bin .add (.t 33) (.c (.i .i64 1)))⟩,
  ⟨some 5, none, .op (.mov (.t 34))⟩]
def weftref01_Split.l0 : ACode := .seq (.seq (.post [0, 4, 5, 32] (.region weftref01_Split.r3)) (.post [0, 4, 5] (.cond (.t 32) (.skip) (.exit 0)))) (.post [0, 4, 5] (.block 1 (.post [0, 4, 5] (.region weftref01_Split.r4))))
def weftref01_Split.r5 : List AStep := [
  ⟨some 35, none, .op (.mov (.t 0))⟩,
  ⟨some 36, none, .op (.mov (.t 5))⟩,
  ⟨some 37, none, .op (.sls (.t 35) none (some (.t 36)))⟩,
  ⟨some 38, none, .op (.mov (.t 0))⟩,
  ⟨some 39, none, .op (.mov (.t 5))⟩,
  ⟨some 40, none, .op (.sls (.t 38) (some (.t 39)) none)⟩,
  ⟨some 2, none, .op (.mov (.t 37))⟩,
  ⟨some 3, none, .op (.mov (.t 40))⟩]
def weftref01_Split : AFunc := ⟨41, [.t 2, .t 3], .seq (.post [0] (.region weftref01_Split.r0)) (.seq (.post [0, 4] (.region weftref01_Split.r1)) (.seq (.post [0, 4, 5] (.region weftref01_Split.r2)) (.seq (.post [0, 5] (.block 0 (.loop weftref01_Split.l0))) (.seq (.post [2, 3] (.draw [0, 0, 3, 0, 0, 24, 7, 127] weftref01_Split.r5)) (.ret)))))⟩
theorem weftref01_Split.ok : okFunc Tryz.prog Tryz.f95 weftref01_Split = true := by kernel_rfl
theorem weftref01_Split.at : Tryz.prog.funcs[n_weftref01_Split]? = some Tryz.f95 := Tryz.func95
def weftref01_Read.r0 : List AStep := [
  ⟨some 2, none, .op (.mov (.c (.i .i64 0)))⟩,
  ⟨some 3, none, .op (.mov (.c (.i .i64 0)))⟩]
def weftref01_Read.r1 : List AStep := [
  ⟨some 7, none, .op (.mov (.t 0))⟩,
  ⟨some 8, none, .op (.bin .eql (.t 7) (.c (.s [])))⟩]
def weftref01_Read.r2 : List AStep := [
  ⟨some 2, none, .op (.mov (.c (.i .i64 0)))⟩,
  ⟨some 3, none, .op (.mov (.c (.i .i64 1)))⟩]
def weftref01_Read.r3 : List AStep := [
  ⟨some 4, none, .op (.mov (.c (.i .i64 0)))⟩]
def weftref01_Read.r4 : List AStep := [
  ⟨some 9, none, .op (.mov (.t 4))⟩,
  ⟨some 10, none, .op (.mov (.t 0))⟩,
  ⟨some 11, none, .op (.len true (.t 10))⟩,
  ⟨some 12, none, .op (.bin .lss (.t 9) (.t 11))⟩]
def weftref01_Read.r5 : List AStep := [
  ⟨some 15, none, .op (.mov (.t 0))⟩,
  ⟨some 16, none, .op (.mov (.t 4))⟩,
  ⟨some 17, none, .op (.idx (.t 15) (.t 16))⟩,
  ⟨some 18, none, .call n_weftref01_digit [.t 17]⟩,
  ⟨some 19, none, .op (.un .not (.t 18))⟩]
def weftref01_Read.r6 : List AStep := [
  ⟨some 2, none, .op (.mov (.c (.i .i64 0)))⟩,
  ⟨some 3, none, .op (.mov (.c (.i .i64 3)))⟩]
def weftref01_Read.r7 : List AStep := [
  ⟨some 13, none, .op (.mov (.t 4))⟩,
  ⟨some 14, none, .op (.bin .add (.t 13) (.c (.i .i64 1)))⟩,
  ⟨some 4, none, .op (.mov (.t 14))⟩]
def weftref01_Read.l0 : ACode := .seq (.seq (.post [0, 4, 12] (.region weftref01_Read.r4)) (.post [0, 4] (.cond (.t 12) (.skip) (.exit 0)))) (.seq (.post [0, 4] (.block 1 (.seq (.post [0, 4, 19] (.region weftref01_Read.r5)) (.post [0, 4] (.cond (.t 19) (.seq (.post [2, 3] (.region weftref01_Read.r6)) (.ret)) (.skip)))))) (.post [0, 4] (.region weftref01_Read.r7)))
def weftref01_Read.r8 : List AStep := [
  ⟨some 20, none, .op (.mov (.t 0))⟩,
  ⟨some 21, none, .op (.idx (.t 20) (.c (.i .i64 0)))⟩,
  ⟨some 22, none, .op (.bin .eql (.t 21) (.c (.i .u8 48)))⟩,
  ⟨some 23, none, .op (.mov (.t 22))⟩,
  ⟨some 24, (some (23, true)), .op (.mov (.t 0))⟩,
  ⟨some 25, (some (23, true)), .op (.len true (.t 24))⟩,
  ⟨some 26, (some (23, true)), .op (.bin .gtr (.t 25) (.c (.i .i64 1)))⟩,
  ⟨some 27, none, .op (.pick (.t 23) (.t 26) (.c (.b false)))⟩]
def weftref01_Read.r9 : List AStep := [
  ⟨some 2, none, .op (.mov (.c (.i .i64 0)))⟩,
  ⟨some 3, none, .op (.mov (.c (.i .i64 3)))⟩]
def weftref01_Read.r10 : List AStep := [
  ⟨some 5, none, .op (.mov (.c (.i .i64 0)))⟩]
def weftref01_Read.r11 : List AStep := [
  ⟨some 6, none, .op (.mov (.c (.i .i64 0)))⟩]
def weftref01_Read.r12 : List AStep := [
  ⟨some 28, none, .op (.mov (.t 6))⟩,
  ⟨some 29, none, .op (.mov (.t 0))⟩,
  ⟨some 30, none, .op (.len true (.t 29))⟩,
  ⟨some 31, none, .op (.bin .lss (.t 28) (.t 30))⟩]
def weftref01_Read.r13 : List AStep := [
  ⟨some 34, none, .op (.mov (.t 5))⟩,
  ⟨some 35, none, .op (.bin .mul (.c (.i .i64 10)) (.t 34))⟩,
  ⟨some 36, none, .op (.mov (.t 0))⟩,
  ⟨some 37, none, .op (.mov (.t 6))⟩,
  ⟨some 38, none, .op (.idx (.t 36) (.t 37))⟩,
  ⟨some 39, none, .op (.bin .sub (.t 38) (.c (.i .u8 48)))⟩,
  ⟨some 40, none, .op (.conv .i64 (.t 39))⟩,
  ⟨some 41, none, .op (.bin .add (.t 35) (.t 40))⟩,
  ⟨some 5, none, .op (.mov (.t 41))⟩]
def weftref01_Read.r14 : List AStep := [
  ⟨some 42, none, .op (.mov (.t 5))⟩,
  ⟨some 43, none, .op (.bin .gtr (.t 42) (.c (.i .i64 268435456)))⟩]
def weftref01_Read.r15 : List AStep := [
  ⟨some 2, none, .op (.mov (.c (.i .i64 0)))⟩,
  ⟨some 3, none, .op (.mov (.c (.i .i64 2)))⟩]
def weftref01_Read.r16 : List AStep := [
  ⟨some 32, none, .op (.mov (.t 6))⟩,
  ⟨some 33, none, .op (.bin .add (.t 32) (.c (.i .i64 1)))⟩,
  ⟨some 6, none, .op (.mov (.t 33))⟩]
def weftref01_Read.l1 : ACode := .seq (.seq (.post [0, 5, 6, 31] (.region weftref01_Read.r12)) (.post [0, 5, 6] (.cond (.t 31) (.skip) (.exit 2)))) (.seq (.post [0, 5, 6] (.block 3 (.seq (.post [0, 5, 6] (.region weftref01_Read.r13)) (.seq (.post [0, 5, 6, 43] (.region weftref01_Read.r14)) (.post [0, 5, 6] (.cond (.t 43) (.seq (.post [2, 3] (.region weftref01_Read.r15)) (.ret)) (.skip))))))) (.post [0, 5, 6] (.region weftref01_Read.r16)))
def weftref01_Read.r17 : List AStep := [
  ⟨some 44, none, .op (.mov (.t 5))⟩,
  ⟨some 2, none, .op (.mov (.t 44))⟩,
  ⟨some 3, none, .op (.mov (.c (.i .i64 0)))⟩]
def weftref01_Read : AFunc := ⟨45, [.t 2, .t 3], .seq (.post [0] (.region weftref01_Read.r0)) (.seq (.seq (.post [0, 8] (.region weftref01_Read.r1)) (.post [0] (.cond (.t 8) (.seq (.post [2, 3] (.region weftref01_Read.r2)) (.ret)) (.skip)))) (.seq (.seq (.post [0, 4] (.region weftref01_Read.r3)) (.post [0] (.block 0 (.loop weftref01_Read.l0)))) (.seq (.seq (.post [0, 27] (.region weftref01_Read.r8)) (.post [0] (.cond (.t 27) (.seq (.post [2, 3] (.region weftref01_Read.r9)) (.ret)) (.skip)))) (.seq (.post [0, 5] (.region weftref01_Read.r10)) (.seq (.seq (.post [0, 5, 6] (.region weftref01_Read.r11)) (.post [5] (.block 2 (.loop weftref01_Read.l1)))) (.seq (.post [2, 3] (.region weftref01_Read.r17)) (.ret)))))))⟩
theorem weftref01_Read.ok : okFunc Tryz.prog Tryz.f74 weftref01_Read = true := by kernel_rfl
theorem weftref01_Read.at : Tryz.prog.funcs[n_weftref01_Read]? = some Tryz.f74 := Tryz.func74
def weftref14_parts.r0 : List AStep := [
  ⟨some 2, none, .op (.mov (.c (.s [])))⟩,
  ⟨some 3, none, .op (.mov (.c (.i .i64 0)))⟩,
  ⟨some 4, none, .op (.mov (.c (.s [])))⟩,
  ⟨some 5, none, .op (.mov (.c (.s [])))⟩,
  ⟨some 6, none, .op (.mov (.c (.i .i64 0)))⟩]
def weftref14_parts.r1 : List AStep := [
  ⟨some 16, none, .op (.mov (.t 0))⟩,
  ⟨some 17, none, .call n_weftref01_Split [.t 16]⟩,
  ⟨some 15, none, .op (.mov (.t 17))⟩,
  ⟨some 18, none, .op (.ext 0 (.t 15))⟩,
  ⟨some 19, none, .op (.ext 1 (.t 15))⟩,
  ⟨some 7, none, .op (.mov (.t 18))⟩,
  ⟨some 8, none, .op (.mov (.t 19))⟩]
def weftref14_parts.r2 : List AStep := [
  ⟨some 9, none, .op (.mov (.c (.i .i64 0)))⟩,
  ⟨some 10, none, .op (.mov (.c (.i .i64 (-1))))⟩]
def weftref14_parts.r3 : List AStep := [
  ⟨some 20, none, .op (.mov (.t 8))⟩,
  ⟨some 21, none, .op (.bin .neq (.t 20) (.c (.s [])))⟩,
  ⟨some 22, none, .op (.mov (.t 21))⟩,
  ⟨some 23, (some (22, true)), .op (.mov (.t 8))⟩,
  ⟨some 24, (some (22, true)), .op (.idx (.t 23) (.c (.i .i64 0)))⟩,
  ⟨some 25, (some (22, true)), .op (.bin .eql (.t 24) (.c (.i .u8 126)))⟩,
  ⟨some 26, none, .op (.pick (.t 22) (.t 25) (.c (.b false)))⟩]
def weftref14_parts.r4 : List AStep := [
  ⟨some 28, none, .op (.mov (.t 8))⟩,
  ⟨some 29, none, .op (.sls (.t 28) (some (.c (.i .i64 1))) none)⟩,
  ⟨some 30, none, .call n_weftref01_Split [.t 29]⟩,
  ⟨some 27, none, .op (.mov (.t 30))⟩,
  ⟨some 31, none, .op (.ext 0 (.t 27))⟩,
  ⟨some 32, none, .op (.ext 1 (.t 27))⟩,
  ⟨some 11, none, .op (.mov (.t 31))⟩,
  ⟨some 12, none, .op (.mov (.t 32))⟩]
def weftref14_parts.r5 : List AStep := [
  ⟨some 34, none, .op (.mov (.t 11))⟩,
  ⟨some 35, none, .call n_weftref01_Read [.t 34]⟩,
  ⟨some 33, none, .op (.mov (.t 35))⟩,
  ⟨some 36, none, .op (.ext 0 (.t 33))⟩,
  ⟨some 37, none, .op (.ext 1 (.t 33))⟩,
  ⟨some 9, none, .op (.mov (.t 36))⟩]
def weftref14_parts.r6 : List AStep := [
  ⟨some 38, none, .op (.mov (.t 12))⟩,
  ⟨some 8, none, .op (.mov (.t 38))⟩]
def weftref14_parts.r7 : List AStep := [
  ⟨some 13, none, .op (.mov (.c (.s [])))⟩,
  ⟨some 14, none, .op (.mov (.c (.s [])))⟩]
def weftref14_parts.r8 : List AStep := [
  ⟨some 39, none, .op (.mov (.t 8))⟩,
  ⟨some 40, none, .op (.bin .neq (.t 39) (.c (.s [])))⟩,
  ⟨some 41, none, .op (.mov (.t 40))⟩,
  ⟨some 42, (some (41, true)), .op (.mov (.t 8))⟩,
  ⟨some 43, (some (41, true)), .op (.idx (.t 42) (.c (.i .i64 0)))⟩,
  ⟨some 44, (some (41, true)), .op (.bin .neq (.t 43) (.c (.i .u8 43)))⟩,
  ⟨some 45, none, .op (.pick (.t 41) (.t 44) (.c (.b false)))⟩]
def weftref14_parts.r9 : List AStep := [
  ⟨some 46, none, .op (.mov (.t 8))⟩,
  ⟨some 47, none, .op (.sls (.t 46) none (some (.c (.i .i64 1))))⟩,
  ⟨some 13, none, .op (.mov (.t 47))⟩]
def weftref14_parts.r10 : List AStep := [
  ⟨some 49, none, .op (.mov (.t 8))⟩,
  ⟨some 50, none, .op (.sls (.t 49) (some (.c (.i .i64 1))) none)⟩,
  ⟨some 51, none, .call n_weftref01_Split [.t 50]⟩,
  ⟨some 48, none, .op (.mov (.t 51))⟩,
  ⟨some 52, none, .op (.ext 0 (.t 48))⟩,
  ⟨some 53, none, .op (.ext 1 (.t 48))⟩,
  ⟨some 14, none, .op (.mov (.t 52))⟩,
  ⟨some 8, none, .op (.mov (.t 53))⟩]
def weftref14_parts.r11 : List AStep := [
  ⟨some 54, none, .op (.mov (.t 13))⟩,
  ⟨some 55, none, .op (.bin .eql (.t 54) (.c (.s [40])))⟩,
  ⟨some 56, none, .op (.mov (.t 55))⟩,
  ⟨some 57, (some (56, true)), .op (.mov (.t 8))⟩,
  ⟨some 58, (some (56, true)), .op (.bin .eql (.t 57) (.c (.s [41])))⟩,
  ⟨some 59, none, .op (.pick (.t 56) (.t 58) (.c (.b false)))⟩]
def weftref14_parts.r12 : List AStep := [
  ⟨some 8, none, .op (.mov (.c (.s [])))⟩]
def weftref14_parts.r13 : List AStep := [
  ⟨some 60, none, .op (.mov (.t 8))⟩,
  ⟨some 61, none, .op (.bin .neq (.t 60) (.c (.s [])))⟩,
  ⟨some 62, none, .op (.mov (.t 61))⟩,
  ⟨some 63, (some (62, true)), .op (.mov (.t 8))⟩,
  ⟨some 64, (some (62, true)), .op (.idx (.t 63) (.c (.i .i64 0)))⟩,
  ⟨some 65, (some (62, true)), .op (.bin .eql (.t 64) (.c (.i .u8 43)))⟩,
  ⟨some 66, none, .op (.pick (.t 62) (.t 65) (.c (.b false)))⟩]
def weftref14_parts.r14 : List AStep := [
  ⟨some 68, none, .op (.mov (.t 8))⟩,
  ⟨some 69, none, .op (.sls (.t 68) (some (.c (.i .i64 1))) none)⟩,
  ⟨some 70, none, .call n_weftref01_Read [.t 69]⟩,
  ⟨some 67, none, .op (.mov (.t 70))⟩,
  ⟨some 71, none, .op (.ext 0 (.t 67))⟩,
  ⟨some 72, none, .op (.ext 1 (.t 67))⟩,
  ⟨some 10, none, .op (.mov (.t 71))⟩]
def weftref14_parts.r15 : List AStep := [
  ⟨some 73, none, .op (.mov (.t 7))⟩,
  ⟨some 74, none, .op (.mov (.t 9))⟩,
  ⟨some 75, none, .op (.mov (.t 13))⟩,
  ⟨some 76, none, .op (.mov (.t 14))⟩,
  ⟨some 77, none, .op (.mov (.t 10))⟩,
  ⟨some 2, none, .op (.mov (.t 73))⟩,
  ⟨some 3, none, .op (.mov (.t 74))⟩,
  ⟨some 4, none, .op (.mov (.t 75))⟩,
  ⟨some 5, none, .op (.mov (.t 76))⟩,
  ⟨some 6, none, .op (.mov (.t 77))⟩]
def weftref14_parts : AFunc := ⟨78, [.t 2, .t 3, .t 4, .t 5, .t 6], .seq (.post [0] (.region weftref14_parts.r0)) (.seq (.post [7, 8] (.region weftref14_parts.r1)) (.seq (.post [7, 8, 9, 10] (.region weftref14_parts.r2)) (.seq (.seq (.post [7, 8, 9, 10, 26] (.region weftref14_parts.r3)) (.post [7, 8, 9, 10] (.cond (.t 26) (.seq (.post [7, 10, 11, 12] (.region weftref14_parts.r4)) (.seq (.post [7, 9, 10, 12] (.region weftref14_parts.r5)) (.post [7, 8, 9, 10] (.region weftref14_parts.r6)))) (.skip)))) (.seq (.post [7, 8, 9, 10, 13, 14] (.region weftref14_parts.r7)) (.seq (.seq (.post [7, 8, 9, 10, 13, 14, 45] (.region weftref14_parts.r8)) (.post [7, 8, 9, 10, 13, 14] (.cond (.t 45) (.seq (.post [7, 8, 9, 10, 13] (.region weftref14_parts.r9)) (.seq (.post [7, 8, 9, 10, 13, 14] (.region weftref14_parts.r10)) (.seq (.post [7, 8, 9, 10, 13, 14, 59] (.region weftref14_parts.r11)) (.post [7, 8, 9, 10, 13, 14] (.cond (.t 59) (.post [7, 8, 9, 10, 13, 14] (.region weftref14_parts.r12)) (.skip)))))) (.skip)))) (.seq (.seq (.post [7, 8, 9, 10, 13, 14, 66] (.region weftref14_parts.r13)) (.post [7, 9, 10, 13, 14] (.cond (.t 66) (.post [7, 9, 10, 13, 14] (.region weftref14_parts.r14)) (.skip)))) (.seq (.post [2, 3, 4, 5, 6] (.region weftref14_parts.r15)) (.ret))))))))⟩
theorem weftref14_parts.ok : okFunc Tryz.prog Tryz.f73 weftref14_parts = true := by kernel_rfl
theorem weftref14_parts.at : Tryz.prog.funcs[n_weftref14_parts]? = some Tryz.f73 := Tryz.func73
def weftref14_count.r0 : List AStep := [
  ⟨some 2, none, .op (.mov (.c (.b false)))⟩]
def weftref14_count.r1 : List AStep := [
  ⟨some 3, none, .op (.mov (.t 0))⟩,
  ⟨some 4, none, .op (.bin .geq (.t 3) (.c (.i .i64 0)))⟩,
  ⟨some 5, none, .op (.mov (.t 4))⟩,
  ⟨some 6, (some (5, true)), .op (.mov (.t 0))⟩,
  ⟨some 7, (some (5, true)), .op (.bin .leq (.t 6) (.c (.i .i64 268435456)))⟩,
  ⟨some 8, none, .op (.pick (.t 5) (.t 7) (.c (.b false)))⟩,
  ⟨some 2, none, .op (.mov (.t 8))⟩]
def weftref14_count : AFunc := ⟨9, [.t 2], .seq (.post [0] (.region weftref14_count.r0)) (.seq (.post [2] (.region weftref14_count.r1)) (.ret))⟩
theorem weftref14_count.ok : okFunc Tryz.prog Tryz.f112 weftref14_count = true := by kernel_rfl
theorem weftref14_count.at : Tryz.prog.funcs[n_weftref14_count]? = some Tryz.f112 := Tryz.func112
def weftref01_Name.r0 : List AStep := [
  ⟨some 2, none, .op (.mov (.c (.b false)))⟩]
def weftref01_Name.r1 : List AStep := [
  ⟨some 4, none, .op (.mov (.t 0))⟩,
  ⟨some 5, none, .op (.bin .eql (.t 4) (.c (.s [])))⟩,
  ⟨some 6, none, .op (.mov (.t 5))⟩,
  ⟨some 7, (some (6, false)), .op (.mov (.t 0))⟩,
  ⟨some 8, (some (6, false)), .op (.len true (.t 7))⟩,
  ⟨some 9, (some (6, false)), .op (.bin .gtr (.t 8) (.c (.i .i64 16)))⟩,
  ⟨some 10, none, .op (.pick (.t 6) (.c (.b true)) (.t 9))⟩,
  ⟨some 11, none, .op (.mov (.t 10))⟩,
  ⟨some 12, (some (11, false)), .op (.mov (.t 0))⟩,
  ⟨some 13, (some (11, false)), .op (.idx (.t 12) (.c (.i .i64 0)))⟩,
  ⟨some 14, (some (11, false)), .call n_weftref01_letter [.t 13]⟩,
  ⟨some 15, (some (11, false)), .op (.un .not (.t 14))⟩,
  ⟨some 16, none, .op (.pick (.t 11) (.c (.b true)) (.t 15))⟩]
def weftref01_Name.r2 : List AStep := [
  ⟨some 2, none, .op (.mov (.c (.b false)))⟩]
def weftref01_Name.r3 : List AStep := [
  ⟨some 3, none, .op (.mov (.c (.i .i64 0)))⟩]
def weftref01_Name.r4 : List AStep := [
  ⟨some 17, none, .op (.mov (.t 3))⟩,
  ⟨some 18, none, .op (.mov (.t 0))⟩,
  ⟨some 19, none, .op (.len true (.t 18))⟩,
  ⟨some 20, none, .op (.bin .lss (.t 17) (.t 19))⟩]
def weftref01_Name.r5 : List AStep := [
  ⟨some 23, none, .op (.mov (.t 0))⟩,
  ⟨some 24, none, .op (.mov (.t 3))⟩,
  ⟨some 25, none, .op (.idx (.t 23) (.t 24))⟩,
  ⟨some 26, none, .call n_weftref01_letter [.t 25]⟩,
  ⟨some 27, none, .op (.un .not (.t 26))⟩,
  ⟨some 28, none, .op (.mov (.t 27))⟩,
  ⟨some 29, (some (28, true)), .op (.mov (.t 0))⟩,
  ⟨some 30, (some (28, true)), .op (.mov (.t 3))⟩,
  ⟨some 31, (some (28, true)), .op (.idx (.t 29) (.t 30))⟩,
  ⟨some 32, (some (28, true)), .call n_weftref01_digit [.t 31]⟩,
  ⟨some 33, (some (28, true)), .op (.un .not (.t 32))⟩,
  ⟨some 34, none, .op (.pick (.t 28) (.t 33) (.c (.b false)))⟩]
def weftref01_Name.r6 : List AStep := [
  ⟨some 2, none, .op (.mov (.c (.b false)))⟩]
def weftref01_Name.r7 : List AStep := [
  ⟨some 21, none, .op (.mov (.t 3))⟩,
  ⟨some 22, none, .op (.bin .add (.t 21) (.c (.i .i64 1)))⟩,
  ⟨some 3, none, .op (.mov (.t 22))⟩]
def weftref01_Name.l0 : ACode := .seq (.seq (.post [0, 3, 20] (.region weftref01_Name.r4)) (.post [0, 3] (.cond (.t 20) (.skip) (.exit 0)))) (.seq (.post [0, 3] (.block 1 (.seq (.post [0, 3, 34] (.region weftref01_Name.r5)) (.post [0, 3] (.cond (.t 34) (.seq (.post [2] (.region weftref01_Name.r6)) (.ret)) (.skip)))))) (.post [0, 3] (.region weftref01_Name.r7)))
def weftref01_Name.r8 : List AStep := [
  ⟨some 2, none, .op (.mov (.c (.b true)))⟩]
def weftref01_Name : AFunc := ⟨35, [.t 2], .seq (.post [0] (.region weftref01_Name.r0)) (.seq (.seq (.post [0, 16] (.region weftref01_Name.r1)) (.post [0] (.cond (.t 16) (.seq (.post [2] (.region weftref01_Name.r2)) (.ret)) (.skip)))) (.seq (.seq (.post [0, 3] (.region weftref01_Name.r3)) (.post [] (.block 0 (.loop weftref01_Name.l0)))) (.seq (.post [2] (.region weftref01_Name.r8)) (.ret))))⟩
theorem weftref01_Name.ok : okFunc Tryz.prog Tryz.f113 weftref01_Name = true := by kernel_rfl
theorem weftref01_Name.at : Tryz.prog.funcs[n_weftref01_Name]? = some Tryz.f113 := Tryz.func113
def weftref14_Right.r0 : List AStep := [
  ⟨some 1, none, .op (.boxf (.t 0))⟩,
  ⟨some 2, none, .op (.mov (.c (.b false)))⟩]
def weftref14_Right.r1 : List AStep := [
  ⟨some 5, none, .op (.fadr 0 (.t 1))⟩,
  ⟨some 6, none, .op (.load false 1 (.t 5))⟩,
  ⟨some 7, none, .op (.bin .lss (.t 6) (.c (.i .i64 1)))⟩,
  ⟨some 8, none, .op (.mov (.t 7))⟩,
  ⟨some 9, (some (8, false)), .op (.fadr 0 (.t 1))⟩,
  ⟨some 10, (some (8, false)), .op (.load false 1 (.t 9))⟩,
  ⟨some 11, (some (8, false)), .op (.bin .gtr (.t 10) (.c (.i .i64 7)))⟩,
  ⟨some 12, none, .op (.pick (.t 8) (.c (.b true)) (.t 11))⟩,
  ⟨some 13, none, .op (.mov (.t 12))⟩,
  ⟨some 14, (some (13, false)), .op (.fadr 2 (.t 1))⟩,
  ⟨some 15, (some (13, false)), .op (.load false 1 (.t 14))⟩,
  ⟨some 16, (some (13, false)), .call n_weftref14_count [.t 15]⟩,
  ⟨some 17, (some (13, false)), .op (.un .not (.t 16))⟩,
  ⟨some 18, none, .op (.pick (.t 13) (.c (.b true)) (.t 17))⟩,
  ⟨some 19, none, .op (.mov (.t 18))⟩,
  ⟨some 20, (some (19, false)), .op (.fadr 4 (.t 1))⟩,
  ⟨some 21, (some (19, false)), .op (.load false 1 (.t 20))⟩,
  ⟨some 22, (some (19, false)), .call n_weftref14_count [.t 21]⟩,
  ⟨some 23, (some (19, false)), .op (.un .not (.t 22))⟩,
  ⟨some 24, none, .op (.pick (.t 19) (.c (.b true)) (.t 23))⟩,
  ⟨some 25, none, .op (.mov (.t 24))⟩,
  ⟨some 26, (some (25, false)), .op (.fadr 5 (.t 1))⟩,
  ⟨some 27, (some (25, false)), .op (.load false 1 (.t 26))⟩,
  ⟨some 28, (some (25, false)), .op (.bin .neq (.t 27) (.c (.i .i64 (-1))))⟩,
  ⟨some 29, (some (25, false)), .op (.mov (.t 28))⟩,
  ⟨some 30, (some (29, true)), .op (.fadr 5 (.t 1))⟩,
  ⟨some 31, (some (29, true)), .op (.load false 1 (.t 30))⟩,
  ⟨some 32, (some (29, true)), .call n_weftref14_count [.t 31]⟩,
  ⟨some 33, (some (29, true)), .op (.un .not (.t 32))⟩,
  ⟨some 34, (some (25, false)), .op (.pick (.t 29) (.t 33) (.c (.b false)))⟩,
  ⟨some 35, none, .op (.pick (.t 25) (.c (.b true)) (.t 34))⟩]
def weftref14_Right.r2 : List AStep := [
  ⟨some 2, none, .op (.mov (.c (.b false)))⟩]
def weftref14_Right.r3 : List AStep := [
  ⟨some 36, none, .op (.fadr 0 (.t 1))⟩,
  ⟨some 37, none, .op (.load false 1 (.t 36))⟩,
  ⟨some 38, none, .op (.bin .eql (.t 37) (.c (.i .i64 1)))⟩,
  ⟨some 39, none, .op (.mov (.t 38))⟩,
  ⟨some 40, (some (39, false)), .op (.fadr 0 (.t 1))⟩,
  ⟨some 41, (some (39, false)), .op (.load false 1 (.t 40))⟩,
  ⟨some 42, (some (39, false)), .op (.bin .eql (.t 41) (.c (.i .i64 5)))⟩,
  ⟨some 43, none, .op (.pick (.t 39) (.c (.b true)) (.t 42))⟩,
  ⟨some 44, none, .op (.mov (.t 43))⟩,
  ⟨some 45, (some (44, false)), .op (.fadr 0 (.t 1))⟩,
  ⟨some 46, (some (44, false)), .op (.load false 1 (.t 45))⟩,
  ⟨some 47, (some (44, false)), .op (.bin .eql (.t 46) (.c (.i .i64 6)))⟩,
  ⟨some 48, none, .op (.pick (.t 44) (.c (.b true)) (.t 47))⟩,
  ⟨some 3, none, .op (.mov (.t 48))⟩]
def weftref14_Right.r4 : List AStep := [
  ⟨some 49, none, .op (.fadr 0 (.t 1))⟩,
  ⟨some 50, none, .op (.load false 1 (.t 49))⟩,
  ⟨some 51, none, .op (.bin .eql (.t 50) (.c (.i .i64 2)))⟩,
  ⟨some 52, none, .op (.mov (.t 51))⟩,
  ⟨some 53, (some (52, false)), .op (.fadr 0 (.t 1))⟩,
  ⟨some 54, (some (52, false)), .op (.load false 1 (.t 53))⟩,
  ⟨some 55, (some (52, false)), .op (.bin .eql (.t 54) (.c (.i .i64 3)))⟩,
  ⟨some 56, none, .op (.pick (.t 52) (.c (.b true)) (.t 55))⟩,
  ⟨some 57, none, .op (.mov (.t 56))⟩,
  ⟨some 58, (some (57, false)), .op (.fadr 0 (.t 1))⟩,
  ⟨some 59, (some (57, false)), .op (.load false 1 (.t 58))⟩,
  ⟨some 60, (some (57, false)), .op (.bin .eql (.t 59) (.c (.i .i64 7)))⟩,
  ⟨some 61, none, .op (.pick (.t 57) (.c (.b true)) (.t 60))⟩,
  ⟨some 4, none, .op (.mov (.t 61))⟩]
def weftref14_Right.r5 : List AStep := [
  ⟨some 63, none, .op (.fadr 0 (.t 1))⟩,
  ⟨some 64, none, .op (.load false 1 (.t 63))⟩,
  ⟨some 65, none, .op (.bin .eql (.t 64) (.c (.i .i64 5)))⟩,
  ⟨some 66, none, .op (.fadr 1 (.t 1))⟩,
  ⟨some 67, none, .op (.load false 1 (.t 66))⟩,
  ⟨some 68, none, .op (.bin .eql (.t 67) (.c (.s [])))⟩,
  ⟨some 69, none, .op (.eqk .bool true (.t 65) (.t 68))⟩,
  ⟨some 70, none, .op (.mov (.t 69))⟩,
  ⟨some 71, (some (70, false)), .op (.fadr 1 (.t 1))⟩,
  ⟨some 72, (some (70, false)), .op (.load false 1 (.t 71))⟩,
  ⟨some 73, (some (70, false)), .op (.bin .neq (.t 72) (.c (.s [])))⟩,
  ⟨some 74, (some (70, false)), .op (.mov (.t 73))⟩,
  ⟨some 75, (some (74, true)), .op (.fadr 1 (.t 1))⟩,
  ⟨some 76, (some (74, true)), .op (.load false 1 (.t 75))⟩,
  ⟨some 77, (some (74, true)), .call n_weftref01_Name [.t 76]⟩,
  ⟨some 78, (some (74, true)), .op (.un .not (.t 77))⟩,
  ⟨some 79, (some (70, false)), .op (.pick (.t 74) (.t 78) (.c (.b false)))⟩,
  ⟨some 80, none, .op (.pick (.t 70) (.c (.b true)) (.t 79))⟩,
  ⟨some 81, none, .op (.mov (.t 80))⟩,
  ⟨some 82, (some (81, false)), .op (.fadr 0 (.t 1))⟩,
  ⟨some 83, (some (81, false)), .op (.load false 1 (.t 82))⟩,
  ⟨some 84, (some (81, false)), .op (.bin .eql (.t 83) (.c (.i .i64 5)))⟩,
  ⟨some 85, (some (81, false)), .op (.mov (.t 84))⟩,
  ⟨some 86, (some (85, true)), .op (.fadr 2 (.t 1))⟩,
  ⟨some 87, (some (85, true)), .op (.load false 1 (.t 86))⟩,
  ⟨some 88, (some (85, true)), .op (.bin .neq (.t 87) (.c (.i .i64 0)))⟩,
  ⟨some 89, (some (81, false)), .op (.pick (.t 85) (.t 88) (.c (.b false)))⟩,
  ⟨some 90, none, .op (.pick (.t 81) (.c (.b true)) (.t 89))⟩,
  ⟨some 62, none, .op (.mov (.t 90))⟩]
def weftref14_Right.r6 : List AStep := [
  ⟨some 2, none, .op (.mov (.c (.b false)))⟩]
def weftref14_Right.r7 : List AStep := [
  ⟨some 92, none, .op (.mov (.t 3))⟩,
  ⟨some 93, none, .op (.fadr 3 (.t 1))⟩,
  ⟨some 94, none, .op (.load false 1 (.t 93))⟩,
  ⟨some 95, none, .op (.bin .neq (.t 94) (.c (.s [])))⟩,
  ⟨some 96, none, .op (.eqk .bool true (.t 92) (.t 95))⟩,
  ⟨some 97, none, .op (.mov (.t 96))⟩,
  ⟨some 98, (some (97, false)), .op (.mov (.t 3))⟩,
  ⟨some 99, (some (97, false)), .op (.mov (.t 98))⟩,
  ⟨some 100, (some (99, true)), .op (.fadr 3 (.t 1))⟩,
  ⟨some 101, (some (99, true)), .op (.load false 1 (.t 100))⟩,
  ⟨some 102, (some (99, true)), .call n_weftref01_Name [.t 101]⟩,
  ⟨some 103, (some (99, true)), .op (.un .not (.t 102))⟩,
  ⟨some 104, (some (97, false)), .op (.pick (.t 99) (.t 103) (.c (.b false)))⟩,
  ⟨some 105, none, .op (.pick (.t 97) (.c (.b true)) (.t 104))⟩,
  ⟨some 91, none, .op (.mov (.t 105))⟩]
def weftref14_Right.r8 : List AStep := [
  ⟨some 2, none, .op (.mov (.c (.b false)))⟩]
def weftref14_Right.r9 : List AStep := [
  ⟨some 107, none, .op (.mov (.t 4))⟩,
  ⟨some 108, none, .op (.un .not (.t 107))⟩,
  ⟨some 109, none, .op (.mov (.t 108))⟩,
  ⟨some 110, (some (109, true)), .op (.fadr 4 (.t 1))⟩,
  ⟨some 111, (some (109, true)), .op (.load false 1 (.t 110))⟩,
  ⟨some 112, (some (109, true)), .op (.bin .neq (.t 111) (.c (.i .i64 0)))⟩,
  ⟨some 113, none, .op (.pick (.t 109) (.t 112) (.c (.b false)))⟩,
  ⟨some 114, none, .op (.mov (.t 113))⟩,
  ⟨some 115, (some (114, false)), .op (.fadr 4 (.t 1))⟩,
  ⟨some 116, (some (114, false)), .op (.load false 1 (.t 115))⟩,
  ⟨some 117, (some (114, false)), .op (.bin .eql (.t 116) (.c (.i .i64 0)))⟩,
  ⟨some 118, (some (114, false)), .op (.mov (.t 117))⟩,
  ⟨some 119, (some (118, true)), .op (.fadr 0 (.t 1))⟩,
  ⟨some 120, (some (118, true)), .op (.load false 1 (.t 119))⟩,
  ⟨some 121, (some (118, true)), .op (.bin .eql (.t 120) (.c (.i .i64 3)))⟩,
  ⟨some 122, (some (118, true)), .op (.mov (.t 121))⟩,
  ⟨some 123, (some (122, false)), .op (.fadr 0 (.t 1))⟩,
  ⟨some 124, (some (122, false)), .op (.load false 1 (.t 123))⟩,
  ⟨some 125, (some (122, false)), .op (.bin .eql (.t 124) (.c (.i .i64 7)))⟩,
  ⟨some 126, (some (118, true)), .op (.pick (.t 122) (.c (.b true)) (.t 125))⟩,
  ⟨some 127, (some (114, false)), .op (.pick (.t 118) (.t 126) (.c (.b false)))⟩,
  ⟨some 128, none, .op (.pick (.t 114) (.c (.b true)) (.t 127))⟩,
  ⟨some 106, none, .op (.mov (.t 128))⟩]
def weftref14_Right.r10 : List AStep := [
  ⟨some 2, none, .op (.mov (.c (.b false)))⟩]
def weftref14_Right.r11 : List AStep := [
  ⟨some 129, none, .op (.fadr 0 (.t 1))⟩,
  ⟨some 130, none, .op (.load false 1 (.t 129))⟩,
  ⟨some 131, none, .op (.bin .geq (.t 130) (.c (.i .i64 5)))⟩,
  ⟨some 132, none, .op (.mov (.t 131))⟩,
  ⟨some 133, (some (132, false)), .op (.fadr 5 (.t 1))⟩,
  ⟨some 134, (some (132, false)), .op (.load false 1 (.t 133))⟩,
  ⟨some 135, (some (132, false)), .op (.bin .eql (.t 134) (.c (.i .i64 (-1))))⟩,
  ⟨some 136, none, .op (.pick (.t 132) (.c (.b true)) (.t 135))⟩,
  ⟨some 2, none, .op (.mov (.t 136))⟩]
def weftref14_Right : AFunc := ⟨137, [.t 2], .seq (.post [1] (.region weftref14_Right.r0)) (.seq (.seq (.post [1, 35] (.region weftref14_Right.r1)) (.post [1] (.cond (.t 35) (.seq (.post [2] (.region weftref14_Right.r2)) (.ret)) (.skip)))) (.seq (.post [1, 3] (.region weftref14_Right.r3)) (.seq (.post [1, 3, 4] (.region weftref14_Right.r4)) (.seq (.post [1] (.block 0 (.seq (.post [1, 3, 4, 62] (.region weftref14_Right.r5)) (.post [1] (.cond (.t 62) (.seq (.post [2] (.region weftref14_Right.r6)) (.ret)) (.seq (.post [1, 4, 91] (.region weftref14_Right.r7)) (.post [1] (.cond (.t 91) (.seq (.post [2] (.region weftref14_Right.r8)) (.ret)) (.seq (.post [1, 106] (.region weftref14_Right.r9)) (.post [1] (.cond (.t 106) (.seq (.post [2] (.region weftref14_Right.r10)) (.ret)) (.skip)))))))))))) (.seq (.post [2] (.region weftref14_Right.r11)) (.ret))))))⟩
theorem weftref14_Right.ok : okFunc Tryz.prog Tryz.f97 weftref14_Right = true := by kernel_rfl
theorem weftref14_Right.at : Tryz.prog.funcs[n_weftref14_Right]? = some Tryz.f97 := Tryz.func97
def weftref01_plain.r0 : List AStep := [
  ⟨some 2, none, .op (.mov (.c (.s [])))⟩]
def weftref01_plain.r1 : List AStep := [
  ⟨some 4, none, .op (.mov (.t 0))⟩,
  ⟨some 5, none, .op (.bin .rem (.t 4) (.c (.i .u64 10)))⟩,
  ⟨some 6, none, .op (.conv .u8 (.t 5))⟩,
  ⟨some 7, none, .op (.bin .add (.c (.i .u8 48)) (.t 6))⟩,
  ⟨some 8, none, .op (.bsl 1 [.i .u8 0] [(0, 1, .t 7)])⟩,
  ⟨some 9, none, .op (.b2s (.t 8))⟩,
  ⟨some 3, none, .op (.mov (.t 9))⟩]
def weftref01_plain.r2 : List AStep := [
  ⟨some 10, none, .op (.mov (.t 0))⟩,
  ⟨some 11, none, .op (.bin .geq (.t 10) (.c (.i .u64 10)))⟩]
def weftref01_plain.r3 : List AStep := [
  ⟨some 12, none, .op (.mov (.t 0))⟩,
  ⟨some 13, none, .op (.bin .quo (.t 12) (.c (.i .u64 10)))⟩,
  ⟨some 0, none, .op (.mov (.t 13))⟩]
def weftref01_plain.r4 : List AStep := [
  ⟨some 14, none, .op (.mov (.t 0))⟩,
  ⟨some 15, none, .op (.bin .rem (.t 14) (.c (.i .u64 10)))⟩,
  ⟨some 16, none, .op (.conv .u8 (.t 15))⟩,
  ⟨some 17, none, .op (.bin .add (.c (.i .u8 48)) (.t 16))⟩,
  ⟨some 18, none, .op (.bsl 1 [.i .u8 0] [(0, 1, .t 17)])⟩,
  ⟨some 19, none, .op (.b2s (.t 18))⟩,
  ⟨some 20, none, .op (.mov (.t 3))⟩,
  ⟨some 21, none, .op (.bin .add (.t 19) (.t 20))⟩,
  ⟨some 3, none, .op (.mov (.t 21))⟩]
def weftref01_plain.l0 : ACode := .seq (.seq (.post [0, 3, 11] (.region weftref01_plain.r2)) (.post [0, 3] (.cond (.t 11) (.skip) (.exit 0)))) (.post [0, 3] (.block 1 (.seq (.post [0, 3] (.region weftref01_plain.r3)) (.post [0, 3] (.region weftref01_plain.r4)))))
def weftref01_plain.r5 : List AStep := [
  ⟨some 22, none, .op (.mov (.t 3))⟩,
  ⟨some 2, none, .op (.mov (.t 22))⟩]
def weftref01_plain : AFunc := ⟨23, [.t 2], .seq (.post [0] (.region weftref01_plain.r0)) (.seq (.post [0, 3] (.region weftref01_plain.r1)) (.seq (.post [3] (.block 0 (.loop weftref01_plain.l0))) (.seq (.post [2] (.region weftref01_plain.r5)) (.ret))))⟩
theorem weftref01_plain.ok : okFunc Tryz.prog Tryz.f114 weftref01_plain = true := by kernel_rfl
theorem weftref01_plain.at : Tryz.prog.funcs[n_weftref01_plain]? = some Tryz.f114 := Tryz.func114
def weftref01_Text.r0 : List AStep := [
  ⟨some 2, none, .op (.mov (.c (.s [])))⟩]
def weftref01_Text.r1 : List AStep := [
  ⟨some 3, none, .op (.mov (.t 0))⟩,
  ⟨some 4, none, .op (.bin .geq (.t 3) (.c (.i .i64 0)))⟩]
def weftref01_Text.r2 : List AStep := [
  ⟨some 5, none, .op (.mov (.t 0))⟩,
  ⟨some 6, none, .op (.conv .u64 (.t 5))⟩,
  ⟨some 7, none, .call n_weftref01_plain [.t 6]⟩,
  ⟨some 2, none, .op (.mov (.t 7))⟩]
def weftref01_Text.r3 : List AStep := [
  ⟨some 8, none, .op (.mov (.t 0))⟩,
  ⟨some 9, none, .op (.conv .u64 (.t 8))⟩,
  ⟨some 10, none, .op (.un .neg (.t 9))⟩,
  ⟨some 11, none, .call n_weftref01_plain [.t 10]⟩,
  ⟨some 12, none, .op (.bin .add (.c (.s [45])) (.t 11))⟩,
  ⟨some 2, none, .op (.mov (.t 12))⟩]
def weftref01_Text : AFunc := ⟨13, [.t 2], .seq (.post [0] (.region weftref01_Text.r0)) (.seq (.seq (.post [0, 4] (.region weftref01_Text.r1)) (.post [0] (.cond (.t 4) (.seq (.post [2] (.region weftref01_Text.r2)) (.ret)) (.skip)))) (.seq (.post [2] (.region weftref01_Text.r3)) (.ret)))⟩
theorem weftref01_Text.ok : okFunc Tryz.prog Tryz.f98 weftref01_Text = true := by kernel_rfl
theorem weftref01_Text.at : Tryz.prog.funcs[n_weftref01_Text]? = some Tryz.f98 := Tryz.func98
def weftref14_Text.r0 : List AStep := [
  ⟨some 1, none, .op (.boxf (.t 0))⟩,
  ⟨some 2, none, .op (.mov (.c (.s [])))⟩,
  ⟨some 3, none, .op (.mov (.c (.i .i64 0)))⟩]
def weftref14_Text.r1 : List AStep := [
  ⟨some 5, none, .op (.load true 6 (.t 1))⟩,
  ⟨some 6, none, .call n_weftref14_Right [.t 5]⟩,
  ⟨some 7, none, .op (.un .not (.t 6))⟩]
def weftref14_Text.r2 : List AStep := [
  ⟨some 2, none, .op (.mov (.c (.s [])))⟩,
  ⟨some 3, none, .op (.mov (.c (.i .i64 11)))⟩]
def weftref14_Text.r3 : List AStep := [
  ⟨some 8, none, .op (.fadr 1 (.t 1))⟩,
  ⟨some 9, none, .op (.load false 1 (.t 8))⟩,
  ⟨some 4, none, .op (.mov (.t 9))⟩]
def weftref14_Text.r4 : List AStep := [
  ⟨some 10, none, .op (.fadr 2 (.t 1))⟩,
  ⟨some 11, none, .op (.load false 1 (.t 10))⟩,
  ⟨some 12, none, .op (.bin .gtr (.t 11) (.c (.i .i64 0)))⟩]
def weftref14_Text.r5 : List AStep := [
  ⟨some 13, none, .op (.mov (.t 4))⟩,
  ⟨some 14, none, .op (.bin .add (.t 13) (.c (.s [126])))⟩,
  ⟨some 15, none, .op (.fadr 2 (.t 1))⟩,
  ⟨some 16, none, .op (.load false 1 (.t 15))⟩,
  ⟨some 17, none, .call n_weftref01_Text [.t 16]⟩,
  ⟨some 18, none, .op (.bin .add (.t 14) (.t 17))⟩,
  ⟨some 4, none, .op (.mov (.t 18))⟩]
def weftref14_Text.r6 : List AStep := [
  ⟨some 19, none, .op (.fadr 0 (.t 1))⟩,
  ⟨some 20, none, .op (.load false 1 (.t 19))⟩]
def weftref14_Text.r7 : List AStep := [
  ⟨some 22, none, .op (.bin .eql (.t 20) (.c (.i .i64 1)))⟩,
  ⟨some 21, none, .op (.mov (.t 22))⟩]
def weftref14_Text.r8 : List AStep := [
  ⟨some 23, none, .op (.mov (.t 4))⟩,
  ⟨some 24, none, .op (.bin .add (.t 23) (.c (.s [46])))⟩,
  ⟨some 25, none, .op (.fadr 3 (.t 1))⟩,
  ⟨some 26, none, .op (.load false 1 (.t 25))⟩,
  ⟨some 27, none, .op (.bin .add (.t 24) (.t 26))⟩,
  ⟨some 4, none, .op (.mov (.t 27))⟩]
def weftref14_Text.r9 : List AStep := [
  ⟨some 29, none, .op (.bin .eql (.t 20) (.c (.i .i64 2)))⟩,
  ⟨some 28, none, .op (.mov (.t 29))⟩]
def weftref14_Text.r10 : List AStep := [
  ⟨some 30, none, .op (.mov (.t 4))⟩,
  ⟨some 31, none, .op (.bin .add (.t 30) (.c (.s [36])))⟩,
  ⟨some 32, none, .op (.fadr 4 (.t 1))⟩,
  ⟨some 33, none, .op (.load false 1 (.t 32))⟩,
  ⟨some 34, none, .call n_weftref01_Text [.t 33]⟩,
  ⟨some 35, none, .op (.bin .add (.t 31) (.t 34))⟩,
  ⟨some 4, none, .op (.mov (.t 35))⟩]
def weftref14_Text.r11 : List AStep := [
  ⟨some 37, none, .op (.bin .eql (.t 20) (.c (.i .i64 3)))⟩,
  ⟨some 36, none, .op (.mov (.t 37))⟩]
def weftref14_Text.r12 : List AStep := [
  ⟨some 38, none, .op (.mov (.t 4))⟩,
  ⟨some 39, none, .op (.bin .add (.t 38) (.c (.s [64])))⟩,
  ⟨some 40, none, .op (.fadr 4 (.t 1))⟩,
  ⟨some 41, none, .op (.load false 1 (.t 40))⟩,
  ⟨some 42, none, .call n_weftref01_Text [.t 41]⟩,
  ⟨some 43, none, .op (.bin .add (.t 39) (.t 42))⟩,
  ⟨some 4, none, .op (.mov (.t 43))⟩]
def weftref14_Text.r13 : List AStep := [
  ⟨some 45, none, .op (.bin .eql (.t 20) (.c (.i .i64 4)))⟩,
  ⟨some 44, none, .op (.mov (.t 45))⟩]
def weftref14_Text.r14 : List AStep := [
  ⟨some 46, none, .op (.mov (.t 4))⟩,
  ⟨some 47, none, .op (.bin .add (.t 46) (.c (.s [40, 41])))⟩,
  ⟨some 4, none, .op (.mov (.t 47))⟩]
def weftref14_Text.r15 : List AStep := [
  ⟨some 49, none, .op (.bin .eql (.t 20) (.c (.i .i64 5)))⟩,
  ⟨some 48, none, .op (.mov (.t 49))⟩]
def weftref14_Text.r16 : List AStep := [
  ⟨some 50, none, .op (.fadr 3 (.t 1))⟩,
  ⟨some 51, none, .op (.load false 1 (.t 50))⟩,
  ⟨some 4, none, .op (.mov (.t 51))⟩]
def weftref14_Text.r17 : List AStep := [
  ⟨some 53, none, .op (.bin .eql (.t 20) (.c (.i .i64 6)))⟩,
  ⟨some 52, none, .op (.mov (.t 53))⟩]
def weftref14_Text.r18 : List AStep := [
  ⟨some 54, none, .op (.mov (.t 4))⟩,
  ⟨some 55, none, .op (.bin .add (.t 54) (.c (.s [37])))⟩,
  ⟨some 56, none, .op (.fadr 3 (.t 1))⟩,
  ⟨some 57, none, .op (.load false 1 (.t 56))⟩,
  ⟨some 58, none, .op (.bin .add (.t 55) (.t 57))⟩,
  ⟨some 4, none, .op (.mov (.t 58))⟩]
def weftref14_Text.r19 : List AStep := [
  ⟨some 60, none, .op (.bin .eql (.t 20) (.c (.i .i64 7)))⟩,
  ⟨some 59, none, .op (.mov (.t 60))⟩]
def weftref14_Text.r20 : List AStep := [
  ⟨some 61, none, .op (.mov (.t 4))⟩,
  ⟨some 62, none, .op (.bin .add (.t 61) (.c (.s [35])))⟩,
  ⟨some 63, none, .op (.fadr 4 (.t 1))⟩,
  ⟨some 64, none, .op (.load false 1 (.t 63))⟩,
  ⟨some 65, none, .call n_weftref01_Text [.t 64]⟩,
  ⟨some 66, none, .op (.bin .add (.t 62) (.t 65))⟩,
  ⟨some 4, none, .op (.mov (.t 66))⟩]
def weftref14_Text.r21 : List AStep := [
  ⟨some 67, none, .op (.fadr 5 (.t 1))⟩,
  ⟨some 68, none, .op (.load false 1 (.t 67))⟩,
  ⟨some 69, none, .op (.bin .geq (.t 68) (.c (.i .i64 0)))⟩]
def weftref14_Text.r22 : List AStep := [
  ⟨some 70, none, .op (.mov (.t 4))⟩,
  ⟨some 71, none, .op (.bin .add (.t 70) (.c (.s [43])))⟩,
  ⟨some 72, none, .op (.fadr 5 (.t 1))⟩,
  ⟨some 73, none, .op (.load false 1 (.t 72))⟩,
  ⟨some 74, none, .call n_weftref01_Text [.t 73]⟩,
  ⟨some 75, none, .op (.bin .add (.t 71) (.t 74))⟩,
  ⟨some 4, none, .op (.mov (.t 75))⟩]
def weftref14_Text.r23 : List AStep := [
  ⟨some 76, none, .op (.mov (.t 4))⟩,
  ⟨some 2, none, .op (.mov (.t 76))⟩,
  ⟨some 3, none, .op (.mov (.c (.i .i64 0)))⟩]
def weftref14_Text : AFunc := ⟨77, [.t 2, .t 3], .seq (.post [1] (.region weftref14_Text.r0)) (.seq (.seq (.post [1, 7] (.region weftref14_Text.r1)) (.post [1] (.cond (.t 7) (.seq (.post [2, 3] (.region weftref14_Text.r2)) (.ret)) (.skip)))) (.seq (.post [1, 4] (.region weftref14_Text.r3)) (.seq (.seq (.post [1, 4, 12] (.region weftref14_Text.r4)) (.post [1, 4] (.cond (.t 12) (.post [1, 4] (.region weftref14_Text.r5)) (.skip)))) (.seq (.seq (.post [1, 4, 20] (.region weftref14_Text.r6)) (.post [1, 4] (.block 0 (.seq (.post [1, 4, 20, 21] (.region weftref14_Text.r7)) (.post [1, 4] (.cond (.t 21) (.post [1, 4] (.region weftref14_Text.r8)) (.seq (.post [1, 4, 20, 28] (.region weftref14_Text.r9)) (.post [1, 4] (.cond (.t 28) (.post [1, 4] (.region weftref14_Text.r10)) (.seq (.post [1, 4, 20, 36] (.region weftref14_Text.r11)) (.post [1, 4] (.cond (.t 36) (.post [1, 4] (.region weftref14_Text.r12)) (.seq (.post [1, 4, 20, 44] (.region weftref14_Text.r13)) (.post [1, 4] (.cond (.t 44) (.post [1, 4] (.region weftref14_Text.r14)) (.seq (.post [1, 4, 20, 48] (.region weftref14_Text.r15)) (.post [1, 4] (.cond (.t 48) (.post [1, 4] (.region weftref14_Text.r16)) (.seq (.post [1, 4, 20, 52] (.region weftref14_Text.r17)) (.post [1, 4] (.cond (.t 52) (.post [1, 4] (.region weftref14_Text.r18)) (.seq (.post [1, 4, 59] (.region weftref14_Text.r19)) (.post [1, 4] (.cond (.t 59) (.post [1, 4] (.region weftref14_Text.r20)) (.skip))))))))))))))))))))))))) (.seq (.seq (.post [1, 4, 69] (.region weftref14_Text.r21)) (.post [4] (.cond (.t 69) (.post [4] (.region weftref14_Text.r22)) (.skip)))) (.seq (.post [2, 3] (.region weftref14_Text.r23)) (.ret)))))))⟩
theorem weftref14_Text.ok : okFunc Tryz.prog Tryz.f75 weftref14_Text = true := by kernel_rfl
theorem weftref14_Text.at : Tryz.prog.funcs[n_weftref14_Text]? = some Tryz.f75 := Tryz.func75
def weftref14_Read.r0 : List AStep := [
  ⟨some 2, none, .op (.new [.i .i64 0, .s [], .i .i64 0, .s [], .i .i64 0, .i .i64 0])⟩,
  ⟨some 3, none, .op (.mov (.c (.i .i64 0)))⟩]
def weftref14_Read.r1 : List AStep := [
  ⟨some 16, none, .op (.mov (.t 0))⟩,
  ⟨some 17, none, .call n_weftref14_parts [.t 16]⟩,
  ⟨some 15, none, .op (.mov (.t 17))⟩,
  ⟨some 18, none, .op (.ext 0 (.t 15))⟩,
  ⟨some 19, none, .op (.ext 1 (.t 15))⟩,
  ⟨some 20, none, .op (.ext 2 (.t 15))⟩,
  ⟨some 21, none, .op (.ext 3 (.t 15))⟩,
  ⟨some 22, none, .op (.ext 4 (.t 15))⟩,
  ⟨some 4, none, .op (.mov (.t 18))⟩,
  ⟨some 5, none, .op (.mov (.t 19))⟩,
  ⟨some 6, none, .op (.mov (.t 20))⟩,
  ⟨some 7, none, .op (.mov (.t 21))⟩,
  ⟨some 8, none, .op (.mov (.t 22))⟩]
def weftref14_Read.r2 : List AStep := [
  ⟨some 24, none, .op (.mov (.t 7))⟩,
  ⟨some 25, none, .call n_weftref01_Read [.t 24]⟩,
  ⟨some 23, none, .op (.mov (.t 25))⟩,
  ⟨some 26, none, .op (.ext 0 (.t 23))⟩,
  ⟨some 27, none, .op (.ext 1 (.t 23))⟩,
  ⟨some 9, none, .op (.mov (.t 26))⟩,
  ⟨some 10, none, .op (.mov (.t 27))⟩]
def weftref14_Read.r3 : List AStep := [
  ⟨some 28, none, .op (.mov (.t 4))⟩,
  ⟨some 29, none, .op (.mov (.t 5))⟩,
  ⟨some 30, none, .op (.mov (.t 7))⟩,
  ⟨some 31, none, .op (.build [.i .i64 0, .s [], .i .i64 0, .s [], .i .i64 0, .i .i64 0] [(0, 1, .c (.i .i64 1)), (1, 1, .t 28), (2, 1, .t 29), (3, 1, .t 30), (5, 1, .c (.i .i64 (-1)))])⟩,
  ⟨some 32, none, .op (.mov (.t 4))⟩,
  ⟨some 33, none, .op (.mov (.t 5))⟩,
  ⟨some 34, none, .op (.mov (.t 9))⟩,
  ⟨some 35, none, .op (.build [.i .i64 0, .s [], .i .i64 0, .s [], .i .i64 0, .i .i64 0] [(0, 1, .c (.i .i64 2)), (1, 1, .t 32), (2, 1, .t 33), (4, 1, .t 34), (5, 1, .c (.i .i64 (-1)))])⟩,
  ⟨some 36, none, .op (.mov (.t 4))⟩,
  ⟨some 37, none, .op (.mov (.t 5))⟩,
  ⟨some 38, none, .op (.mov (.t 9))⟩,
  ⟨some 39, none, .op (.build [.i .i64 0, .s [], .i .i64 0, .s [], .i .i64 0, .i .i64 0] [(0, 1, .c (.i .i64 3)), (1, 1, .t 36), (2, 1, .t 37), (4, 1, .t 38), (5, 1, .c (.i .i64 (-1)))])⟩,
  ⟨some 40, none, .op (.mov (.t 4))⟩,
  ⟨some 41, none, .op (.mov (.t 5))⟩,
  ⟨some 42, none, .op (.build [.i .i64 0, .s [], .i .i64 0, .s [], .i .i64 0, .i .i64 0] [(0, 1, .c (.i .i64 4)), (1, 1, .t 40), (2, 1, .t 41), (5, 1, .c (.i .i64 (-1)))])⟩,
  ⟨some 43, none, .op (.mov (.t 4))⟩,
  ⟨some 44, none, .op (.mov (.t 8))⟩,
  ⟨some 45, none, .op (.build [.i .i64 0, .s [], .i .i64 0, .s [], .i .i64 0, .i .i64 0] [(0, 1, .c (.i .i64 5)), (3, 1, .t 43), (5, 1, .t 44)])⟩,
  ⟨some 46, none, .op (.mov (.t 4))⟩,
  ⟨some 47, none, .op (.mov (.t 5))⟩,
  ⟨some 48, none, .op (.mov (.t 7))⟩,
  ⟨some 49, none, .op (.mov (.t 8))⟩,
  ⟨some 50, none, .op (.build [.i .i64 0, .s [], .i .i64 0, .s [], .i .i64 0, .i .i64 0] [(0, 1, .c (.i .i64 6)), (1, 1, .t 46), (2, 1, .t 47), (3, 1, .t 48), (5, 1, .t 49)])⟩,
  ⟨some 51, none, .op (.mov (.t 4))⟩,
  ⟨some 52, none, .op (.mov (.t 5))⟩,
  ⟨some 53, none, .op (.mov (.t 9))⟩,
  ⟨some 54, none, .op (.mov (.t 8))⟩,
  ⟨some 55, none, .op (.build [.i .i64 0, .s [], .i .i64 0, .s [], .i .i64 0, .i .i64 0] [(0, 1, .c (.i .i64 7)), (1, 1, .t 51), (2, 1, .t 52), (4, 1, .t 53), (5, 1, .t 54)])⟩,
  ⟨some 56, none, .op (.bfz 7 6 [.i .i64 0, .s [], .i .i64 0, .s [], .i .i64 0, .i .i64 0] [(0, 6, .t 31), (6, 6, .t 35), (12, 6, .t 39), (18, 6, .t 42), (24, 6, .t 45), (30, 6, .t 50), (36, 6, .t 55)])⟩,
  ⟨some 11, none, .op (.mov (.t 56))⟩]
def weftref14_Read.r4 : List AStep := [
  ⟨some 12, none, .op (.mov (.c (.i .i64 0)))⟩]
def weftref14_Read.r5 : List AStep := [
  ⟨some 57, none, .op (.mov (.t 12))⟩,
  ⟨some 58, none, .op (.mov (.t 11))⟩,
  ⟨some 59, none, .op (.len false (.t 58))⟩,
  ⟨some 60, none, .op (.bin .lss (.t 57) (.t 59))⟩]
def weftref14_Read.r6 : List AStep := [
  ⟨some 64, none, .op (.mov (.t 11))⟩,
  ⟨some 65, none, .op (.mov (.t 12))⟩,
  ⟨some 66, none, .op (.iad 6 (.t 64) (.t 65))⟩,
  ⟨some 67, none, .op (.load true 6 (.t 66))⟩,
  ⟨some 68, none, .call n_weftref14_Text [.t 67]⟩,
  ⟨some 63, none, .op (.mov (.t 68))⟩,
  ⟨some 69, none, .op (.ext 0 (.t 63))⟩,
  ⟨some 70, none, .op (.ext 1 (.t 63))⟩,
  ⟨some 13, none, .op (.mov (.t 69))⟩,
  ⟨some 14, none, .op (.mov (.t 70))⟩]
def weftref14_Read.r7 : List AStep := [
  ⟨some 71, none, .op (.mov (.t 14))⟩,
  ⟨some 72, none, .op (.bin .eql (.t 71) (.c (.i .i64 0)))⟩,
  ⟨some 73, none, .op (.mov (.t 72))⟩,
  ⟨some 74, (some (73, true)), .op (.mov (.t 13))⟩,
  ⟨some 75, (some (73, true)), .op (.mov (.t 0))⟩,
  ⟨some 76, (some (73, true)), .op (.bin .eql (.t 74) (.t 75))⟩,
  ⟨some 77, none, .op (.pick (.t 73) (.t 76) (.c (.b false)))⟩,
  ⟨some 78, none, .op (.mov (.t 77))⟩,
  ⟨some 79, (some (78, true)), .op (.mov (.t 6))⟩,
  ⟨some 80, (some (78, true)), .op (.bin .neq (.t 79) (.c (.s [])))⟩,
  ⟨some 81, (some (78, true)), .op (.mov (.t 80))⟩,
  ⟨some 82, (some (81, false)), .op (.mov (.t 11))⟩,
  ⟨some 83, (some (81, false)), .op (.mov (.t 12))⟩,
  ⟨some 84, (some (81, false)), .op (.iad 6 (.t 82) (.t 83))⟩,
  ⟨some 85, (some (81, false)), .op (.fadr 0 (.t 84))⟩,
  ⟨some 86, (some (81, false)), .op (.load false 1 (.t 85))⟩,
  ⟨some 87, (some (81, false)), .op (.bin .eql (.t 86) (.c (.i .i64 5)))⟩,
  ⟨some 88, (some (78, true)), .op (.pick (.t 81) (.c (.b true)) (.t 87))⟩,
  ⟨some 89, none, .op (.pick (.t 78) (.t 88) (.c (.b false)))⟩]
def weftref14_Read.r8 : List AStep := [
  ⟨some 90, none, .op (.mov (.t 11))⟩,
  ⟨some 91, none, .op (.mov (.t 12))⟩,
  ⟨some 92, none, .op (.iad 6 (.t 90) (.t 91))⟩,
  ⟨some 93, none, .op (.load true 6 (.t 92))⟩,
  ⟨none, none, .op (.store 6 (.t 2) (.t 93))⟩,
  ⟨some 3, none, .op (.mov (.c (.i .i64 0)))⟩]
def weftref14_Read.r9 : List AStep := [
  ⟨some 61, none, .op (.mov (.t 12))⟩,
  ⟨some 62, none, .op (.bin .add (.t 61) (.c (.i .i64 1)))⟩,
  ⟨some 12, none, .op (.mov (.t 62))⟩]
def weftref14_Read.l0 : ACode := .seq (.seq (.post [0, 2, 6, 11, 12, 60] (.region weftref14_Read.r5)) (.post [0, 2, 6, 11, 12] (.cond (.t 60) (.skip) (.exit 0)))) (.seq (.post [0, 2, 6, 11, 12] (.block 1 (.seq (.post [0, 2, 6, 11, 12, 13, 14] (.region weftref14_Read.r6)) (.seq (.post [0, 2, 6, 11, 12, 89] (.region weftref14_Read.r7)) (.post [0, 2, 6, 11, 12] (.cond (.t 89) (.seq (.post [2, 3] (.region weftref14_Read.r8)) (.ret)) (.skip))))))) (.post [0, 2, 6, 11, 12] (.region weftref14_Read.r9)))
def weftref14_Read.r10 : List AStep := [
  ⟨some 94, none, .op (.build [.i .i64 0, .s [], .i .i64 0, .s [], .i .i64 0, .i .i64 0] [])⟩,
  ⟨none, none, .op (.store 6 (.t 2) (.t 94))⟩,
  ⟨some 3, none, .op (.mov (.c (.i .i64 11)))⟩]
def weftref14_Read : AFunc := ⟨95, [.cell 2 true 6, .t 3], .seq (.post [0, 2] (.region weftref14_Read.r0)) (.seq (.post [0, 2, 4, 5, 6, 7, 8] (.region weftref14_Read.r1)) (.seq (.post [0, 2, 4, 5, 6, 7, 8, 9] (.region weftref14_Read.r2)) (.seq (.post [0, 2, 6, 11] (.region weftref14_Read.r3)) (.seq (.seq (.post [0, 2, 6, 11, 12] (.region weftref14_Read.r4)) (.post [2] (.block 0 (.loop weftref14_Read.l0)))) (.seq (.post [2, 3] (.region weftref14_Read.r10)) (.ret))))))⟩
theorem weftref14_Read.ok : okFunc Tryz.prog Tryz.f53 weftref14_Read = true := by kernel_rfl
theorem weftref14_Read.at : Tryz.prog.funcs[n_weftref14_Read]? = some Tryz.f53 := Tryz.func53
def weftref15_kinds.r0 : List AStep := [
  ⟨some 6, none, .op (.mov (.c (.b false)))⟩]
def weftref15_kinds.r1 : List AStep := [
  ⟨some 7, none, .op (.mov (.c (.i .i64 0)))⟩]
def weftref15_kinds.r2 : List AStep := [
  ⟨some 8, none, .op (.mov (.t 7))⟩,
  ⟨some 9, none, .op (.mov (.t 0))⟩,
  ⟨some 10, none, .op (.len true (.t 9))⟩,
  ⟨some 11, none, .op (.bin .lss (.t 8) (.t 10))⟩]
def weftref15_kinds.r3 : List AStep := [
  ⟨some 14, none, .op (.mov (.t 0))⟩,
  ⟨some 15, none, .op (.mov (.t 7))⟩,
  ⟨some 16, none, .op (.idx (.t 14) (.t 15))⟩,
  ⟨some 17, none, .op (.bin .neq (.t 16) (.c (.i .u8 105)))⟩,
  ⟨some 18, none, .op (.mov (.t 17))⟩,
  ⟨some 19, (some (18, true)), .op (.mov (.t 0))⟩,
  ⟨some 20, (some (18, true)), .op (.mov (.t 7))⟩,
  ⟨some 21, (some (18, true)), .op (.idx (.t 19) (.t 20))⟩,
  ⟨some 22, (some (18, true)), .op (.bin .neq (.t 21) (.c (.i .u8 112)))⟩,
  ⟨some 23, none, .op (.pick (.t 18) (.t 22) (.c (.b false)))⟩]
def weftref15_kinds.r4 : List AStep := [
  ⟨some 6, none, .op (.mov (.c (.b false)))⟩]
def weftref15_kinds.r5 : List AStep := [
  ⟨some 12, none, .op (.mov (.t 7))⟩,
  ⟨some 13, none, .op (.bin .add (.t 12) (.c (.i .i64 1)))⟩,
  ⟨some 7, none, .op (.mov (.t 13))⟩]
def weftref15_kinds.l0 : ACode := .seq (.seq (.post [0, 1, 2, 7, 11] (.region weftref15_kinds.r2)) (.post [0, 1, 2, 7] (.cond (.t 11) (.skip) (.exit 0)))) (.seq (.post [0, 1, 2, 7] (.block 1 (.seq (.post [0, 1, 2, 7, 23] (.region weftref15_kinds.r3)) (.post [0, 1, 2, 7] (.cond (.t 23) (.seq (.post [6] (.region weftref15_kinds.r4)) (.ret)) (.skip)))))) (.post [0, 1, 2, 7] (.region weftref15_kinds.r5)))
def weftref15_kinds.r6 : List AStep := [
  ⟨some 24, none, .op (.mov (.t 0))⟩,
  ⟨some 25, none, .op (.len true (.t 24))⟩,
  ⟨some 26, none, .op (.mov (.t 1))⟩,
  ⟨some 27, none, .op (.bin .geq (.t 25) (.t 26))⟩,
  ⟨some 28, none, .op (.mov (.t 27))⟩,
  ⟨some 29, (some (28, true)), .op (.mov (.t 0))⟩,
  ⟨some 30, (some (28, true)), .op (.len true (.t 29))⟩,
  ⟨some 31, (some (28, true)), .op (.mov (.t 2))⟩,
  ⟨some 32, (some (28, true)), .op (.bin .leq (.t 30) (.t 31))⟩,
  ⟨some 33, none, .op (.pick (.t 28) (.t 32) (.c (.b false)))⟩,
  ⟨some 6, none, .op (.mov (.t 33))⟩]
def weftref15_kinds : AFunc := ⟨34, [.t 6], .seq (.post [0, 1, 2] (.region weftref15_kinds.r0)) (.seq (.seq (.post [0, 1, 2, 7] (.region weftref15_kinds.r1)) (.post [0, 1, 2] (.block 0 (.loop weftref15_kinds.l0)))) (.seq (.post [6] (.region weftref15_kinds.r6)) (.ret)))⟩
theorem weftref15_kinds.ok : okFunc Tryz.prog Tryz.f54 weftref15_kinds = true := by kernel_rfl
theorem weftref15_kinds.at : Tryz.prog.funcs[n_weftref15_kinds]? = some Tryz.f54 := Tryz.func54
def weftref15_object.r0 : List AStep := [
  ⟨some 1, none, .op (.boxf (.t 0))⟩,
  ⟨some 2, none, .op (.mov (.c (.i .i64 0)))⟩]
def weftref15_object.r1 : List AStep := [
  ⟨some 9, none, .op (.fadr 0 (.t 1))⟩,
  ⟨some 10, none, .op (.load false 1 (.t 9))⟩,
  ⟨some 11, none, .call n_weftref14_Read [.t 10]⟩,
  ⟨some 8, none, .op (.mov (.t 11))⟩,
  ⟨some 12, none, .op (.ext 0 (.t 8))⟩,
  ⟨some 13, none, .op (.ext 1 (.t 8))⟩,
  ⟨some 3, none, .op (.new [.i .i64 0, .s [], .i .i64 0, .s [], .i .i64 0, .i .i64 0])⟩,
  ⟨none, none, .op (.store 6 (.t 3) (.t 12))⟩,
  ⟨some 4, none, .op (.mov (.t 13))⟩]
def weftref15_object.r2 : List AStep := [
  ⟨some 14, none, .op (.mov (.t 4))⟩,
  ⟨some 15, none, .op (.bin .neq (.t 14) (.c (.i .i64 0)))⟩,
  ⟨some 16, none, .op (.mov (.t 15))⟩,
  ⟨some 17, (some (16, false)), .op (.fadr 0 (.t 3))⟩,
  ⟨some 18, (some (16, false)), .op (.load false 1 (.t 17))⟩,
  ⟨some 19, (some (16, false)), .op (.bin .lss (.t 18) (.c (.i .i64 5)))⟩,
  ⟨some 20, none, .op (.pick (.t 16) (.c (.b true)) (.t 19))⟩,
  ⟨some 21, none, .op (.mov (.t 20))⟩,
  ⟨some 22, (some (21, false)), .op (.fadr 5 (.t 3))⟩,
  ⟨some 23, (some (21, false)), .op (.load false 1 (.t 22))⟩,
  ⟨some 24, (some (21, false)), .op (.bin .geq (.t 23) (.c (.i .i64 0)))⟩,
  ⟨some 25, none, .op (.pick (.t 21) (.c (.b true)) (.t 24))⟩]
def weftref15_object.r3 : List AStep := [
  ⟨some 2, none, .op (.mov (.c (.i .i64 11)))⟩]
def weftref15_object.r4 : List AStep := [
  ⟨some 26, none, .op (.fadr 1 (.t 1))⟩,
  ⟨some 27, none, .op (.load false 1 (.t 26))⟩,
  ⟨some 28, none, .call n_weftref15_kinds [.t 27, .c (.i .i64 1), .c (.i .i64 64)]⟩,
  ⟨some 29, none, .op (.un .not (.t 28))⟩]
def weftref15_object.r5 : List AStep := [
  ⟨some 2, none, .op (.mov (.c (.i .i64 5)))⟩]
def weftref15_object.r6 : List AStep := [
  ⟨some 5, none, .op (.mov (.c (.i .i64 0)))⟩]
def weftref15_object.r7 : List AStep := [
  ⟨some 30, none, .op (.mov (.t 5))⟩,
  ⟨some 31, none, .op (.fadr 2 (.t 1))⟩,
  ⟨some 32, none, .op (.load false 1 (.t 31))⟩,
  ⟨some 33, none, .op (.len false (.t 32))⟩,
  ⟨some 34, none, .op (.bin .lss (.t 30) (.t 33))⟩]
def weftref15_object.r8 : List AStep := [
  ⟨some 37, none, .op (.fadr 2 (.t 1))⟩,
  ⟨some 38, none, .op (.load false 1 (.t 37))⟩,
  ⟨some 39, none, .op (.mov (.t 5))⟩,
  ⟨some 40, none, .op (.iad 2 (.t 38) (.t 39))⟩,
  ⟨some 41, none, .op (.load true 2 (.t 40))⟩,
  ⟨some 6, none, .op (.new [.i .i64 0, .s []])⟩,
  ⟨none, none, .op (.store 2 (.t 6) (.t 41))⟩]
def weftref15_object.r9 : List AStep := [
  ⟨some 42, none, .op (.fadr 0 (.t 6))⟩,
  ⟨some 43, none, .op (.load false 1 (.t 42))⟩,
  ⟨some 44, none, .op (.bin .lss (.t 43) (.c (.i .i64 0)))⟩,
  ⟨some 45, none, .op (.mov (.t 44))⟩,
  ⟨some 46, (some (45, false)), .op (.fadr 0 (.t 6))⟩,
  ⟨some 47, (some (45, false)), .op (.load false 1 (.t 46))⟩,
  ⟨some 48, (some (45, false)), .op (.fadr 1 (.t 1))⟩,
  ⟨some 49, (some (45, false)), .op (.load false 1 (.t 48))⟩,
  ⟨some 50, (some (45, false)), .op (.len true (.t 49))⟩,
  ⟨some 51, (some (45, false)), .op (.bin .geq (.t 47) (.t 50))⟩,
  ⟨some 52, none, .op (.pick (.t 45) (.c (.b true)) (.t 51))⟩,
  ⟨some 53, none, .op (.mov (.t 52))⟩,
  ⟨some 54, (some (53, false)), .op (.fadr 1 (.t 6))⟩,
  ⟨some 55, (some (53, false)), .op (.load false 1 (.t 54))⟩,
  ⟨some 56, (some (53, false)), .op (.len true (.t 55))⟩,
  ⟨some 57, (some (53, false)), .op (.bin .lss (.t 56) (.c (.i .i64 1)))⟩,
  ⟨some 58, none, .op (.pick (.t 53) (.c (.b true)) (.t 57))⟩,
  ⟨some 59, none, .op (.mov (.t 58))⟩,
  ⟨some 60, (some (59, false)), .op (.fadr 1 (.t 6))⟩,
  ⟨some 61, (some (59, false)), .op (.load false 1 (.t 60))⟩,
  ⟨some 62, (some (59, false)), .op (.len true (.t 61))⟩,
  ⟨some 63, (some (59, false)), .op (.bin .gtr (.t 62) (.c (.i .i64 60)))⟩,
  ⟨some 64, none, .op (.pick (.t 59) (.c (.b true)) (.t 63))⟩,
  ⟨some 65, none, .op (.mov (.t 64))⟩,
  ⟨some 66, (some (65, false)), .op (.mov (.t 5))⟩,
  ⟨some 67, (some (65, false)), .op (.bin .gtr (.t 66) (.c (.i .i64 0)))⟩,
  ⟨some 68, (some (65, false)), .op (.mov (.t 67))⟩,
  ⟨some 69, (some (68, true)), .op (.fadr 0 (.t 6))⟩,
  ⟨some 70, (some (68, true)), .op (.load false 1 (.t 69))⟩,
  ⟨some 71, (some (68, true)), .op (.fadr 2 (.t 1))⟩,
  ⟨some 72, (some (68, true)), .op (.load false 1 (.t 71))⟩,
  ⟨some 73, (some (68, true)), .op (.mov (.t 5))⟩,
  ⟨some 74, (some (68, true)), .op (.bin .sub (.t 73) (.c (.i .i64 1)))⟩,
  ⟨some 75, (some (68, true)), .op (.iad 2 (.t 72) (.t 74))⟩,
  ⟨some 76, (some (68, true)), .op (.fadr 0 (.t 75))⟩,
  ⟨some 77, (some (68, true)), .op (.load false 1 (.t 76))⟩,
  ⟨some 78, (some (68, true)), .op (.bin .lss (.t 70) (.t 77))⟩,
  ⟨some 79, (some (65, false)), .op (.pick (.t 68) (.t 78) (.c (.b false)))⟩,
  ⟨some 80, none, .op (.pick (.t 65) (.c (.b true)) (.t 79))⟩]
def weftref15_object.r10 : List AStep := [
  ⟨some 2, none, .op (.mov (.c (.i .i64 3)))⟩]
def weftref15_object.r11 : List AStep := [
  ⟨some 7, none, .op (.mov (.c (.i .i64 0)))⟩]
def weftref15_object.r12 : List AStep := [
  ⟨some 81, none, .op (.mov (.t 7))⟩,
  ⟨some 82, none, .op (.mov (.t 5))⟩,
  ⟨some 83, none, .op (.bin .lss (.t 81) (.t 82))⟩]
def weftref15_object.r13 : List AStep := [
  ⟨some 86, none, .op (.fadr 2 (.t 1))⟩,
  ⟨some 87, none, .op (.load false 1 (.t 86))⟩,
  ⟨some 88, none, .op (.mov (.t 7))⟩,
  ⟨some 89, none, .op (.iad 2 (.t 87) (.t 88))⟩,
  ⟨some 90, none, .op (.load true 2 (.t 89))⟩,
  ⟨some 91, none, .op (.load true 2 (.t 6))⟩,
  ⟨some 92, none, .op (.eqa false [0, 1] (.t 90) (.t 91))⟩]
def weftref15_object.r14 : List AStep := [
  ⟨some 2, none, .op (.mov (.c (.i .i64 3)))⟩]
def weftref15_object.r15 : List AStep := [
  ⟨some 84, none, .op (.mov (.t 7))⟩,
  ⟨some 85, none, .op (.bin .add (.t 84) (.c (.i .i64 1)))⟩,
  ⟨some 7, none, .op (.mov (.t 85))⟩]
def weftref15_object.l1 : ACode := .seq (.seq (.post [1, 5, 6, 7, 83] (.region weftref15_object.r12)) (.post [1, 5, 6, 7] (.cond (.t 83) (.skip) (.exit 2)))) (.seq (.post [1, 5, 6, 7] (.block 3 (.seq (.post [1, 5, 6, 7, 92] (.draw [0, 1, 0, 7, 15, 0, 63] weftref15_object.r13)) (.post [1, 5, 6, 7] (.cond (.t 92) (.seq (.post [2] (.region weftref15_object.r14)) (.ret)) (.skip)))))) (.post [1, 5, 6, 7] (.region weftref15_object.r15)))
def weftref15_object.r16 : List AStep := [
  ⟨some 35, none, .op (.mov (.t 5))⟩,
  ⟨some 36, none, .op (.bin .add (.t 35) (.c (.i .i64 1)))⟩,
  ⟨some 5, none, .op (.mov (.t 36))⟩]
def weftref15_object.l0 : ACode := .seq (.seq (.post [1, 5, 34] (.region weftref15_object.r7)) (.post [1, 5] (.cond (.t 34) (.skip) (.exit 0)))) (.seq (.post [1, 5] (.block 1 (.seq (.post [1, 5, 6] (.region weftref15_object.r8)) (.seq (.seq (.post [1, 5, 6, 80] (.draw [0, 1, 3, 7, 15, 31, 15, 79, 207, 511, 1023, 2047, 4095, 8191, 16383, 32767, 65535, 131071, 262143, 524287, 1048575, 2097151, 4194303, 8388607, 16777215, 33554431, 67108863, 134217727, 268435455, 134217727, 671088639, 134217727, 2281701375, 8187281407, 16777215999, 33957085183, 68719476735, 137438953471, 274877906943] weftref15_object.r9)) (.post [1, 5, 6] (.cond (.t 80) (.seq (.post [2] (.region weftref15_object.r10)) (.ret)) (.skip)))) (.seq (.post [1, 5, 6, 7] (.region weftref15_object.r11)) (.post [1, 5] (.block 2 (.loop weftref15_object.l1)))))))) (.post [1, 5] (.region weftref15_object.r16)))
def weftref15_object.r17 : List AStep := [
  ⟨some 2, none, .op (.mov (.c (.i .i64 0)))⟩]
def weftref15_object : AFunc := ⟨93, [.t 2], .seq (.post [1] (.region weftref15_object.r0)) (.seq (.post [1, 3, 4] (.region weftref15_object.r1)) (.seq (.seq (.post [1, 25] (.region weftref15_object.r2)) (.post [1] (.cond (.t 25) (.seq (.post [2] (.region weftref15_object.r3)) (.ret)) (.skip)))) (.seq (.seq (.post [1, 29] (.region weftref15_object.r4)) (.post [1] (.cond (.t 29) (.seq (.post [2] (.region weftref15_object.r5)) (.ret)) (.skip)))) (.seq (.seq (.post [1, 5] (.region weftref15_object.r6)) (.post [] (.block 0 (.loop weftref15_object.l0)))) (.seq (.post [2] (.region weftref15_object.r17)) (.ret))))))⟩
theorem weftref15_object.ok : okFunc Tryz.prog Tryz.f32 weftref15_object = true := by kernel_rfl
theorem weftref15_object.at : Tryz.prog.funcs[n_weftref15_object]? = some Tryz.f32 := Tryz.func32
def weftref15_function.r0 : List AStep := [
  ⟨some 1, none, .op (.boxf (.t 0))⟩,
  ⟨some 2, none, .op (.mov (.c (.i .i64 0)))⟩]
def weftref15_function.r1 : List AStep := [
  ⟨some 6, none, .op (.fadr 0 (.t 1))⟩,
  ⟨some 7, none, .op (.load false 1 (.t 6))⟩,
  ⟨some 8, none, .call n_weftref14_Read [.t 7]⟩,
  ⟨some 5, none, .op (.mov (.t 8))⟩,
  ⟨some 9, none, .op (.ext 0 (.t 5))⟩,
  ⟨some 10, none, .op (.ext 1 (.t 5))⟩,
  ⟨some 3, none, .op (.new [.i .i64 0, .s [], .i .i64 0, .s [], .i .i64 0, .i .i64 0])⟩,
  ⟨none, none, .op (.store 6 (.t 3) (.t 9))⟩,
  ⟨some 4, none, .op (.mov (.t 10))⟩]
def weftref15_function.r2 : List AStep := [
  ⟨some 11, none, .op (.mov (.t 4))⟩,
  ⟨some 12, none, .op (.bin .neq (.t 11) (.c (.i .i64 0)))⟩,
  ⟨some 13, none, .op (.mov (.t 12))⟩,
  ⟨some 14, (some (13, false)), .op (.fadr 0 (.t 3))⟩,
  ⟨some 15, (some (13, false)), .op (.load false 1 (.t 14))⟩,
  ⟨some 16, (some (13, false)), .op (.bin .neq (.t 15) (.c (.i .i64 4)))⟩,
  ⟨some 17, none, .op (.pick (.t 13) (.c (.b true)) (.t 16))⟩]
def weftref15_function.r3 : List AStep := [
  ⟨some 2, none, .op (.mov (.c (.i .i64 11)))⟩]
def weftref15_function.r4 : List AStep := [
  ⟨some 18, none, .op (.fadr 1 (.t 1))⟩,
  ⟨some 19, none, .op (.load false 1 (.t 18))⟩,
  ⟨some 20, none, .call n_weftref15_kinds [.t 19, .c (.i .i64 0), .c (.i .i64 6)]⟩,
  ⟨some 21, none, .op (.un .not (.t 20))⟩,
  ⟨some 22, none, .op (.mov (.t 21))⟩,
  ⟨some 23, (some (22, false)), .op (.fadr 2 (.t 1))⟩,
  ⟨some 24, (some (22, false)), .op (.load false 1 (.t 23))⟩,
  ⟨some 25, (some (22, false)), .op (.bin .neq (.t 24) (.c (.s [105])))⟩,
  ⟨some 26, (some (22, false)), .op (.mov (.t 25))⟩,
  ⟨some 27, (some (26, true)), .op (.fadr 2 (.t 1))⟩,
  ⟨some 28, (some (26, true)), .op (.load false 1 (.t 27))⟩,
  ⟨some 29, (some (26, true)), .op (.bin .neq (.t 28) (.c (.s [112])))⟩,
  ⟨some 30, (some (22, false)), .op (.pick (.t 26) (.t 29) (.c (.b false)))⟩,
  ⟨some 31, (some (22, false)), .op (.mov (.t 30))⟩,
  ⟨some 32, (some (31, true)), .op (.fadr 2 (.t 1))⟩,
  ⟨some 33, (some (31, true)), .op (.load false 1 (.t 32))⟩,
  ⟨some 34, (some (31, true)), .op (.bin .neq (.t 33) (.c (.s [118])))⟩,
  ⟨some 35, (some (22, false)), .op (.pick (.t 31) (.t 34) (.c (.b false)))⟩,
  ⟨some 36, none, .op (.pick (.t 22) (.c (.b true)) (.t 35))⟩]
def weftref15_function.r5 : List AStep := [
  ⟨some 2, none, .op (.mov (.c (.i .i64 5)))⟩]
def weftref15_function.r6 : List AStep := [
  ⟨some 2, none, .op (.mov (.c (.i .i64 0)))⟩]
def weftref15_function : AFunc := ⟨37, [.t 2], .seq (.post [1] (.region weftref15_function.r0)) (.seq (.post [1, 3, 4] (.region weftref15_function.r1)) (.seq (.seq (.post [1, 17] (.region weftref15_function.r2)) (.post [1] (.cond (.t 17) (.seq (.post [2] (.region weftref15_function.r3)) (.ret)) (.skip)))) (.seq (.seq (.post [36] (.region weftref15_function.r4)) (.post [] (.cond (.t 36) (.seq (.post [2] (.region weftref15_function.r5)) (.ret)) (.skip)))) (.seq (.post [2] (.region weftref15_function.r6)) (.ret)))))⟩
theorem weftref15_function.ok : okFunc Tryz.prog Tryz.f33 weftref15_function = true := by kernel_rfl
theorem weftref15_function.at : Tryz.prog.funcs[n_weftref15_function]? = some Tryz.f33 := Tryz.func33
def weftref15_Node.r0 : List AStep := [
  ⟨some 2, none, .op (.mov (.c (.b false)))⟩]
def weftref15_Node.r1 : List AStep := [
  ⟨some 6, none, .op (.mov (.t 0))⟩,
  ⟨some 7, none, .call n_weftref14_Read [.t 6]⟩,
  ⟨some 5, none, .op (.mov (.t 7))⟩,
  ⟨some 8, none, .op (.ext 0 (.t 5))⟩,
  ⟨some 9, none, .op (.ext 1 (.t 5))⟩,
  ⟨some 3, none, .op (.new [.i .i64 0, .s [], .i .i64 0, .s [], .i .i64 0, .i .i64 0])⟩,
  ⟨none, none, .op (.store 6 (.t 3) (.t 8))⟩,
  ⟨some 4, none, .op (.mov (.t 9))⟩]
def weftref15_Node.r2 : List AStep := [
  ⟨some 10, none, .op (.mov (.t 4))⟩,
  ⟨some 11, none, .op (.bin .eql (.t 10) (.c (.i .i64 0)))⟩,
  ⟨some 12, none, .op (.mov (.t 11))⟩,
  ⟨some 13, (some (12, true)), .op (.fadr 0 (.t 3))⟩,
  ⟨some 14, (some (12, true)), .op (.load false 1 (.t 13))⟩,
  ⟨some 15, (some (12, true)), .op (.bin .leq (.t 14) (.c (.i .i64 3)))⟩,
  ⟨some 16, (some (12, true)), .op (.mov (.t 15))⟩,
  ⟨some 17, (some (16, false)), .op (.fadr 5 (.t 3))⟩,
  ⟨some 18, (some (16, false)), .op (.load false 1 (.t 17))⟩,
  ⟨some 19, (some (16, false)), .op (.bin .geq (.t 18) (.c (.i .i64 0)))⟩,
  ⟨some 20, (some (12, true)), .op (.pick (.t 16) (.c (.b true)) (.t 19))⟩,
  ⟨some 21, none, .op (.pick (.t 12) (.t 20) (.c (.b false)))⟩,
  ⟨some 2, none, .op (.mov (.t 21))⟩]
def weftref15_Node : AFunc := ⟨22, [.t 2], .seq (.post [0] (.region weftref15_Node.r0)) (.seq (.post [3, 4] (.region weftref15_Node.r1)) (.seq (.post [2] (.region weftref15_Node.r2)) (.ret)))⟩
theorem weftref15_Node.ok : okFunc Tryz.prog Tryz.f55 weftref15_Node = true := by kernel_rfl
theorem weftref15_Node.at : Tryz.prog.funcs[n_weftref15_Node]? = some Tryz.f55 := Tryz.func55
def weftref15_Place.r0 : List AStep := [
  ⟨some 2, none, .op (.mov (.c (.b false)))⟩]
def weftref15_Place.r1 : List AStep := [
  ⟨some 6, none, .op (.mov (.t 0))⟩,
  ⟨some 7, none, .call n_weftref14_Read [.t 6]⟩,
  ⟨some 5, none, .op (.mov (.t 7))⟩,
  ⟨some 8, none, .op (.ext 0 (.t 5))⟩,
  ⟨some 9, none, .op (.ext 1 (.t 5))⟩,
  ⟨some 3, none, .op (.new [.i .i64 0, .s [], .i .i64 0, .s [], .i .i64 0, .i .i64 0])⟩,
  ⟨none, none, .op (.store 6 (.t 3) (.t 8))⟩,
  ⟨some 4, none, .op (.mov (.t 9))⟩]
def weftref15_Place.r2 : List AStep := [
  ⟨some 10, none, .op (.mov (.t 4))⟩,
  ⟨some 11, none, .op (.bin .eql (.t 10) (.c (.i .i64 0)))⟩,
  ⟨some 12, none, .op (.mov (.t 11))⟩,
  ⟨some 13, (some (12, true)), .op (.fadr 0 (.t 3))⟩,
  ⟨some 14, (some (12, true)), .op (.load false 1 (.t 13))⟩,
  ⟨some 15, (some (12, true)), .op (.bin .eql (.t 14) (.c (.i .i64 4)))⟩,
  ⟨some 16, (some (12, true)), .op (.mov (.t 15))⟩,
  ⟨some 17, (some (16, false)), .op (.fadr 5 (.t 3))⟩,
  ⟨some 18, (some (16, false)), .op (.load false 1 (.t 17))⟩,
  ⟨some 19, (some (16, false)), .op (.bin .geq (.t 18) (.c (.i .i64 0)))⟩,
  ⟨some 20, (some (12, true)), .op (.pick (.t 16) (.c (.b true)) (.t 19))⟩,
  ⟨some 21, none, .op (.pick (.t 12) (.t 20) (.c (.b false)))⟩,
  ⟨some 2, none, .op (.mov (.t 21))⟩]
def weftref15_Place : AFunc := ⟨22, [.t 2], .seq (.post [0] (.region weftref15_Place.r0)) (.seq (.post [3, 4] (.region weftref15_Place.r1)) (.seq (.post [2] (.region weftref15_Place.r2)) (.ret)))⟩
theorem weftref15_Place.ok : okFunc Tryz.prog Tryz.f56 weftref15_Place = true := by kernel_rfl
theorem weftref15_Place.at : Tryz.prog.funcs[n_weftref15_Place]? = some Tryz.f56 := Tryz.func56
def weftref15_Sig.r0 : List AStep := [
  ⟨some 2, none, .op (.mov (.c (.s [])))⟩,
  ⟨some 3, none, .op (.mov (.c (.s [])))⟩,
  ⟨some 4, none, .op (.mov (.c (.b false)))⟩]
def weftref15_Sig.r1 : List AStep := [
  ⟨some 5, none, .op (.mov (.c (.i .i64 0)))⟩]
def weftref15_Sig.r2 : List AStep := [
  ⟨some 7, none, .op (.mov (.t 5))⟩,
  ⟨some 8, none, .op (.mov (.t 0))⟩,
  ⟨some 9, none, .op (.len true (.t 8))⟩,
  ⟨some 10, none, .op (.bin .lss (.t 7) (.t 9))⟩]
def weftref15_Sig.r3 : List AStep := [
  ⟨some 13, none, .op (.mov (.t 0))⟩,
  ⟨some 14, none, .op (.mov (.t 5))⟩,
  ⟨some 15, none, .op (.idx (.t 13) (.t 14))⟩,
  ⟨some 16, none, .op (.bin .eql (.t 15) (.c (.i .u8 62)))⟩]
def weftref15_Sig.r4 : List AStep := [
  ⟨some 17, none, .op (.mov (.t 0))⟩,
  ⟨some 18, none, .op (.mov (.t 5))⟩,
  ⟨some 19, none, .op (.bin .add (.t 18) (.c (.i .i64 1)))⟩,
  ⟨some 20, none, .op (.sls (.t 17) (some (.t 19)) none)⟩,
  ⟨some 6, none, .op (.mov (.t 20))⟩]
def weftref15_Sig.r5 : List AStep := [
  ⟨some 21, none, .op (.mov (.t 0))⟩,
  ⟨some 22, none, .op (.mov (.t 5))⟩,
  ⟨some 23, none, .op (.sls (.t 21) none (some (.t 22)))⟩,
  ⟨some 24, none, .op (.mov (.t 6))⟩,
  ⟨some 25, none, .op (.mov (.t 0))⟩,
  ⟨some 26, none, .op (.mov (.t 5))⟩,
  ⟨some 27, none, .op (.sls (.t 25) none (some (.t 26)))⟩,
  ⟨some 28, none, .call n_weftref15_kinds [.t 27, .c (.i .i64 0), .c (.i .i64 6)]⟩,
  ⟨some 29, none, .op (.mov (.t 28))⟩,
  ⟨some 30, (some (29, true)), .op (.mov (.t 6))⟩,
  ⟨some 31, (some (29, true)), .op (.bin .eql (.t 30) (.c (.s [])))⟩,
  ⟨some 32, (some (29, true)), .op (.mov (.t 31))⟩,
  ⟨some 33, (some (32, false)), .op (.mov (.t 6))⟩,
  ⟨some 34, (some (32, false)), .op (.bin .eql (.t 33) (.c (.s [105])))⟩,
  ⟨some 35, (some (29, true)), .op (.pick (.t 32) (.c (.b true)) (.t 34))⟩,
  ⟨some 36, (some (29, true)), .op (.mov (.t 35))⟩,
  ⟨some 37, (some (36, false)), .op (.mov (.t 6))⟩,
  ⟨some 38, (some (36, false)), .op (.bin .eql (.t 37) (.c (.s [112])))⟩,
  ⟨some 39, (some (29, true)), .op (.pick (.t 36) (.c (.b true)) (.t 38))⟩,
  ⟨some 40, none, .op (.pick (.t 29) (.t 39) (.c (.b false)))⟩,
  ⟨some 2, none, .op (.mov (.t 23))⟩,
  ⟨some 3, none, .op (.mov (.t 24))⟩,
  ⟨some 4, none, .op (.mov (.t 40))⟩]
def weftref15_Sig.r6 : List AStep := [
  ⟨some 11, none, .op (.mov (.t 5))⟩,
  ⟨some 12, none, .op (.bin .add (.t 11) (.c (.i .i64 1)))⟩,
  ⟨some 5, none, .op (.mov (.t 12))⟩]
def weftref15_Sig.l0 : ACode := .seq (.seq (.post [0, 5, 10] (.region weftref15_Sig.r2)) (.post [0, 5] (.cond (.t 10) (.skip) (.exit 0)))) (.seq (.post [0, 5] (.block 1 (.seq (.post [0, 5, 16] (.region weftref15_Sig.r3)) (.post [0, 5] (.cond (.t 16) (.seq (.post [0, 5, 6] (.region weftref15_Sig.r4)) (.seq (.post [2, 3, 4] (.draw [0, 0, 3, 0, 0, 0, 48, 112, 240, 496, 1008, 2032, 4080, 8176, 16368, 32752, 65520, 131056, 262128, 524272, 65527, 1114111, 4194303] weftref15_Sig.r5)) (.ret))) (.skip)))))) (.post [0, 5] (.region weftref15_Sig.r6)))
def weftref15_Sig.r7 : List AStep := [
  ⟨some 2, none, .op (.mov (.c (.s [])))⟩,
  ⟨some 3, none, .op (.mov (.c (.s [])))⟩,
  ⟨some 4, none, .op (.mov (.c (.b false)))⟩]
def weftref15_Sig : AFunc := ⟨41, [.t 2, .t 3, .t 4], .seq (.post [0] (.region weftref15_Sig.r0)) (.seq (.seq (.post [0, 5] (.region weftref15_Sig.r1)) (.post [] (.block 0 (.loop weftref15_Sig.l0)))) (.seq (.post [2, 3, 4] (.region weftref15_Sig.r7)) (.ret)))⟩
theorem weftref15_Sig.ok : okFunc Tryz.prog Tryz.f76 weftref15_Sig = true := by kernel_rfl
theorem weftref15_Sig.at : Tryz.prog.funcs[n_weftref15_Sig]? = some Tryz.f76 := Tryz.func76
def weftref15_call.r0 : List AStep := [
  ⟨some 1, none, .op (.boxf (.t 0))⟩,
  ⟨some 2, none, .op (.mov (.c (.i .i64 0)))⟩]
def weftref15_call.r1 : List AStep := [
  ⟨some 9, none, .op (.fadr 4 (.t 1))⟩,
  ⟨some 10, none, .op (.load false 1 (.t 9))⟩,
  ⟨some 11, none, .call n_weftref15_Sig [.t 10]⟩,
  ⟨some 8, none, .op (.mov (.t 11))⟩,
  ⟨some 12, none, .op (.ext 0 (.t 8))⟩,
  ⟨some 13, none, .op (.ext 1 (.t 8))⟩,
  ⟨some 14, none, .op (.ext 2 (.t 8))⟩,
  ⟨some 3, none, .op (.mov (.t 12))⟩,
  ⟨some 4, none, .op (.mov (.t 13))⟩,
  ⟨some 5, none, .op (.mov (.t 14))⟩]
def weftref15_call.r2 : List AStep := [
  ⟨some 15, none, .op (.mov (.t 5))⟩,
  ⟨some 16, none, .op (.un .not (.t 15))⟩,
  ⟨some 17, none, .op (.mov (.t 16))⟩,
  ⟨some 18, (some (17, false)), .op (.fadr 3 (.t 1))⟩,
  ⟨some 19, (some (17, false)), .op (.load false 1 (.t 18))⟩,
  ⟨some 20, (some (17, false)), .op (.bin .neq (.t 19) (.c (.i .i64 0)))⟩,
  ⟨some 21, none, .op (.pick (.t 17) (.c (.b true)) (.t 20))⟩,
  ⟨some 22, none, .op (.mov (.t 21))⟩,
  ⟨some 23, (some (22, false)), .op (.fadr 5 (.t 1))⟩,
  ⟨some 24, (some (22, false)), .op (.load false 1 (.t 23))⟩,
  ⟨some 25, (some (22, false)), .op (.len false (.t 24))⟩,
  ⟨some 26, (some (22, false)), .op (.mov (.t 3))⟩,
  ⟨some 27, (some (22, false)), .op (.len true (.t 26))⟩,
  ⟨some 28, (some (22, false)), .op (.bin .add (.t 27) (.c (.i .i64 1)))⟩,
  ⟨some 29, (some (22, false)), .op (.bin .neq (.t 25) (.t 28))⟩,
  ⟨some 30, none, .op (.pick (.t 22) (.c (.b true)) (.t 29))⟩]
def weftref15_call.r3 : List AStep := [
  ⟨some 2, none, .op (.mov (.c (.i .i64 3)))⟩]
def weftref15_call.r4 : List AStep := [
  ⟨some 6, none, .op (.mov (.c (.i .i64 0)))⟩]
def weftref15_call.r5 : List AStep := [
  ⟨some 31, none, .op (.mov (.t 6))⟩,
  ⟨some 32, none, .op (.fadr 5 (.t 1))⟩,
  ⟨some 33, none, .op (.load false 1 (.t 32))⟩,
  ⟨some 34, none, .op (.len false (.t 33))⟩,
  ⟨some 35, none, .op (.bin .lss (.t 31) (.t 34))⟩]
def weftref15_call.r6 : List AStep := [
  ⟨some 38, none, .op (.mov (.t 4))⟩,
  ⟨some 39, none, .op (.bin .eql (.t 38) (.c (.s [112])))⟩,
  ⟨some 7, none, .op (.mov (.t 39))⟩]
def weftref15_call.r7 : List AStep := [
  ⟨some 40, none, .op (.mov (.t 6))⟩,
  ⟨some 41, none, .op (.bin .gtr (.t 40) (.c (.i .i64 0)))⟩]
def weftref15_call.r8 : List AStep := [
  ⟨some 42, none, .op (.mov (.t 3))⟩,
  ⟨some 43, none, .op (.mov (.t 6))⟩,
  ⟨some 44, none, .op (.bin .sub (.t 43) (.c (.i .i64 1)))⟩,
  ⟨some 45, none, .op (.idx (.t 42) (.t 44))⟩,
  ⟨some 46, none, .op (.bin .eql (.t 45) (.c (.i .u8 112)))⟩,
  ⟨some 7, none, .op (.mov (.t 46))⟩]
def weftref15_call.r9 : List AStep := [
  ⟨some 47, none, .op (.fadr 5 (.t 1))⟩,
  ⟨some 48, none, .op (.load false 1 (.t 47))⟩,
  ⟨some 49, none, .op (.mov (.t 6))⟩,
  ⟨some 50, none, .op (.iad 1 (.t 48) (.t 49))⟩,
  ⟨some 51, none, .op (.load false 1 (.t 50))⟩,
  ⟨some 52, none, .op (.bin .neq (.t 51) (.c (.s [])))⟩,
  ⟨some 53, none, .op (.mov (.t 52))⟩,
  ⟨some 54, (some (53, true)), .op (.mov (.t 7))⟩,
  ⟨some 55, (some (53, true)), .op (.un .not (.t 54))⟩,
  ⟨some 56, (some (53, true)), .op (.mov (.t 55))⟩,
  ⟨some 57, (some (56, false)), .op (.fadr 5 (.t 1))⟩,
  ⟨some 58, (some (56, false)), .op (.load false 1 (.t 57))⟩,
  ⟨some 59, (some (56, false)), .op (.mov (.t 6))⟩,
  ⟨some 60, (some (56, false)), .op (.iad 1 (.t 58) (.t 59))⟩,
  ⟨some 61, (some (56, false)), .op (.load false 1 (.t 60))⟩,
  ⟨some 62, (some (56, false)), .call n_weftref15_Node [.t 61]⟩,
  ⟨some 63, (some (56, false)), .op (.un .not (.t 62))⟩,
  ⟨some 64, (some (53, true)), .op (.pick (.t 56) (.c (.b true)) (.t 63))⟩,
  ⟨some 65, none, .op (.pick (.t 53) (.t 64) (.c (.b false)))⟩]
def weftref15_call.r10 : List AStep := [
  ⟨some 2, none, .op (.mov (.c (.i .i64 3)))⟩]
def weftref15_call.r11 : List AStep := [
  ⟨some 36, none, .op (.mov (.t 6))⟩,
  ⟨some 37, none, .op (.bin .add (.t 36) (.c (.i .i64 1)))⟩,
  ⟨some 6, none, .op (.mov (.t 37))⟩]
def weftref15_call.l0 : ACode := .seq (.seq (.post [1, 3, 4, 6, 35] (.region weftref15_call.r5)) (.post [1, 3, 4, 6] (.cond (.t 35) (.skip) (.exit 0)))) (.seq (.post [1, 3, 4, 6] (.block 1 (.seq (.post [1, 3, 4, 6, 7] (.region weftref15_call.r6)) (.seq (.seq (.post [1, 3, 4, 6, 7, 41] (.region weftref15_call.r7)) (.post [1, 3, 4, 6, 7] (.cond (.t 41) (.post [1, 3, 4, 6, 7] (.region weftref15_call.r8)) (.skip)))) (.seq (.post [1, 3, 4, 6, 65] (.region weftref15_call.r9)) (.post [1, 3, 4, 6] (.cond (.t 65) (.seq (.post [2] (.region weftref15_call.r10)) (.ret)) (.skip)))))))) (.post [1, 3, 4, 6] (.region weftref15_call.r11)))
def weftref15_call.r12 : List AStep := [
  ⟨some 2, none, .op (.mov (.c (.i .i64 0)))⟩]
def weftref15_call : AFunc := ⟨66, [.t 2], .seq (.post [1] (.region weftref15_call.r0)) (.seq (.post [1, 3, 4, 5] (.region weftref15_call.r1)) (.seq (.seq (.post [1, 3, 4, 30] (.region weftref15_call.r2)) (.post [1, 3, 4] (.cond (.t 30) (.seq (.post [2] (.region weftref15_call.r3)) (.ret)) (.skip)))) (.seq (.seq (.post [1, 3, 4, 6] (.region weftref15_call.r4)) (.post [] (.block 0 (.loop weftref15_call.l0)))) (.seq (.post [2] (.region weftref15_call.r12)) (.ret)))))⟩
theorem weftref15_call.ok : okFunc Tryz.prog Tryz.f57 weftref15_call = true := by kernel_rfl
theorem weftref15_call.at : Tryz.prog.funcs[n_weftref15_call]? = some Tryz.f57 := Tryz.func57
def weftref15_Con.r0 : List AStep := [
  ⟨some 1, none, .op (.boxf (.t 0))⟩,
  ⟨some 2, none, .op (.mov (.c (.i .i64 0)))⟩]
def weftref15_Con.r1 : List AStep := [
  ⟨some 5, none, .op (.fadr 0 (.t 1))⟩,
  ⟨some 6, none, .op (.load false 1 (.t 5))⟩,
  ⟨some 7, none, .op (.bin .lss (.t 6) (.c (.i .i64 1)))⟩,
  ⟨some 8, none, .op (.mov (.t 7))⟩,
  ⟨some 9, (some (8, false)), .op (.fadr 0 (.t 1))⟩,
  ⟨some 10, (some (8, false)), .op (.load false 1 (.t 9))⟩,
  ⟨some 11, (some (8, false)), .op (.bin .gtr (.t 10) (.c (.i .i64 6)))⟩,
  ⟨some 12, none, .op (.pick (.t 8) (.c (.b true)) (.t 11))⟩]
def weftref15_Con.r2 : List AStep := [
  ⟨some 2, none, .op (.mov (.c (.i .i64 5)))⟩]
def weftref15_Con.r3 : List AStep := [
  ⟨some 14, none, .op (.fadr 1 (.t 1))⟩,
  ⟨some 15, none, .op (.load false 1 (.t 14))⟩,
  ⟨some 16, none, .call n_weftref14_Read [.t 15]⟩,
  ⟨some 13, none, .op (.mov (.t 16))⟩,
  ⟨some 17, none, .op (.ext 0 (.t 13))⟩,
  ⟨some 18, none, .op (.ext 1 (.t 13))⟩,
  ⟨some 3, none, .op (.new [.i .i64 0, .s [], .i .i64 0, .s [], .i .i64 0, .i .i64 0])⟩,
  ⟨none, none, .op (.store 6 (.t 3) (.t 17))⟩,
  ⟨some 4, none, .op (.mov (.t 18))⟩]
def weftref15_Con.r4 : List AStep := [
  ⟨some 19, none, .op (.fadr 1 (.t 1))⟩,
  ⟨some 20, none, .op (.load false 1 (.t 19))⟩,
  ⟨some 21, none, .call n_weftref15_Node [.t 20]⟩,
  ⟨some 22, none, .op (.un .not (.t 21))⟩,
  ⟨some 23, none, .op (.mov (.t 22))⟩,
  ⟨some 24, (some (23, false)), .op (.fadr 0 (.t 1))⟩,
  ⟨some 25, (some (23, false)), .op (.load false 1 (.t 24))⟩,
  ⟨some 26, (some (23, false)), .op (.bin .eql (.t 25) (.c (.i .i64 6)))⟩,
  ⟨some 27, (some (23, false)), .op (.mov (.t 26))⟩,
  ⟨some 28, (some (27, true)), .op (.mov (.t 4))⟩,
  ⟨some 29, (some (27, true)), .op (.bin .neq (.t 28) (.c (.i .i64 0)))⟩,
  ⟨some 30, (some (27, true)), .op (.mov (.t 29))⟩,
  ⟨some 31, (some (30, false)), .op (.fadr 0 (.t 3))⟩,
  ⟨some 32, (some (30, false)), .op (.load false 1 (.t 31))⟩,
  ⟨some 33, (some (30, false)), .op (.bin .neq (.t 32) (.c (.i .i64 3)))⟩,
  ⟨some 34, (some (27, true)), .op (.pick (.t 30) (.c (.b true)) (.t 33))⟩,
  ⟨some 35, (some (23, false)), .op (.pick (.t 27) (.t 34) (.c (.b false)))⟩,
  ⟨some 36, none, .op (.pick (.t 23) (.c (.b true)) (.t 35))⟩,
  ⟨some 37, none, .op (.mov (.t 36))⟩,
  ⟨some 38, (some (37, false)), .op (.fadr 0 (.t 1))⟩,
  ⟨some 39, (some (37, false)), .op (.load false 1 (.t 38))⟩,
  ⟨some 40, (some (37, false)), .op (.bin .eql (.t 39) (.c (.i .i64 1)))⟩,
  ⟨some 41, (some (37, false)), .op (.mov (.t 40))⟩,
  ⟨some 42, (some (41, true)), .op (.fadr 2 (.t 1))⟩,
  ⟨some 43, (some (41, true)), .op (.load false 1 (.t 42))⟩,
  ⟨some 44, (some (41, true)), .call n_weftref15_Place [.t 43]⟩,
  ⟨some 45, (some (41, true)), .op (.un .not (.t 44))⟩,
  ⟨some 46, (some (37, false)), .op (.pick (.t 41) (.t 45) (.c (.b false)))⟩,
  ⟨some 47, none, .op (.pick (.t 37) (.c (.b true)) (.t 46))⟩,
  ⟨some 48, none, .op (.mov (.t 47))⟩,
  ⟨some 49, (some (48, false)), .op (.fadr 0 (.t 1))⟩,
  ⟨some 50, (some (48, false)), .op (.load false 1 (.t 49))⟩,
  ⟨some 51, (some (48, false)), .op (.bin .neq (.t 50) (.c (.i .i64 1)))⟩,
  ⟨some 52, (some (48, false)), .op (.mov (.t 51))⟩,
  ⟨some 53, (some (52, true)), .op (.fadr 2 (.t 1))⟩,
  ⟨some 54, (some (52, true)), .op (.load false 1 (.t 53))⟩,
  ⟨some 55, (some (52, true)), .call n_weftref15_Node [.t 54]⟩,
  ⟨some 56, (some (52, true)), .op (.un .not (.t 55))⟩,
  ⟨some 57, (some (48, false)), .op (.pick (.t 52) (.t 56) (.c (.b false)))⟩,
  ⟨some 58, none, .op (.pick (.t 48) (.c (.b true)) (.t 57))⟩]
def weftref15_Con.r5 : List AStep := [
  ⟨some 2, none, .op (.mov (.c (.i .i64 11)))⟩]
def weftref15_Con.r6 : List AStep := [
  ⟨some 60, none, .op (.fadr 0 (.t 1))⟩,
  ⟨some 61, none, .op (.load false 1 (.t 60))⟩,
  ⟨some 62, none, .op (.bin .eql (.t 61) (.c (.i .i64 6)))⟩,
  ⟨some 59, none, .op (.mov (.t 62))⟩]
def weftref15_Con.r7 : List AStep := [
  ⟨some 63, none, .op (.load true 6 (.t 1))⟩,
  ⟨some 64, none, .call n_weftref15_call [.t 63]⟩,
  ⟨some 2, none, .op (.mov (.t 64))⟩]
def weftref15_Con.r8 : List AStep := [
  ⟨some 66, none, .op (.fadr 5 (.t 1))⟩,
  ⟨some 67, none, .op (.load false 1 (.t 66))⟩,
  ⟨some 68, none, .op (.len false (.t 67))⟩,
  ⟨some 69, none, .op (.bin .gtr (.t 68) (.c (.i .i64 0)))⟩,
  ⟨some 65, none, .op (.mov (.t 69))⟩]
def weftref15_Con.r9 : List AStep := [
  ⟨some 2, none, .op (.mov (.c (.i .i64 3)))⟩]
def weftref15_Con.r10 : List AStep := [
  ⟨some 71, none, .op (.fadr 0 (.t 1))⟩,
  ⟨some 72, none, .op (.load false 1 (.t 71))⟩,
  ⟨some 73, none, .op (.bin .eql (.t 72) (.c (.i .i64 5)))⟩,
  ⟨some 70, none, .op (.mov (.t 73))⟩]
def weftref15_Con.r11 : List AStep := [
  ⟨some 74, none, .op (.fadr 3 (.t 1))⟩,
  ⟨some 75, none, .op (.load false 1 (.t 74))⟩,
  ⟨some 76, none, .op (.bin .lss (.t 75) (.c (.i .i64 0)))⟩,
  ⟨some 77, none, .op (.mov (.t 76))⟩,
  ⟨some 78, (some (77, false)), .op (.fadr 3 (.t 1))⟩,
  ⟨some 79, (some (77, false)), .op (.load false 1 (.t 78))⟩,
  ⟨some 80, (some (77, false)), .op (.bin .gtr (.t 79) (.c (.i .i64 64)))⟩,
  ⟨some 81, none, .op (.pick (.t 77) (.c (.b true)) (.t 80))⟩,
  ⟨some 82, none, .op (.mov (.t 81))⟩,
  ⟨some 83, (some (82, false)), .op (.fadr 4 (.t 1))⟩,
  ⟨some 84, (some (82, false)), .op (.load false 1 (.t 83))⟩,
  ⟨some 85, (some (82, false)), .op (.len true (.t 84))⟩,
  ⟨some 86, (some (82, false)), .op (.bin .lss (.t 85) (.c (.i .i64 1)))⟩,
  ⟨some 87, none, .op (.pick (.t 82) (.c (.b true)) (.t 86))⟩,
  ⟨some 88, none, .op (.mov (.t 87))⟩,
  ⟨some 89, (some (88, false)), .op (.fadr 4 (.t 1))⟩,
  ⟨some 90, (some (88, false)), .op (.load false 1 (.t 89))⟩,
  ⟨some 91, (some (88, false)), .op (.len true (.t 90))⟩,
  ⟨some 92, (some (88, false)), .op (.bin .gtr (.t 91) (.c (.i .i64 60)))⟩,
  ⟨some 93, none, .op (.pick (.t 88) (.c (.b true)) (.t 92))⟩]
def weftref15_Con.r12 : List AStep := [
  ⟨some 2, none, .op (.mov (.c (.i .i64 3)))⟩]
def weftref15_Con.r13 : List AStep := [
  ⟨some 2, none, .op (.mov (.c (.i .i64 0)))⟩]
def weftref15_Con.r14 : List AStep := [
  ⟨some 95, none, .op (.fadr 3 (.t 1))⟩,
  ⟨some 96, none, .op (.load false 1 (.t 95))⟩,
  ⟨some 97, none, .op (.bin .neq (.t 96) (.c (.i .i64 0)))⟩,
  ⟨some 98, none, .op (.mov (.t 97))⟩,
  ⟨some 99, (some (98, false)), .op (.fadr 4 (.t 1))⟩,
  ⟨some 100, (some (98, false)), .op (.load false 1 (.t 99))⟩,
  ⟨some 101, (some (98, false)), .op (.bin .neq (.t 100) (.c (.s [])))⟩,
  ⟨some 102, none, .op (.pick (.t 98) (.c (.b true)) (.t 101))⟩,
  ⟨some 94, none, .op (.mov (.t 102))⟩]
def weftref15_Con.r15 : List AStep := [
  ⟨some 2, none, .op (.mov (.c (.i .i64 3)))⟩]
def weftref15_Con.r16 : List AStep := [
  ⟨some 2, none, .op (.mov (.c (.i .i64 0)))⟩]
def weftref15_Con : AFunc := ⟨103, [.t 2], .seq (.post [1] (.region weftref15_Con.r0)) (.seq (.seq (.post [1, 12] (.region weftref15_Con.r1)) (.post [1] (.cond (.t 12) (.seq (.post [2] (.region weftref15_Con.r2)) (.ret)) (.skip)))) (.seq (.post [1, 3, 4] (.region weftref15_Con.r3)) (.seq (.seq (.post [1, 58] (.region weftref15_Con.r4)) (.post [1] (.cond (.t 58) (.seq (.post [2] (.region weftref15_Con.r5)) (.ret)) (.skip)))) (.seq (.post [] (.block 0 (.seq (.post [1, 59] (.region weftref15_Con.r6)) (.post [] (.cond (.t 59) (.seq (.post [2] (.region weftref15_Con.r7)) (.ret)) (.seq (.post [1, 65] (.region weftref15_Con.r8)) (.post [] (.cond (.t 65) (.seq (.post [2] (.region weftref15_Con.r9)) (.ret)) (.seq (.post [1, 70] (.region weftref15_Con.r10)) (.post [] (.cond (.t 70) (.seq (.seq (.post [93] (.region weftref15_Con.r11)) (.post [] (.cond (.t 93) (.seq (.post [2] (.region weftref15_Con.r12)) (.ret)) (.skip)))) (.seq (.post [2] (.region weftref15_Con.r13)) (.ret))) (.seq (.post [94] (.region weftref15_Con.r14)) (.post [] (.cond (.t 94) (.seq (.post [2] (.region weftref15_Con.r15)) (.ret)) (.skip))))))))))))))) (.seq (.post [2] (.region weftref15_Con.r16)) (.ret))))))⟩
theorem weftref15_Con.ok : okFunc Tryz.prog Tryz.f34 weftref15_Con = true := by kernel_rfl
theorem weftref15_Con.at : Tryz.prog.funcs[n_weftref15_Con]? = some Tryz.f34 := Tryz.func34
def weftref15_ints.r0 : List AStep := [
  ⟨some 4, none, .op (.mov (.c (.i .i64 0)))⟩]
def weftref15_ints.r1 : List AStep := [
  ⟨some 6, none, .op (.mov (.t 0))⟩,
  ⟨some 7, none, .op (.mov (.t 1))⟩,
  ⟨some 8, none, .op (.bin .lss (.t 6) (.t 7))⟩,
  ⟨some 5, none, .op (.mov (.t 8))⟩]
def weftref15_ints.r2 : List AStep := [
  ⟨some 4, none, .op (.mov (.c (.i .i64 (-1))))⟩]
def weftref15_ints.r3 : List AStep := [
  ⟨some 10, none, .op (.mov (.t 0))⟩,
  ⟨some 11, none, .op (.mov (.t 1))⟩,
  ⟨some 12, none, .op (.bin .gtr (.t 10) (.t 11))⟩,
  ⟨some 9, none, .op (.mov (.t 12))⟩]
def weftref15_ints.r4 : List AStep := [
  ⟨some 4, none, .op (.mov (.c (.i .i64 1)))⟩]
def weftref15_ints.r5 : List AStep := [
  ⟨some 4, none, .op (.mov (.c (.i .i64 0)))⟩]
def weftref15_ints : AFunc := ⟨13, [.t 4], .seq (.post [0, 1] (.region weftref15_ints.r0)) (.seq (.post [] (.block 0 (.seq (.post [0, 1, 5] (.region weftref15_ints.r1)) (.post [] (.cond (.t 5) (.seq (.post [4] (.region weftref15_ints.r2)) (.ret)) (.seq (.post [9] (.region weftref15_ints.r3)) (.post [] (.cond (.t 9) (.seq (.post [4] (.region weftref15_ints.r4)) (.ret)) (.skip))))))))) (.seq (.post [4] (.region weftref15_ints.r5)) (.ret)))⟩
theorem weftref15_ints.ok : okFunc Tryz.prog Tryz.f58 weftref15_ints = true := by kernel_rfl
theorem weftref15_ints.at : Tryz.prog.funcs[n_weftref15_ints]? = some Tryz.f58 := Tryz.func58
def weftref15_texts.r0 : List AStep := [
  ⟨some 4, none, .op (.mov (.c (.i .i64 0)))⟩]
def weftref15_texts.r1 : List AStep := [
  ⟨some 6, none, .op (.mov (.t 0))⟩,
  ⟨some 7, none, .op (.mov (.t 1))⟩,
  ⟨some 8, none, .op (.bin .lss (.t 6) (.t 7))⟩,
  ⟨some 5, none, .op (.mov (.t 8))⟩]
def weftref15_texts.r2 : List AStep := [
  ⟨some 4, none, .op (.mov (.c (.i .i64 (-1))))⟩]
def weftref15_texts.r3 : List AStep := [
  ⟨some 10, none, .op (.mov (.t 0))⟩,
  ⟨some 11, none, .op (.mov (.t 1))⟩,
  ⟨some 12, none, .op (.bin .gtr (.t 10) (.t 11))⟩,
  ⟨some 9, none, .op (.mov (.t 12))⟩]
def weftref15_texts.r4 : List AStep := [
  ⟨some 4, none, .op (.mov (.c (.i .i64 1)))⟩]
def weftref15_texts.r5 : List AStep := [
  ⟨some 4, none, .op (.mov (.c (.i .i64 0)))⟩]
def weftref15_texts : AFunc := ⟨13, [.t 4], .seq (.post [0, 1] (.region weftref15_texts.r0)) (.seq (.post [] (.block 0 (.seq (.post [0, 1, 5] (.region weftref15_texts.r1)) (.post [] (.cond (.t 5) (.seq (.post [4] (.region weftref15_texts.r2)) (.ret)) (.seq (.post [9] (.region weftref15_texts.r3)) (.post [] (.cond (.t 9) (.seq (.post [4] (.region weftref15_texts.r4)) (.ret)) (.skip))))))))) (.seq (.post [4] (.region weftref15_texts.r5)) (.ret)))⟩
theorem weftref15_texts.ok : okFunc Tryz.prog Tryz.f59 weftref15_texts = true := by kernel_rfl
theorem weftref15_texts.at : Tryz.prog.funcs[n_weftref15_texts]? = some Tryz.f59 := Tryz.func59
def weftref15_Compare.r0 : List AStep := [
  ⟨some 2, none, .op (.boxf (.t 0))⟩,
  ⟨some 3, none, .op (.boxf (.t 1))⟩,
  ⟨some 4, none, .op (.mov (.c (.i .i64 0)))⟩]
def weftref15_Compare.r1 : List AStep := [
  ⟨some 8, none, .op (.fadr 0 (.t 2))⟩,
  ⟨some 9, none, .op (.load false 1 (.t 8))⟩,
  ⟨some 10, none, .op (.fadr 0 (.t 3))⟩,
  ⟨some 11, none, .op (.load false 1 (.t 10))⟩,
  ⟨some 12, none, .call n_weftref15_ints [.t 9, .t 11]⟩,
  ⟨some 13, none, .op (.fadr 1 (.t 2))⟩,
  ⟨some 14, none, .op (.load false 1 (.t 13))⟩,
  ⟨some 15, none, .op (.fadr 1 (.t 3))⟩,
  ⟨some 16, none, .op (.load false 1 (.t 15))⟩,
  ⟨some 17, none, .call n_weftref15_texts [.t 14, .t 16]⟩,
  ⟨some 18, none, .op (.fadr 2 (.t 2))⟩,
  ⟨some 19, none, .op (.load false 1 (.t 18))⟩,
  ⟨some 20, none, .op (.fadr 2 (.t 3))⟩,
  ⟨some 21, none, .op (.load false 1 (.t 20))⟩,
  ⟨some 22, none, .call n_weftref15_texts [.t 19, .t 21]⟩,
  ⟨some 23, none, .op (.fadr 3 (.t 2))⟩,
  ⟨some 24, none, .op (.load false 1 (.t 23))⟩,
  ⟨some 25, none, .op (.fadr 3 (.t 3))⟩,
  ⟨some 26, none, .op (.load false 1 (.t 25))⟩,
  ⟨some 27, none, .call n_weftref15_ints [.t 24, .t 26]⟩,
  ⟨some 28, none, .op (.fadr 4 (.t 2))⟩,
  ⟨some 29, none, .op (.load false 1 (.t 28))⟩,
  ⟨some 30, none, .op (.fadr 4 (.t 3))⟩,
  ⟨some 31, none, .op (.load false 1 (.t 30))⟩,
  ⟨some 32, none, .call n_weftref15_texts [.t 29, .t 31]⟩,
  ⟨some 33, none, .op (.bsl 5 [.i .i64 0] [(0, 1, .t 12), (1, 1, .t 17), (2, 1, .t 22), (3, 1, .t 27), (4, 1, .t 32)])⟩,
  ⟨some 5, none, .op (.mov (.t 33))⟩]
def weftref15_Compare.r2 : List AStep := [
  ⟨some 6, none, .op (.mov (.c (.i .i64 0)))⟩]
def weftref15_Compare.r3 : List AStep := [
  ⟨some 34, none, .op (.mov (.t 6))⟩,
  ⟨some 35, none, .op (.fadr 5 (.t 2))⟩,
  ⟨some 36, none, .op (.load false 1 (.t 35))⟩,
  ⟨some 37, none, .op (.len false (.t 36))⟩,
  ⟨some 38, none, .op (.bin .lss (.t 34) (.t 37))⟩,
  ⟨some 39, none, .op (.mov (.t 38))⟩,
  ⟨some 40, (some (39, true)), .op (.mov (.t 6))⟩,
  ⟨some 41, (some (39, true)), .op (.fadr 5 (.t 3))⟩,
  ⟨some 42, (some (39, true)), .op (.load false 1 (.t 41))⟩,
  ⟨some 43, (some (39, true)), .op (.len false (.t 42))⟩,
  ⟨some 44, (some (39, true)), .op (.bin .lss (.t 40) (.t 43))⟩,
  ⟨some 45, none, .op (.pick (.t 39) (.t 44) (.c (.b false)))⟩]
def weftref15_Compare.r4 : List AStep := [
  ⟨some 48, none, .op (.mov (.t 5))⟩,
  ⟨some 49, none, .op (.fadr 5 (.t 2))⟩,
  ⟨some 50, none, .op (.load false 1 (.t 49))⟩,
  ⟨some 51, none, .op (.mov (.t 6))⟩,
  ⟨some 52, none, .op (.iad 1 (.t 50) (.t 51))⟩,
  ⟨some 53, none, .op (.load false 1 (.t 52))⟩,
  ⟨some 54, none, .op (.fadr 5 (.t 3))⟩,
  ⟨some 55, none, .op (.load false 1 (.t 54))⟩,
  ⟨some 56, none, .op (.mov (.t 6))⟩,
  ⟨some 57, none, .op (.iad 1 (.t 55) (.t 56))⟩,
  ⟨some 58, none, .op (.load false 1 (.t 57))⟩,
  ⟨some 59, none, .call n_weftref15_texts [.t 53, .t 58]⟩,
  ⟨some 60, none, .op (.bfz 1 1 [.i .i64 0] [(0, 1, .t 59)])⟩,
  ⟨some 61, none, .op (.app 1 8 (.t 48) (.t 60))⟩,
  ⟨some 5, none, .op (.mov (.t 61))⟩]
def weftref15_Compare.r5 : List AStep := [
  ⟨some 46, none, .op (.mov (.t 6))⟩,
  ⟨some 47, none, .op (.bin .add (.t 46) (.c (.i .i64 1)))⟩,
  ⟨some 6, none, .op (.mov (.t 47))⟩]
def weftref15_Compare.l0 : ACode := .seq (.seq (.post [2, 3, 5, 6, 45] (.region weftref15_Compare.r3)) (.post [2, 3, 5, 6] (.cond (.t 45) (.skip) (.exit 0)))) (.seq (.post [2, 3, 5, 6] (.block 1 (.post [2, 3, 5, 6] (.draw [0, 0, 2, 0, 14, 30, 0, 64, 0, 448, 960, 2046, 4094, 8191, 16383] weftref15_Compare.r4)))) (.post [2, 3, 5, 6] (.region weftref15_Compare.r5)))
def weftref15_Compare.r6 : List AStep := [
  ⟨some 62, none, .op (.mov (.t 5))⟩,
  ⟨some 63, none, .op (.fadr 5 (.t 2))⟩,
  ⟨some 64, none, .op (.load false 1 (.t 63))⟩,
  ⟨some 65, none, .op (.len false (.t 64))⟩,
  ⟨some 66, none, .op (.fadr 5 (.t 3))⟩,
  ⟨some 67, none, .op (.load false 1 (.t 66))⟩,
  ⟨some 68, none, .op (.len false (.t 67))⟩,
  ⟨some 69, none, .call n_weftref15_ints [.t 65, .t 68]⟩,
  ⟨some 70, none, .op (.bfz 1 1 [.i .i64 0] [(0, 1, .t 69)])⟩,
  ⟨some 71, none, .op (.app 1 8 (.t 62) (.t 70))⟩,
  ⟨some 5, none, .op (.mov (.t 71))⟩]
def weftref15_Compare.r7 : List AStep := [
  ⟨some 7, none, .op (.mov (.c (.i .i64 0)))⟩]
def weftref15_Compare.r8 : List AStep := [
  ⟨some 72, none, .op (.mov (.t 7))⟩,
  ⟨some 73, none, .op (.mov (.t 5))⟩,
  ⟨some 74, none, .op (.len false (.t 73))⟩,
  ⟨some 75, none, .op (.bin .lss (.t 72) (.t 74))⟩]
def weftref15_Compare.r9 : List AStep := [
  ⟨some 78, none, .op (.mov (.t 5))⟩,
  ⟨some 79, none, .op (.mov (.t 7))⟩,
  ⟨some 80, none, .op (.iad 1 (.t 78) (.t 79))⟩,
  ⟨some 81, none, .op (.load false 1 (.t 80))⟩,
  ⟨some 82, none, .op (.bin .neq (.t 81) (.c (.i .i64 0)))⟩]
def weftref15_Compare.r10 : List AStep := [
  ⟨some 83, none, .op (.mov (.t 5))⟩,
  ⟨some 84, none, .op (.mov (.t 7))⟩,
  ⟨some 85, none, .op (.iad 1 (.t 83) (.t 84))⟩,
  ⟨some 86, none, .op (.load false 1 (.t 85))⟩,
  ⟨some 4, none, .op (.mov (.t 86))⟩]
def weftref15_Compare.r11 : List AStep := [
  ⟨some 76, none, .op (.mov (.t 7))⟩,
  ⟨some 77, none, .op (.bin .add (.t 76) (.c (.i .i64 1)))⟩,
  ⟨some 7, none, .op (.mov (.t 77))⟩]
def weftref15_Compare.l1 : ACode := .seq (.seq (.post [5, 7, 75] (.region weftref15_Compare.r8)) (.post [5, 7] (.cond (.t 75) (.skip) (.exit 2)))) (.seq (.post [5, 7] (.block 3 (.seq (.post [5, 7, 82] (.region weftref15_Compare.r9)) (.post [5, 7] (.cond (.t 82) (.seq (.post [4] (.region weftref15_Compare.r10)) (.ret)) (.skip)))))) (.post [5, 7] (.region weftref15_Compare.r11)))
def weftref15_Compare.r12 : List AStep := [
  ⟨some 4, none, .op (.mov (.c (.i .i64 0)))⟩]
def weftref15_Compare : AFunc := ⟨87, [.t 4], .seq (.post [2, 3] (.region weftref15_Compare.r0)) (.seq (.post [2, 3, 5] (.draw [0, 1, 0, 4, 15, 0, 32, 0, 128, 511, 0, 1024, 0, 4096, 16383, 0, 32768, 0, 131072, 524287, 0, 1048576, 0, 4194304, 16777215, 33554431, 67108863] weftref15_Compare.r1)) (.seq (.seq (.post [2, 3, 5, 6] (.region weftref15_Compare.r2)) (.post [2, 3, 5] (.block 0 (.loop weftref15_Compare.l0)))) (.seq (.post [5] (.region weftref15_Compare.r6)) (.seq (.seq (.post [5, 7] (.region weftref15_Compare.r7)) (.post [] (.block 2 (.loop weftref15_Compare.l1)))) (.seq (.post [4] (.region weftref15_Compare.r12)) (.ret))))))⟩
theorem weftref15_Compare.ok : okFunc Tryz.prog Tryz.f35 weftref15_Compare = true := by kernel_rfl
theorem weftref15_Compare.at : Tryz.prog.funcs[n_weftref15_Compare]? = some Tryz.f35 := Tryz.func35
def weftref15_Check.r0 : List AStep := [
  ⟨some 1, none, .op (.boxf (.t 0))⟩,
  ⟨some 2, none, .op (.mov (.c (.i .i64 0)))⟩]
def weftref15_Check.r1 : List AStep := [
  ⟨some 9, none, .op (.fadr 0 (.t 1))⟩,
  ⟨some 10, none, .op (.load false 1 (.t 9))⟩,
  ⟨some 11, none, .op (.len false (.t 10))⟩,
  ⟨some 12, none, .op (.bin .gtr (.t 11) (.c (.i .i64 600)))⟩,
  ⟨some 13, none, .op (.mov (.t 12))⟩,
  ⟨some 14, (some (13, false)), .op (.fadr 1 (.t 1))⟩,
  ⟨some 15, (some (13, false)), .op (.load false 1 (.t 14))⟩,
  ⟨some 16, (some (13, false)), .op (.len false (.t 15))⟩,
  ⟨some 17, (some (13, false)), .op (.bin .gtr (.t 16) (.c (.i .i64 600)))⟩,
  ⟨some 18, none, .op (.pick (.t 13) (.c (.b true)) (.t 17))⟩,
  ⟨some 19, none, .op (.mov (.t 18))⟩,
  ⟨some 20, (some (19, false)), .op (.fadr 2 (.t 1))⟩,
  ⟨some 21, (some (19, false)), .op (.load false 1 (.t 20))⟩,
  ⟨some 22, (some (19, false)), .op (.len false (.t 21))⟩,
  ⟨some 23, (some (19, false)), .op (.bin .gtr (.t 22) (.c (.i .i64 6000)))⟩,
  ⟨some 24, none, .op (.pick (.t 19) (.c (.b true)) (.t 23))⟩]
def weftref15_Check.r2 : List AStep := [
  ⟨some 2, none, .op (.mov (.c (.i .i64 4)))⟩]
def weftref15_Check.r3 : List AStep := [
  ⟨some 3, none, .op (.mov (.c (.i .i64 0)))⟩]
def weftref15_Check.r4 : List AStep := [
  ⟨some 25, none, .op (.mov (.t 3))⟩,
  ⟨some 26, none, .op (.fadr 0 (.t 1))⟩,
  ⟨some 27, none, .op (.load false 1 (.t 26))⟩,
  ⟨some 28, none, .op (.len false (.t 27))⟩,
  ⟨some 29, none, .op (.bin .lss (.t 25) (.t 28))⟩]
def weftref15_Check.r5 : List AStep := [
  ⟨some 32, none, .op (.fadr 0 (.t 1))⟩,
  ⟨some 33, none, .op (.load false 1 (.t 32))⟩,
  ⟨some 34, none, .op (.mov (.t 3))⟩,
  ⟨some 35, none, .op (.iad 3 (.t 33) (.t 34))⟩,
  ⟨some 36, none, .op (.load true 3 (.t 35))⟩,
  ⟨some 37, none, .call n_weftref15_object [.t 36]⟩,
  ⟨some 4, none, .op (.mov (.t 37))⟩]
def weftref15_Check.r6 : List AStep := [
  ⟨some 38, none, .op (.mov (.t 4))⟩,
  ⟨some 39, none, .op (.bin .neq (.t 38) (.c (.i .i64 0)))⟩]
def weftref15_Check.r7 : List AStep := [
  ⟨some 40, none, .op (.mov (.t 4))⟩,
  ⟨some 2, none, .op (.mov (.t 40))⟩]
def weftref15_Check.r8 : List AStep := [
  ⟨some 41, none, .op (.mov (.t 3))⟩,
  ⟨some 42, none, .op (.bin .gtr (.t 41) (.c (.i .i64 0)))⟩,
  ⟨some 43, none, .op (.mov (.t 42))⟩,
  ⟨some 44, (some (43, true)), .op (.fadr 0 (.t 1))⟩,
  ⟨some 45, (some (43, true)), .op (.load false 1 (.t 44))⟩,
  ⟨some 46, (some (43, true)), .op (.mov (.t 3))⟩,
  ⟨some 47, (some (43, true)), .op (.bin .sub (.t 46) (.c (.i .i64 1)))⟩,
  ⟨some 48, (some (43, true)), .op (.iad 3 (.t 45) (.t 47))⟩,
  ⟨some 49, (some (43, true)), .op (.fadr 0 (.t 48))⟩,
  ⟨some 50, (some (43, true)), .op (.load false 1 (.t 49))⟩,
  ⟨some 51, (some (43, true)), .op (.fadr 0 (.t 1))⟩,
  ⟨some 52, (some (43, true)), .op (.load false 1 (.t 51))⟩,
  ⟨some 53, (some (43, true)), .op (.mov (.t 3))⟩,
  ⟨some 54, (some (43, true)), .op (.iad 3 (.t 52) (.t 53))⟩,
  ⟨some 55, (some (43, true)), .op (.fadr 0 (.t 54))⟩,
  ⟨some 56, (some (43, true)), .op (.load false 1 (.t 55))⟩,
  ⟨some 57, (some (43, true)), .op (.bin .geq (.t 50) (.t 56))⟩,
  ⟨some 58, none, .op (.pick (.t 43) (.t 57) (.c (.b false)))⟩]
def weftref15_Check.r9 : List AStep := [
  ⟨some 2, none, .op (.mov (.c (.i .i64 13)))⟩]
def weftref15_Check.r10 : List AStep := [
  ⟨some 30, none, .op (.mov (.t 3))⟩,
  ⟨some 31, none, .op (.bin .add (.t 30) (.c (.i .i64 1)))⟩,
  ⟨some 3, none, .op (.mov (.t 31))⟩]
def weftref15_Check.l0 : ACode := .seq (.seq (.post [1, 3, 29] (.region weftref15_Check.r4)) (.post [1, 3] (.cond (.t 29) (.skip) (.exit 0)))) (.seq (.post [1, 3] (.block 1 (.seq (.post [1, 3, 4] (.region weftref15_Check.r5)) (.seq (.seq (.post [1, 3, 4, 39] (.region weftref15_Check.r6)) (.post [1, 3] (.cond (.t 39) (.seq (.post [2] (.region weftref15_Check.r7)) (.ret)) (.skip)))) (.seq (.post [1, 3, 58] (.draw [0, 1, 3, 7, 15, 7, 39, 127, 255, 511, 7, 1031, 7, 7175, 15367, 31751, 65535, 131071] weftref15_Check.r8)) (.post [1, 3] (.cond (.t 58) (.seq (.post [2] (.region weftref15_Check.r9)) (.ret)) (.skip)))))))) (.post [1, 3] (.region weftref15_Check.r10)))
def weftref15_Check.r11 : List AStep := [
  ⟨some 5, none, .op (.mov (.c (.i .i64 0)))⟩]
def weftref15_Check.r12 : List AStep := [
  ⟨some 59, none, .op (.mov (.t 5))⟩,
  ⟨some 60, none, .op (.fadr 1 (.t 1))⟩,
  ⟨some 61, none, .op (.load false 1 (.t 60))⟩,
  ⟨some 62, none, .op (.len false (.t 61))⟩,
  ⟨some 63, none, .op (.bin .lss (.t 59) (.t 62))⟩]
def weftref15_Check.r13 : List AStep := [
  ⟨some 66, none, .op (.fadr 1 (.t 1))⟩,
  ⟨some 67, none, .op (.load false 1 (.t 66))⟩,
  ⟨some 68, none, .op (.mov (.t 5))⟩,
  ⟨some 69, none, .op (.iad 3 (.t 67) (.t 68))⟩,
  ⟨some 70, none, .op (.load true 3 (.t 69))⟩,
  ⟨some 71, none, .call n_weftref15_function [.t 70]⟩,
  ⟨some 6, none, .op (.mov (.t 71))⟩]
def weftref15_Check.r14 : List AStep := [
  ⟨some 72, none, .op (.mov (.t 6))⟩,
  ⟨some 73, none, .op (.bin .neq (.t 72) (.c (.i .i64 0)))⟩]
def weftref15_Check.r15 : List AStep := [
  ⟨some 74, none, .op (.mov (.t 6))⟩,
  ⟨some 2, none, .op (.mov (.t 74))⟩]
def weftref15_Check.r16 : List AStep := [
  ⟨some 75, none, .op (.mov (.t 5))⟩,
  ⟨some 76, none, .op (.bin .gtr (.t 75) (.c (.i .i64 0)))⟩,
  ⟨some 77, none, .op (.mov (.t 76))⟩,
  ⟨some 78, (some (77, true)), .op (.fadr 1 (.t 1))⟩,
  ⟨some 79, (some (77, true)), .op (.load false 1 (.t 78))⟩,
  ⟨some 80, (some (77, true)), .op (.mov (.t 5))⟩,
  ⟨some 81, (some (77, true)), .op (.bin .sub (.t 80) (.c (.i .i64 1)))⟩,
  ⟨some 82, (some (77, true)), .op (.iad 3 (.t 79) (.t 81))⟩,
  ⟨some 83, (some (77, true)), .op (.fadr 0 (.t 82))⟩,
  ⟨some 84, (some (77, true)), .op (.load false 1 (.t 83))⟩,
  ⟨some 85, (some (77, true)), .op (.fadr 1 (.t 1))⟩,
  ⟨some 86, (some (77, true)), .op (.load false 1 (.t 85))⟩,
  ⟨some 87, (some (77, true)), .op (.mov (.t 5))⟩,
  ⟨some 88, (some (77, true)), .op (.iad 3 (.t 86) (.t 87))⟩,
  ⟨some 89, (some (77, true)), .op (.fadr 0 (.t 88))⟩,
  ⟨some 90, (some (77, true)), .op (.load false 1 (.t 89))⟩,
  ⟨some 91, (some (77, true)), .op (.bin .geq (.t 84) (.t 90))⟩,
  ⟨some 92, none, .op (.pick (.t 77) (.t 91) (.c (.b false)))⟩]
def weftref15_Check.r17 : List AStep := [
  ⟨some 2, none, .op (.mov (.c (.i .i64 13)))⟩]
def weftref15_Check.r18 : List AStep := [
  ⟨some 64, none, .op (.mov (.t 5))⟩,
  ⟨some 65, none, .op (.bin .add (.t 64) (.c (.i .i64 1)))⟩,
  ⟨some 5, none, .op (.mov (.t 65))⟩]
def weftref15_Check.l1 : ACode := .seq (.seq (.post [1, 5, 63] (.region weftref15_Check.r12)) (.post [1, 5] (.cond (.t 63) (.skip) (.exit 2)))) (.seq (.post [1, 5] (.block 3 (.seq (.post [1, 5, 6] (.region weftref15_Check.r13)) (.seq (.seq (.post [1, 5, 6, 73] (.region weftref15_Check.r14)) (.post [1, 5] (.cond (.t 73) (.seq (.post [2] (.region weftref15_Check.r15)) (.ret)) (.skip)))) (.seq (.post [1, 5, 92] (.draw [0, 1, 3, 7, 15, 7, 39, 127, 255, 511, 7, 1031, 7, 7175, 15367, 31751, 65535, 131071] weftref15_Check.r16)) (.post [1, 5] (.cond (.t 92) (.seq (.post [2] (.region weftref15_Check.r17)) (.ret)) (.skip)))))))) (.post [1, 5] (.region weftref15_Check.r18)))
def weftref15_Check.r19 : List AStep := [
  ⟨some 7, none, .op (.mov (.c (.i .i64 0)))⟩]
def weftref15_Check.r20 : List AStep := [
  ⟨some 93, none, .op (.mov (.t 7))⟩,
  ⟨some 94, none, .op (.fadr 2 (.t 1))⟩,
  ⟨some 95, none, .op (.load false 1 (.t 94))⟩,
  ⟨some 96, none, .op (.len false (.t 95))⟩,
  ⟨some 97, none, .op (.bin .lss (.t 93) (.t 96))⟩]
def weftref15_Check.r21 : List AStep := [
  ⟨some 100, none, .op (.fadr 2 (.t 1))⟩,
  ⟨some 101, none, .op (.load false 1 (.t 100))⟩,
  ⟨some 102, none, .op (.mov (.t 7))⟩,
  ⟨some 103, none, .op (.iad 6 (.t 101) (.t 102))⟩,
  ⟨some 104, none, .op (.load true 6 (.t 103))⟩,
  ⟨some 105, none, .call n_weftref15_Con [.t 104]⟩,
  ⟨some 8, none, .op (.mov (.t 105))⟩]
def weftref15_Check.r22 : List AStep := [
  ⟨some 106, none, .op (.mov (.t 8))⟩,
  ⟨some 107, none, .op (.bin .neq (.t 106) (.c (.i .i64 0)))⟩]
def weftref15_Check.r23 : List AStep := [
  ⟨some 108, none, .op (.mov (.t 8))⟩,
  ⟨some 2, none, .op (.mov (.t 108))⟩]
def weftref15_Check.r24 : List AStep := [
  ⟨some 109, none, .op (.mov (.t 7))⟩,
  ⟨some 110, none, .op (.bin .gtr (.t 109) (.c (.i .i64 0)))⟩,
  ⟨some 111, none, .op (.mov (.t 110))⟩,
  ⟨some 112, (some (111, true)), .op (.fadr 2 (.t 1))⟩,
  ⟨some 113, (some (111, true)), .op (.load false 1 (.t 112))⟩,
  ⟨some 114, (some (111, true)), .op (.mov (.t 7))⟩,
  ⟨some 115, (some (111, true)), .op (.bin .sub (.t 114) (.c (.i .i64 1)))⟩,
  ⟨some 116, (some (111, true)), .op (.iad 6 (.t 113) (.t 115))⟩,
  ⟨some 117, (some (111, true)), .op (.load true 6 (.t 116))⟩,
  ⟨some 118, (some (111, true)), .op (.fadr 2 (.t 1))⟩,
  ⟨some 119, (some (111, true)), .op (.load false 1 (.t 118))⟩,
  ⟨some 120, (some (111, true)), .op (.mov (.t 7))⟩,
  ⟨some 121, (some (111, true)), .op (.iad 6 (.t 119) (.t 120))⟩,
  ⟨some 122, (some (111, true)), .op (.load true 6 (.t 121))⟩,
  ⟨some 123, (some (111, true)), .call n_weftref15_Compare [.t 117, .t 122]⟩,
  ⟨some 124, (some (111, true)), .op (.bin .geq (.t 123) (.c (.i .i64 0)))⟩,
  ⟨some 125, none, .op (.pick (.t 111) (.t 124) (.c (.b false)))⟩]
def weftref15_Check.r25 : List AStep := [
  ⟨some 2, none, .op (.mov (.c (.i .i64 13)))⟩]
def weftref15_Check.r26 : List AStep := [
  ⟨some 98, none, .op (.mov (.t 7))⟩,
  ⟨some 99, none, .op (.bin .add (.t 98) (.c (.i .i64 1)))⟩,
  ⟨some 7, none, .op (.mov (.t 99))⟩]
def weftref15_Check.l2 : ACode := .seq (.seq (.post [1, 7, 97] (.region weftref15_Check.r20)) (.post [1, 7] (.cond (.t 97) (.skip) (.exit 4)))) (.seq (.post [1, 7] (.block 5 (.seq (.post [1, 7, 8] (.region weftref15_Check.r21)) (.seq (.seq (.post [1, 7, 8, 107] (.region weftref15_Check.r22)) (.post [1, 7] (.cond (.t 107) (.seq (.post [2] (.region weftref15_Check.r23)) (.ret)) (.skip)))) (.seq (.post [1, 7, 125] (.draw [0, 1, 3, 7, 15, 7, 39, 127, 255, 7, 519, 7, 3591, 7687, 16383, 32767, 65535] weftref15_Check.r24)) (.post [1, 7] (.cond (.t 125) (.seq (.post [2] (.region weftref15_Check.r25)) (.ret)) (.skip)))))))) (.post [1, 7] (.region weftref15_Check.r26)))
def weftref15_Check.r27 : List AStep := [
  ⟨some 2, none, .op (.mov (.c (.i .i64 0)))⟩]
def weftref15_Check : AFunc := ⟨126, [.t 2], .seq (.post [1] (.region weftref15_Check.r0)) (.seq (.seq (.post [1, 24] (.region weftref15_Check.r1)) (.post [1] (.cond (.t 24) (.seq (.post [2] (.region weftref15_Check.r2)) (.ret)) (.skip)))) (.seq (.seq (.post [1, 3] (.region weftref15_Check.r3)) (.post [1] (.block 0 (.loop weftref15_Check.l0)))) (.seq (.seq (.post [1, 5] (.region weftref15_Check.r11)) (.post [1] (.block 2 (.loop weftref15_Check.l1)))) (.seq (.seq (.post [1, 7] (.region weftref15_Check.r19)) (.post [] (.block 4 (.loop weftref15_Check.l2)))) (.seq (.post [2] (.region weftref15_Check.r27)) (.ret))))))⟩
theorem weftref15_Check.ok : okFunc Tryz.prog Tryz.f15 weftref15_Check = true := by kernel_rfl
theorem weftref15_Check.at : Tryz.prog.funcs[n_weftref15_Check]? = some Tryz.f15 := Tryz.func15
def weftref05_Into.r0 : List AStep := [
  ⟨some 4, none, .op (.mov (.c (.sl none 0 0)))⟩]
def weftref05_Into.r1 : List AStep := [
  ⟨some 5, none, .op (.mov (.c (.i .i64 0)))⟩]
def weftref05_Into.r2 : List AStep := [
  ⟨some 7, none, .op (.mov (.t 5))⟩,
  ⟨some 8, none, .op (.mov (.t 0))⟩,
  ⟨some 9, none, .op (.len false (.t 8))⟩,
  ⟨some 10, none, .op (.bin .lss (.t 7) (.t 9))⟩,
  ⟨some 11, none, .op (.mov (.t 10))⟩,
  ⟨some 12, (some (11, true)), .op (.mov (.t 0))⟩,
  ⟨some 13, (some (11, true)), .op (.mov (.t 5))⟩,
  ⟨some 14, (some (11, true)), .op (.iad 1 (.t 12) (.t 13))⟩,
  ⟨some 15, (some (11, true)), .op (.load false 1 (.t 14))⟩,
  ⟨some 16, (some (11, true)), .op (.mov (.t 1))⟩,
  ⟨some 17, (some (11, true)), .op (.bin .lss (.t 15) (.t 16))⟩,
  ⟨some 18, none, .op (.pick (.t 11) (.t 17) (.c (.b false)))⟩]
def weftref05_Into.r3 : List AStep := [
  ⟨some 19, none, .op (.mov (.t 5))⟩,
  ⟨some 20, none, .op (.bin .add (.t 19) (.c (.i .i64 1)))⟩,
  ⟨some 5, none, .op (.mov (.t 20))⟩]
def weftref05_Into.l0 : ACode := .seq (.seq (.post [0, 1, 5, 18] (.region weftref05_Into.r2)) (.post [0, 1, 5] (.cond (.t 18) (.skip) (.exit 0)))) (.post [0, 1, 5] (.block 1 (.post [0, 1, 5] (.region weftref05_Into.r3))))
def weftref05_Into.r4 : List AStep := [
  ⟨some 21, none, .op (.mov (.t 5))⟩,
  ⟨some 22, none, .op (.mov (.t 0))⟩,
  ⟨some 23, none, .op (.len false (.t 22))⟩,
  ⟨some 24, none, .op (.bin .lss (.t 21) (.t 23))⟩,
  ⟨some 25, none, .op (.mov (.t 24))⟩,
  ⟨some 26, (some (25, true)), .op (.mov (.t 0))⟩,
  ⟨some 27, (some (25, true)), .op (.mov (.t 5))⟩,
  ⟨some 28, (some (25, true)), .op (.iad 1 (.t 26) (.t 27))⟩,
  ⟨some 29, (some (25, true)), .op (.load false 1 (.t 28))⟩,
  ⟨some 30, (some (25, true)), .op (.mov (.t 1))⟩,
  ⟨some 31, (some (25, true)), .op (.bin .eql (.t 29) (.t 30))⟩,
  ⟨some 32, none, .op (.pick (.t 25) (.t 31) (.c (.b false)))⟩]
def weftref05_Into.r5 : List AStep := [
  ⟨some 33, none, .op (.mov (.t 0))⟩,
  ⟨some 4, none, .op (.mov (.t 33))⟩]
def weftref05_Into.r6 : List AStep := [
  ⟨some 34, none, .op (.bz 1)⟩,
  ⟨some 35, none, .op (.mov (.t 0))⟩,
  ⟨some 36, none, .op (.mov (.t 5))⟩,
  ⟨some 37, none, .op (.slc 1 (.t 35) none (some (.t 36)))⟩,
  ⟨some 38, none, .op (.app 1 16 (.t 34) (.t 37))⟩,
  ⟨some 6, none, .op (.mov (.t 38))⟩]
def weftref05_Into.r7 : List AStep := [
  ⟨some 39, none, .op (.mov (.t 6))⟩,
  ⟨some 40, none, .op (.mov (.t 1))⟩,
  ⟨some 41, none, .op (.bfz 1 1 [.s []] [(0, 1, .t 40)])⟩,
  ⟨some 42, none, .op (.app 1 16 (.t 39) (.t 41))⟩,
  ⟨some 6, none, .op (.mov (.t 42))⟩]
def weftref05_Into.r8 : List AStep := [
  ⟨some 43, none, .op (.mov (.t 6))⟩,
  ⟨some 44, none, .op (.mov (.t 0))⟩,
  ⟨some 45, none, .op (.mov (.t 5))⟩,
  ⟨some 46, none, .op (.slc 1 (.t 44) (some (.t 45)) none)⟩,
  ⟨some 47, none, .op (.app 1 16 (.t 43) (.t 46))⟩,
  ⟨some 4, none, .op (.mov (.t 47))⟩]
def weftref05_Into : AFunc := ⟨48, [.t 4], .seq (.post [0, 1] (.region weftref05_Into.r0)) (.seq (.post [0, 1, 5] (.region weftref05_Into.r1)) (.seq (.post [0, 1, 5] (.block 0 (.loop weftref05_Into.l0))) (.seq (.seq (.post [0, 1, 5, 32] (.region weftref05_Into.r4)) (.post [0, 1, 5] (.cond (.t 32) (.seq (.post [4] (.region weftref05_Into.r5)) (.ret)) (.skip)))) (.seq (.post [0, 1, 5, 6] (.region weftref05_Into.r6)) (.seq (.post [0, 5, 6] (.region weftref05_Into.r7)) (.seq (.post [4] (.region weftref05_Into.r8)) (.ret)))))))⟩
theorem weftref05_Into.ok : okFunc Tryz.prog Tryz.f18 weftref05_Into = true := by kernel_rfl
theorem weftref05_Into.at : Tryz.prog.funcs[n_weftref05_Into]? = some Tryz.f18 := Tryz.func18
def weftref14_Cell.r0 : List AStep := [
  ⟨some 4, none, .op (.mov (.c (.s [])))⟩]
def weftref14_Cell.r1 : List AStep := [
  ⟨some 10, none, .op (.mov (.t 0))⟩,
  ⟨some 11, none, .call n_weftref14_Read [.t 10]⟩,
  ⟨some 9, none, .op (.mov (.t 11))⟩,
  ⟨some 12, none, .op (.ext 0 (.t 9))⟩,
  ⟨some 13, none, .op (.ext 1 (.t 9))⟩,
  ⟨some 5, none, .op (.new [.i .i64 0, .s [], .i .i64 0, .s [], .i .i64 0, .i .i64 0])⟩,
  ⟨none, none, .op (.store 6 (.t 5) (.t 12))⟩,
  ⟨some 6, none, .op (.mov (.t 13))⟩]
def weftref14_Cell.r2 : List AStep := [
  ⟨some 14, none, .op (.mov (.t 6))⟩,
  ⟨some 15, none, .op (.bin .neq (.t 14) (.c (.i .i64 0)))⟩,
  ⟨some 16, none, .op (.mov (.t 15))⟩,
  ⟨some 17, (some (16, false)), .op (.fadr 0 (.t 5))⟩,
  ⟨some 18, (some (16, false)), .op (.load false 1 (.t 17))⟩,
  ⟨some 19, (some (16, false)), .op (.bin .lss (.t 18) (.c (.i .i64 5)))⟩,
  ⟨some 20, none, .op (.pick (.t 16) (.c (.b true)) (.t 19))⟩,
  ⟨some 21, none, .op (.mov (.t 20))⟩,
  ⟨some 22, (some (21, false)), .op (.fadr 5 (.t 5))⟩,
  ⟨some 23, (some (21, false)), .op (.load false 1 (.t 22))⟩,
  ⟨some 24, (some (21, false)), .op (.bin .neq (.t 23) (.c (.i .i64 (-1))))⟩,
  ⟨some 25, none, .op (.pick (.t 21) (.c (.b true)) (.t 24))⟩,
  ⟨some 26, none, .op (.mov (.t 25))⟩,
  ⟨some 27, (some (26, false)), .op (.mov (.t 1))⟩,
  ⟨some 28, (some (26, false)), .op (.bin .lss (.t 27) (.c (.i .i64 0)))⟩,
  ⟨some 29, none, .op (.pick (.t 26) (.c (.b true)) (.t 28))⟩]
def weftref14_Cell.r3 : List AStep := [
  ⟨some 4, none, .op (.mov (.c (.s [])))⟩]
def weftref14_Cell.r4 : List AStep := [
  ⟨some 30, none, .op (.mov (.t 1))⟩,
  ⟨some 31, none, .op (.fadr 5 (.t 5))⟩,
  ⟨none, none, .op (.store 1 (.t 31) (.t 30))⟩]
def weftref14_Cell.r5 : List AStep := [
  ⟨some 33, none, .op (.load true 6 (.t 5))⟩,
  ⟨some 34, none, .call n_weftref14_Text [.t 33]⟩,
  ⟨some 32, none, .op (.mov (.t 34))⟩,
  ⟨some 35, none, .op (.ext 0 (.t 32))⟩,
  ⟨some 36, none, .op (.ext 1 (.t 32))⟩,
  ⟨some 7, none, .op (.mov (.t 35))⟩,
  ⟨some 8, none, .op (.mov (.t 36))⟩]
def weftref14_Cell.r6 : List AStep := [
  ⟨some 37, none, .op (.mov (.t 7))⟩,
  ⟨some 4, none, .op (.mov (.t 37))⟩]
def weftref14_Cell : AFunc := ⟨38, [.t 4], .seq (.post [0, 1] (.region weftref14_Cell.r0)) (.seq (.post [1, 5, 6] (.region weftref14_Cell.r1)) (.seq (.seq (.post [1, 5, 29] (.region weftref14_Cell.r2)) (.post [1, 5] (.cond (.t 29) (.seq (.post [4] (.region weftref14_Cell.r3)) (.ret)) (.skip)))) (.seq (.post [5] (.region weftref14_Cell.r4)) (.seq (.post [7] (.region weftref14_Cell.r5)) (.seq (.post [4] (.region weftref14_Cell.r6)) (.ret))))))⟩
theorem weftref14_Cell.ok : okFunc Tryz.prog Tryz.f60 weftref14_Cell = true := by kernel_rfl
theorem weftref14_Cell.at : Tryz.prog.funcs[n_weftref14_Cell]? = some Tryz.f60 := Tryz.func60
def weftref15_Cells.r0 : List AStep := [
  ⟨some 2, none, .op (.boxf (.t 0))⟩,
  ⟨some 4, none, .op (.mov (.c (.sl none 0 0)))⟩]
def weftref15_Cells.r1 : List AStep := [
  ⟨some 5, none, .op (.mov (.c (.sl none 0 0)))⟩]
def weftref15_Cells.r2 : List AStep := [
  ⟨some 6, none, .op (.mov (.c (.i .i64 0)))⟩]
def weftref15_Cells.r3 : List AStep := [
  ⟨some 7, none, .op (.mov (.t 6))⟩,
  ⟨some 8, none, .op (.fadr 1 (.t 2))⟩,
  ⟨some 9, none, .op (.load false 1 (.t 8))⟩,
  ⟨some 10, none, .op (.len true (.t 9))⟩,
  ⟨some 11, none, .op (.bin .lss (.t 7) (.t 10))⟩]
def weftref15_Cells.r4 : List AStep := [
  ⟨some 14, none, .op (.mov (.t 1))⟩,
  ⟨some 15, none, .op (.bin .eql (.t 14) (.c (.i .u8 0)))⟩,
  ⟨some 16, none, .op (.mov (.t 15))⟩,
  ⟨some 17, (some (16, false)), .op (.fadr 1 (.t 2))⟩,
  ⟨some 18, (some (16, false)), .op (.load false 1 (.t 17))⟩,
  ⟨some 19, (some (16, false)), .op (.mov (.t 6))⟩,
  ⟨some 20, (some (16, false)), .op (.idx (.t 18) (.t 19))⟩,
  ⟨some 21, (some (16, false)), .op (.mov (.t 1))⟩,
  ⟨some 22, (some (16, false)), .op (.bin .eql (.t 20) (.t 21))⟩,
  ⟨some 23, none, .op (.pick (.t 16) (.c (.b true)) (.t 22))⟩]
def weftref15_Cells.r5 : List AStep := [
  ⟨some 24, none, .op (.mov (.t 5))⟩,
  ⟨some 25, none, .op (.fadr 0 (.t 2))⟩,
  ⟨some 26, none, .op (.load false 1 (.t 25))⟩,
  ⟨some 27, none, .op (.mov (.t 6))⟩,
  ⟨some 28, none, .call n_weftref14_Cell [.t 26, .t 27]⟩,
  ⟨some 29, none, .op (.bfz 1 1 [.s []] [(0, 1, .t 28)])⟩,
  ⟨some 30, none, .op (.app 1 16 (.t 24) (.t 29))⟩,
  ⟨some 5, none, .op (.mov (.t 30))⟩]
def weftref15_Cells.r6 : List AStep := [
  ⟨some 12, none, .op (.mov (.t 6))⟩,
  ⟨some 13, none, .op (.bin .add (.t 12) (.c (.i .i64 1)))⟩,
  ⟨some 6, none, .op (.mov (.t 13))⟩]
def weftref15_Cells.l0 : ACode := .seq (.seq (.post [1, 2, 5, 6, 11] (.region weftref15_Cells.r3)) (.post [1, 2, 5, 6] (.cond (.t 11) (.skip) (.exit 0)))) (.seq (.post [1, 2, 5, 6] (.block 1 (.seq (.post [1, 2, 5, 6, 23] (.region weftref15_Cells.r4)) (.post [1, 2, 5, 6] (.cond (.t 23) (.post [1, 2, 5, 6] (.region weftref15_Cells.r5)) (.skip)))))) (.post [1, 2, 5, 6] (.region weftref15_Cells.r6)))
def weftref15_Cells.r7 : List AStep := [
  ⟨some 31, none, .op (.mov (.t 5))⟩,
  ⟨some 4, none, .op (.mov (.t 31))⟩]
def weftref15_Cells : AFunc := ⟨32, [.t 4], .seq (.post [1, 2] (.region weftref15_Cells.r0)) (.seq (.post [1, 2, 5] (.region weftref15_Cells.r1)) (.seq (.seq (.post [1, 2, 5, 6] (.region weftref15_Cells.r2)) (.post [5] (.block 0 (.loop weftref15_Cells.l0)))) (.seq (.post [4] (.region weftref15_Cells.r7)) (.ret))))⟩
theorem weftref15_Cells.ok : okFunc Tryz.prog Tryz.f36 weftref15_Cells = true := by kernel_rfl
theorem weftref15_Cells.at : Tryz.prog.funcs[n_weftref15_Cells]? = some Tryz.f36 := Tryz.func36
def weftref15_Nodes.r0 : List AStep := [
  ⟨some 1, none, .op (.boxf (.t 0))⟩,
  ⟨some 2, none, .op (.mov (.c (.sl none 0 0)))⟩]
def weftref15_Nodes.r1 : List AStep := [
  ⟨some 3, none, .op (.mov (.c (.sl none 0 0)))⟩]
def weftref15_Nodes.r2 : List AStep := [
  ⟨some 10, none, .op (.load true 3 (.t 1))⟩,
  ⟨some 11, none, .call n_weftref15_Check [.t 10]⟩,
  ⟨some 12, none, .op (.bin .neq (.t 11) (.c (.i .i64 0)))⟩]
def weftref15_Nodes.r3 : List AStep := [
  ⟨some 2, none, .op (.mov (.c (.sl none 0 0)))⟩]
def weftref15_Nodes.r4 : List AStep := [
  ⟨some 4, none, .op (.mov (.c (.i .i64 0)))⟩]
def weftref15_Nodes.r5 : List AStep := [
  ⟨some 13, none, .op (.mov (.t 4))⟩,
  ⟨some 14, none, .op (.fadr 2 (.t 1))⟩,
  ⟨some 15, none, .op (.load false 1 (.t 14))⟩,
  ⟨some 16, none, .op (.len false (.t 15))⟩,
  ⟨some 17, none, .op (.bin .lss (.t 13) (.t 16))⟩]
def weftref15_Nodes.r6 : List AStep := [
  ⟨some 20, none, .op (.fadr 2 (.t 1))⟩,
  ⟨some 21, none, .op (.load false 1 (.t 20))⟩,
  ⟨some 22, none, .op (.mov (.t 4))⟩,
  ⟨some 23, none, .op (.iad 6 (.t 21) (.t 22))⟩,
  ⟨some 24, none, .op (.load true 6 (.t 23))⟩,
  ⟨some 5, none, .op (.new [.i .i64 0, .s [], .s [], .i .i64 0, .s [], .sl none 0 0])⟩,
  ⟨none, none, .op (.store 6 (.t 5) (.t 24))⟩]
def weftref15_Nodes.r7 : List AStep := [
  ⟨some 25, none, .op (.mov (.t 3))⟩,
  ⟨some 26, none, .op (.fadr 1 (.t 5))⟩,
  ⟨some 27, none, .op (.load false 1 (.t 26))⟩,
  ⟨some 28, none, .call n_weftref05_Into [.t 25, .t 27]⟩,
  ⟨some 3, none, .op (.mov (.t 28))⟩]
def weftref15_Nodes.r8 : List AStep := [
  ⟨some 29, none, .op (.fadr 0 (.t 5))⟩,
  ⟨some 30, none, .op (.load false 1 (.t 29))⟩,
  ⟨some 31, none, .op (.bin .neq (.t 30) (.c (.i .i64 1)))⟩]
def weftref15_Nodes.r9 : List AStep := [
  ⟨some 32, none, .op (.mov (.t 3))⟩,
  ⟨some 33, none, .op (.fadr 2 (.t 5))⟩,
  ⟨some 34, none, .op (.load false 1 (.t 33))⟩,
  ⟨some 35, none, .call n_weftref05_Into [.t 32, .t 34]⟩,
  ⟨some 3, none, .op (.mov (.t 35))⟩]
def weftref15_Nodes.r10 : List AStep := [
  ⟨some 6, none, .op (.mov (.c (.i .i64 0)))⟩]
def weftref15_Nodes.r11 : List AStep := [
  ⟨some 36, none, .op (.mov (.t 6))⟩,
  ⟨some 37, none, .op (.fadr 5 (.t 5))⟩,
  ⟨some 38, none, .op (.load false 1 (.t 37))⟩,
  ⟨some 39, none, .op (.len false (.t 38))⟩,
  ⟨some 40, none, .op (.bin .lss (.t 36) (.t 39))⟩]
def weftref15_Nodes.r12 : List AStep := [
  ⟨some 43, none, .op (.fadr 5 (.t 5))⟩,
  ⟨some 44, none, .op (.load false 1 (.t 43))⟩,
  ⟨some 45, none, .op (.mov (.t 6))⟩,
  ⟨some 46, none, .op (.iad 1 (.t 44) (.t 45))⟩,
  ⟨some 47, none, .op (.load false 1 (.t 46))⟩,
  ⟨some 48, none, .op (.bin .neq (.t 47) (.c (.s [])))⟩]
def weftref15_Nodes.r13 : List AStep := [
  ⟨some 49, none, .op (.mov (.t 3))⟩,
  ⟨some 50, none, .op (.fadr 5 (.t 5))⟩,
  ⟨some 51, none, .op (.load false 1 (.t 50))⟩,
  ⟨some 52, none, .op (.mov (.t 6))⟩,
  ⟨some 53, none, .op (.iad 1 (.t 51) (.t 52))⟩,
  ⟨some 54, none, .op (.load false 1 (.t 53))⟩,
  ⟨some 55, none, .call n_weftref05_Into [.t 49, .t 54]⟩,
  ⟨some 3, none, .op (.mov (.t 55))⟩]
def weftref15_Nodes.r14 : List AStep := [
  ⟨some 41, none, .op (.mov (.t 6))⟩,
  ⟨some 42, none, .op (.bin .add (.t 41) (.c (.i .i64 1)))⟩,
  ⟨some 6, none, .op (.mov (.t 42))⟩]
def weftref15_Nodes.l1 : ACode := .seq (.seq (.post [1, 3, 4, 5, 6, 40] (.region weftref15_Nodes.r11)) (.post [1, 3, 4, 5, 6] (.cond (.t 40) (.skip) (.exit 2)))) (.seq (.post [1, 3, 4, 5, 6] (.block 3 (.seq (.post [1, 3, 4, 5, 6, 48] (.region weftref15_Nodes.r12)) (.post [1, 3, 4, 5, 6] (.cond (.t 48) (.post [1, 3, 4, 5, 6] (.region weftref15_Nodes.r13)) (.skip)))))) (.post [1, 3, 4, 5, 6] (.region weftref15_Nodes.r14)))
def weftref15_Nodes.r15 : List AStep := [
  ⟨some 18, none, .op (.mov (.t 4))⟩,
  ⟨some 19, none, .op (.bin .add (.t 18) (.c (.i .i64 1)))⟩,
  ⟨some 4, none, .op (.mov (.t 19))⟩]
def weftref15_Nodes.l0 : ACode := .seq (.seq (.post [1, 3, 4, 17] (.region weftref15_Nodes.r5)) (.post [1, 3, 4] (.cond (.t 17) (.skip) (.exit 0)))) (.seq (.post [1, 3, 4] (.block 1 (.seq (.post [1, 3, 4, 5] (.region weftref15_Nodes.r6)) (.seq (.post [1, 3, 4, 5] (.region weftref15_Nodes.r7)) (.seq (.seq (.post [1, 3, 4, 5, 31] (.region weftref15_Nodes.r8)) (.post [1, 3, 4, 5] (.cond (.t 31) (.post [1, 3, 4, 5] (.region weftref15_Nodes.r9)) (.skip)))) (.seq (.post [1, 3, 4, 5, 6] (.region weftref15_Nodes.r10)) (.post [1, 3, 4] (.block 2 (.loop weftref15_Nodes.l1))))))))) (.post [1, 3, 4] (.region weftref15_Nodes.r15)))
def weftref15_Nodes.r16 : List AStep := [
  ⟨some 7, none, .op (.mov (.c (.i .i64 0)))⟩]
def weftref15_Nodes.r17 : List AStep := [
  ⟨some 56, none, .op (.mov (.t 7))⟩,
  ⟨some 57, none, .op (.fadr 0 (.t 1))⟩,
  ⟨some 58, none, .op (.load false 1 (.t 57))⟩,
  ⟨some 59, none, .op (.len false (.t 58))⟩,
  ⟨some 60, none, .op (.bin .lss (.t 56) (.t 59))⟩]
def weftref15_Nodes.r18 : List AStep := [
  ⟨some 63, none, .op (.fadr 0 (.t 1))⟩,
  ⟨some 64, none, .op (.load false 1 (.t 63))⟩,
  ⟨some 65, none, .op (.mov (.t 7))⟩,
  ⟨some 66, none, .op (.iad 3 (.t 64) (.t 65))⟩,
  ⟨some 67, none, .op (.load true 3 (.t 66))⟩,
  ⟨some 68, none, .call n_weftref15_Cells [.t 67, .c (.i .u8 112)]⟩,
  ⟨some 8, none, .op (.mov (.t 68))⟩]
def weftref15_Nodes.r19 : List AStep := [
  ⟨some 9, none, .op (.mov (.c (.i .i64 0)))⟩]
def weftref15_Nodes.r20 : List AStep := [
  ⟨some 69, none, .op (.mov (.t 9))⟩,
  ⟨some 70, none, .op (.mov (.t 8))⟩,
  ⟨some 71, none, .op (.len false (.t 70))⟩,
  ⟨some 72, none, .op (.bin .lss (.t 69) (.t 71))⟩]
def weftref15_Nodes.r21 : List AStep := [
  ⟨some 75, none, .op (.mov (.t 3))⟩,
  ⟨some 76, none, .op (.mov (.t 8))⟩,
  ⟨some 77, none, .op (.mov (.t 9))⟩,
  ⟨some 78, none, .op (.iad 1 (.t 76) (.t 77))⟩,
  ⟨some 79, none, .op (.load false 1 (.t 78))⟩,
  ⟨some 80, none, .call n_weftref05_Into [.t 75, .t 79]⟩,
  ⟨some 3, none, .op (.mov (.t 80))⟩]
def weftref15_Nodes.r22 : List AStep := [
  ⟨some 73, none, .op (.mov (.t 9))⟩,
  ⟨some 74, none, .op (.bin .add (.t 73) (.c (.i .i64 1)))⟩,
  ⟨some 9, none, .op (.mov (.t 74))⟩]
def weftref15_Nodes.l3 : ACode := .seq (.seq (.post [1, 3, 7, 8, 9, 72] (.region weftref15_Nodes.r20)) (.post [1, 3, 7, 8, 9] (.cond (.t 72) (.skip) (.exit 6)))) (.seq (.post [1, 3, 7, 8, 9] (.block 7 (.post [1, 3, 7, 8, 9] (.region weftref15_Nodes.r21)))) (.post [1, 3, 7, 8, 9] (.region weftref15_Nodes.r22)))
def weftref15_Nodes.r23 : List AStep := [
  ⟨some 61, none, .op (.mov (.t 7))⟩,
  ⟨some 62, none, .op (.bin .add (.t 61) (.c (.i .i64 1)))⟩,
  ⟨some 7, none, .op (.mov (.t 62))⟩]
def weftref15_Nodes.l2 : ACode := .seq (.seq (.post [1, 3, 7, 60] (.region weftref15_Nodes.r17)) (.post [1, 3, 7] (.cond (.t 60) (.skip) (.exit 4)))) (.seq (.post [1, 3, 7] (.block 5 (.seq (.post [1, 3, 7, 8] (.region weftref15_Nodes.r18)) (.seq (.post [1, 3, 7, 8, 9] (.region weftref15_Nodes.r19)) (.post [1, 3, 7] (.block 6 (.loop weftref15_Nodes.l3))))))) (.post [1, 3, 7] (.region weftref15_Nodes.r23)))
def weftref15_Nodes.r24 : List AStep := [
  ⟨some 81, none, .op (.mov (.t 3))⟩,
  ⟨some 2, none, .op (.mov (.t 81))⟩]
def weftref15_Nodes : AFunc := ⟨82, [.t 2], .seq (.post [1] (.region weftref15_Nodes.r0)) (.seq (.post [1, 3] (.region weftref15_Nodes.r1)) (.seq (.seq (.post [1, 3, 12] (.region weftref15_Nodes.r2)) (.post [1, 3] (.cond (.t 12) (.seq (.post [2] (.region weftref15_Nodes.r3)) (.ret)) (.skip)))) (.seq (.seq (.post [1, 3, 4] (.region weftref15_Nodes.r4)) (.post [1, 3] (.block 0 (.loop weftref15_Nodes.l0)))) (.seq (.seq (.post [1, 3, 7] (.region weftref15_Nodes.r16)) (.post [3] (.block 4 (.loop weftref15_Nodes.l2)))) (.seq (.post [2] (.region weftref15_Nodes.r24)) (.ret))))))⟩
theorem weftref15_Nodes.ok : okFunc Tryz.prog Tryz.f16 weftref15_Nodes = true := by kernel_rfl
theorem weftref15_Nodes.at : Tryz.prog.funcs[n_weftref15_Nodes]? = some Tryz.f16 := Tryz.func16
def weftref15_Places.r0 : List AStep := [
  ⟨some 1, none, .op (.boxf (.t 0))⟩,
  ⟨some 2, none, .op (.mov (.c (.sl none 0 0)))⟩]
def weftref15_Places.r1 : List AStep := [
  ⟨some 3, none, .op (.mov (.c (.sl none 0 0)))⟩]
def weftref15_Places.r2 : List AStep := [
  ⟨some 9, none, .op (.load true 3 (.t 1))⟩,
  ⟨some 10, none, .call n_weftref15_Check [.t 9]⟩,
  ⟨some 11, none, .op (.bin .neq (.t 10) (.c (.i .i64 0)))⟩]
def weftref15_Places.r3 : List AStep := [
  ⟨some 2, none, .op (.mov (.c (.sl none 0 0)))⟩]
def weftref15_Places.r4 : List AStep := [
  ⟨some 4, none, .op (.mov (.c (.i .i64 0)))⟩]
def weftref15_Places.r5 : List AStep := [
  ⟨some 12, none, .op (.mov (.t 4))⟩,
  ⟨some 13, none, .op (.fadr 0 (.t 1))⟩,
  ⟨some 14, none, .op (.load false 1 (.t 13))⟩,
  ⟨some 15, none, .op (.len false (.t 14))⟩,
  ⟨some 16, none, .op (.bin .lss (.t 12) (.t 15))⟩]
def weftref15_Places.r6 : List AStep := [
  ⟨some 19, none, .op (.fadr 0 (.t 1))⟩,
  ⟨some 20, none, .op (.load false 1 (.t 19))⟩,
  ⟨some 21, none, .op (.mov (.t 4))⟩,
  ⟨some 22, none, .op (.iad 3 (.t 20) (.t 21))⟩,
  ⟨some 23, none, .op (.load true 3 (.t 22))⟩,
  ⟨some 24, none, .call n_weftref15_Cells [.t 23, .c (.i .u8 0)]⟩,
  ⟨some 5, none, .op (.mov (.t 24))⟩]
def weftref15_Places.r7 : List AStep := [
  ⟨some 6, none, .op (.mov (.c (.i .i64 0)))⟩]
def weftref15_Places.r8 : List AStep := [
  ⟨some 25, none, .op (.mov (.t 6))⟩,
  ⟨some 26, none, .op (.mov (.t 5))⟩,
  ⟨some 27, none, .op (.len false (.t 26))⟩,
  ⟨some 28, none, .op (.bin .lss (.t 25) (.t 27))⟩]
def weftref15_Places.r9 : List AStep := [
  ⟨some 31, none, .op (.mov (.t 3))⟩,
  ⟨some 32, none, .op (.mov (.t 5))⟩,
  ⟨some 33, none, .op (.mov (.t 6))⟩,
  ⟨some 34, none, .op (.iad 1 (.t 32) (.t 33))⟩,
  ⟨some 35, none, .op (.load false 1 (.t 34))⟩,
  ⟨some 36, none, .call n_weftref05_Into [.t 31, .t 35]⟩,
  ⟨some 3, none, .op (.mov (.t 36))⟩]
def weftref15_Places.r10 : List AStep := [
  ⟨some 29, none, .op (.mov (.t 6))⟩,
  ⟨some 30, none, .op (.bin .add (.t 29) (.c (.i .i64 1)))⟩,
  ⟨some 6, none, .op (.mov (.t 30))⟩]
def weftref15_Places.l1 : ACode := .seq (.seq (.post [1, 3, 4, 5, 6, 28] (.region weftref15_Places.r8)) (.post [1, 3, 4, 5, 6] (.cond (.t 28) (.skip) (.exit 2)))) (.seq (.post [1, 3, 4, 5, 6] (.block 3 (.post [1, 3, 4, 5, 6] (.region weftref15_Places.r9)))) (.post [1, 3, 4, 5, 6] (.region weftref15_Places.r10)))
def weftref15_Places.r11 : List AStep := [
  ⟨some 17, none, .op (.mov (.t 4))⟩,
  ⟨some 18, none, .op (.bin .add (.t 17) (.c (.i .i64 1)))⟩,
  ⟨some 4, none, .op (.mov (.t 18))⟩]
def weftref15_Places.l0 : ACode := .seq (.seq (.post [1, 3, 4, 16] (.region weftref15_Places.r5)) (.post [1, 3, 4] (.cond (.t 16) (.skip) (.exit 0)))) (.seq (.post [1, 3, 4] (.block 1 (.seq (.post [1, 3, 4, 5] (.region weftref15_Places.r6)) (.seq (.post [1, 3, 4, 5, 6] (.region weftref15_Places.r7)) (.post [1, 3, 4] (.block 2 (.loop weftref15_Places.l1))))))) (.post [1, 3, 4] (.region weftref15_Places.r11)))
def weftref15_Places.r12 : List AStep := [
  ⟨some 7, none, .op (.mov (.c (.i .i64 0)))⟩]
def weftref15_Places.r13 : List AStep := [
  ⟨some 37, none, .op (.mov (.t 7))⟩,
  ⟨some 38, none, .op (.fadr 1 (.t 1))⟩,
  ⟨some 39, none, .op (.load false 1 (.t 38))⟩,
  ⟨some 40, none, .op (.len false (.t 39))⟩,
  ⟨some 41, none, .op (.bin .lss (.t 37) (.t 40))⟩]
def weftref15_Places.r14 : List AStep := [
  ⟨some 44, none, .op (.mov (.t 3))⟩,
  ⟨some 45, none, .op (.fadr 1 (.t 1))⟩,
  ⟨some 46, none, .op (.load false 1 (.t 45))⟩,
  ⟨some 47, none, .op (.mov (.t 7))⟩,
  ⟨some 48, none, .op (.iad 3 (.t 46) (.t 47))⟩,
  ⟨some 49, none, .op (.fadr 0 (.t 48))⟩,
  ⟨some 50, none, .op (.load false 1 (.t 49))⟩,
  ⟨some 51, none, .call n_weftref05_Into [.t 44, .t 50]⟩,
  ⟨some 3, none, .op (.mov (.t 51))⟩]
def weftref15_Places.r15 : List AStep := [
  ⟨some 42, none, .op (.mov (.t 7))⟩,
  ⟨some 43, none, .op (.bin .add (.t 42) (.c (.i .i64 1)))⟩,
  ⟨some 7, none, .op (.mov (.t 43))⟩]
def weftref15_Places.l2 : ACode := .seq (.seq (.post [1, 3, 7, 41] (.region weftref15_Places.r13)) (.post [1, 3, 7] (.cond (.t 41) (.skip) (.exit 4)))) (.seq (.post [1, 3, 7] (.block 5 (.post [1, 3, 7] (.region weftref15_Places.r14)))) (.post [1, 3, 7] (.region weftref15_Places.r15)))
def weftref15_Places.r16 : List AStep := [
  ⟨some 8, none, .op (.mov (.c (.i .i64 0)))⟩]
def weftref15_Places.r17 : List AStep := [
  ⟨some 52, none, .op (.mov (.t 8))⟩,
  ⟨some 53, none, .op (.fadr 2 (.t 1))⟩,
  ⟨some 54, none, .op (.load false 1 (.t 53))⟩,
  ⟨some 55, none, .op (.len false (.t 54))⟩,
  ⟨some 56, none, .op (.bin .lss (.t 52) (.t 55))⟩]
def weftref15_Places.r18 : List AStep := [
  ⟨some 59, none, .op (.fadr 2 (.t 1))⟩,
  ⟨some 60, none, .op (.load false 1 (.t 59))⟩,
  ⟨some 61, none, .op (.mov (.t 8))⟩,
  ⟨some 62, none, .op (.iad 6 (.t 60) (.t 61))⟩,
  ⟨some 63, none, .op (.fadr 0 (.t 62))⟩,
  ⟨some 64, none, .op (.load false 1 (.t 63))⟩,
  ⟨some 65, none, .op (.bin .eql (.t 64) (.c (.i .i64 1)))⟩]
def weftref15_Places.r19 : List AStep := [
  ⟨some 66, none, .op (.mov (.t 3))⟩,
  ⟨some 67, none, .op (.fadr 2 (.t 1))⟩,
  ⟨some 68, none, .op (.load false 1 (.t 67))⟩,
  ⟨some 69, none, .op (.mov (.t 8))⟩,
  ⟨some 70, none, .op (.iad 6 (.t 68) (.t 69))⟩,
  ⟨some 71, none, .op (.fadr 2 (.t 70))⟩,
  ⟨some 72, none, .op (.load false 1 (.t 71))⟩,
  ⟨some 73, none, .call n_weftref05_Into [.t 66, .t 72]⟩,
  ⟨some 3, none, .op (.mov (.t 73))⟩]
def weftref15_Places.r20 : List AStep := [
  ⟨some 57, none, .op (.mov (.t 8))⟩,
  ⟨some 58, none, .op (.bin .add (.t 57) (.c (.i .i64 1)))⟩,
  ⟨some 8, none, .op (.mov (.t 58))⟩]
def weftref15_Places.l3 : ACode := .seq (.seq (.post [1, 3, 8, 56] (.region weftref15_Places.r17)) (.post [1, 3, 8] (.cond (.t 56) (.skip) (.exit 6)))) (.seq (.post [1, 3, 8] (.block 7 (.seq (.post [1, 3, 8, 65] (.region weftref15_Places.r18)) (.post [1, 3, 8] (.cond (.t 65) (.post [1, 3, 8] (.region weftref15_Places.r19)) (.skip)))))) (.post [1, 3, 8] (.region weftref15_Places.r20)))
def weftref15_Places.r21 : List AStep := [
  ⟨some 74, none, .op (.mov (.t 3))⟩,
  ⟨some 2, none, .op (.mov (.t 74))⟩]
def weftref15_Places : AFunc := ⟨75, [.t 2], .seq (.post [1] (.region weftref15_Places.r0)) (.seq (.post [1, 3] (.region weftref15_Places.r1)) (.seq (.seq (.post [1, 3, 11] (.region weftref15_Places.r2)) (.post [1, 3] (.cond (.t 11) (.seq (.post [2] (.region weftref15_Places.r3)) (.ret)) (.skip)))) (.seq (.seq (.post [1, 3, 4] (.region weftref15_Places.r4)) (.post [1, 3] (.block 0 (.loop weftref15_Places.l0)))) (.seq (.seq (.post [1, 3, 7] (.region weftref15_Places.r12)) (.post [1, 3] (.block 4 (.loop weftref15_Places.l2)))) (.seq (.seq (.post [1, 3, 8] (.region weftref15_Places.r16)) (.post [3] (.block 6 (.loop weftref15_Places.l3)))) (.seq (.post [2] (.region weftref15_Places.r21)) (.ret)))))))⟩
theorem weftref15_Places.ok : okFunc Tryz.prog Tryz.f17 weftref15_Places = true := by kernel_rfl
theorem weftref15_Places.at : Tryz.prog.funcs[n_weftref15_Places]? = some Tryz.f17 := Tryz.func17
def weftref37_Of.r0 : List AStep := [
  ⟨some 1, none, .op (.boxf (.t 0))⟩,
  ⟨some 2, none, .op (.mov (.c (.i .i64 0)))⟩,
  ⟨some 3, none, .op (.mov (.c (.i .i64 0)))⟩]
def weftref37_Of.r1 : List AStep := [
  ⟨some 11, none, .op (.load true 3 (.t 1))⟩,
  ⟨some 12, none, .call n_weftref15_Check [.t 11]⟩,
  ⟨some 13, none, .op (.bin .neq (.t 12) (.c (.i .i64 0)))⟩]
def weftref37_Of.r2 : List AStep := [
  ⟨some 2, none, .op (.mov (.c (.i .i64 0)))⟩,
  ⟨some 3, none, .op (.mov (.c (.i .i64 0)))⟩]
def weftref37_Of.r3 : List AStep := [
  ⟨some 14, none, .op (.load true 3 (.t 1))⟩,
  ⟨some 15, none, .call n_weftref15_Nodes [.t 14]⟩,
  ⟨some 4, none, .op (.mov (.t 15))⟩]
def weftref37_Of.r4 : List AStep := [
  ⟨some 16, none, .op (.load true 3 (.t 1))⟩,
  ⟨some 17, none, .call n_weftref15_Places [.t 16]⟩,
  ⟨some 5, none, .op (.mov (.t 17))⟩]
def weftref37_Of.r5 : List AStep := [
  ⟨some 6, none, .op (.mov (.c (.i .i64 0)))⟩]
def weftref37_Of.r6 : List AStep := [
  ⟨some 18, none, .op (.mov (.t 6))⟩,
  ⟨some 19, none, .op (.mov (.t 5))⟩,
  ⟨some 20, none, .op (.len false (.t 19))⟩,
  ⟨some 21, none, .op (.bin .lss (.t 18) (.t 20))⟩]
def weftref37_Of.r7 : List AStep := [
  ⟨some 24, none, .op (.mov (.t 4))⟩,
  ⟨some 25, none, .op (.mov (.t 5))⟩,
  ⟨some 26, none, .op (.mov (.t 6))⟩,
  ⟨some 27, none, .op (.iad 1 (.t 25) (.t 26))⟩,
  ⟨some 28, none, .op (.load false 1 (.t 27))⟩,
  ⟨some 29, none, .call n_weftref05_Into [.t 24, .t 28]⟩,
  ⟨some 4, none, .op (.mov (.t 29))⟩]
def weftref37_Of.r8 : List AStep := [
  ⟨some 22, none, .op (.mov (.t 6))⟩,
  ⟨some 23, none, .op (.bin .add (.t 22) (.c (.i .i64 1)))⟩,
  ⟨some 6, none, .op (.mov (.t 23))⟩]
def weftref37_Of.l0 : ACode := .seq (.seq (.post [1, 4, 5, 6, 21] (.region weftref37_Of.r6)) (.post [1, 4, 5, 6] (.cond (.t 21) (.skip) (.exit 0)))) (.seq (.post [1, 4, 5, 6] (.block 1 (.post [1, 4, 5, 6] (.region weftref37_Of.r7)))) (.post [1, 4, 5, 6] (.region weftref37_Of.r8)))
def weftref37_Of.r9 : List AStep := [
  ⟨some 30, none, .op (.mov (.t 4))⟩,
  ⟨some 31, none, .op (.len false (.t 30))⟩,
  ⟨some 7, none, .op (.mov (.t 31))⟩]
def weftref37_Of.r10 : List AStep := [
  ⟨some 8, none, .op (.mov (.c (.i .i64 0)))⟩]
def weftref37_Of.r11 : List AStep := [
  ⟨some 32, none, .op (.mov (.t 8))⟩,
  ⟨some 33, none, .op (.fadr 1 (.t 1))⟩,
  ⟨some 34, none, .op (.load false 1 (.t 33))⟩,
  ⟨some 35, none, .op (.len false (.t 34))⟩,
  ⟨some 36, none, .op (.bin .lss (.t 32) (.t 35))⟩]
def weftref37_Of.r12 : List AStep := [
  ⟨some 39, none, .op (.mov (.t 7))⟩,
  ⟨some 40, none, .op (.fadr 1 (.t 1))⟩,
  ⟨some 41, none, .op (.load false 1 (.t 40))⟩,
  ⟨some 42, none, .op (.mov (.t 8))⟩,
  ⟨some 43, none, .op (.iad 3 (.t 41) (.t 42))⟩,
  ⟨some 44, none, .op (.fadr 1 (.t 43))⟩,
  ⟨some 45, none, .op (.load false 1 (.t 44))⟩,
  ⟨some 46, none, .op (.len true (.t 45))⟩,
  ⟨some 47, none, .op (.bin .add (.t 39) (.t 46))⟩,
  ⟨some 48, none, .op (.bin .add (.t 47) (.c (.i .i64 1)))⟩,
  ⟨some 7, none, .op (.mov (.t 48))⟩]
def weftref37_Of.r13 : List AStep := [
  ⟨some 37, none, .op (.mov (.t 8))⟩,
  ⟨some 38, none, .op (.bin .add (.t 37) (.c (.i .i64 1)))⟩,
  ⟨some 8, none, .op (.mov (.t 38))⟩]
def weftref37_Of.l1 : ACode := .seq (.seq (.post [1, 7, 8, 36] (.region weftref37_Of.r11)) (.post [1, 7, 8] (.cond (.t 36) (.skip) (.exit 2)))) (.seq (.post [1, 7, 8] (.block 3 (.post [1, 7, 8] (.region weftref37_Of.r12)))) (.post [1, 7, 8] (.region weftref37_Of.r13)))
def weftref37_Of.r14 : List AStep := [
  ⟨some 9, none, .op (.mov (.c (.i .i64 0)))⟩]
def weftref37_Of.r15 : List AStep := [
  ⟨some 10, none, .op (.mov (.c (.i .i64 0)))⟩]
def weftref37_Of.r16 : List AStep := [
  ⟨some 49, none, .op (.mov (.t 10))⟩,
  ⟨some 50, none, .op (.fadr 2 (.t 1))⟩,
  ⟨some 51, none, .op (.load false 1 (.t 50))⟩,
  ⟨some 52, none, .op (.len false (.t 51))⟩,
  ⟨some 53, none, .op (.bin .lss (.t 49) (.t 52))⟩]
def weftref37_Of.r17 : List AStep := [
  ⟨some 56, none, .op (.fadr 2 (.t 1))⟩,
  ⟨some 57, none, .op (.load false 1 (.t 56))⟩,
  ⟨some 58, none, .op (.mov (.t 10))⟩,
  ⟨some 59, none, .op (.iad 6 (.t 57) (.t 58))⟩,
  ⟨some 60, none, .op (.fadr 0 (.t 59))⟩,
  ⟨some 61, none, .op (.load false 1 (.t 60))⟩,
  ⟨some 62, none, .op (.bin .gtr (.t 61) (.c (.i .i64 2)))⟩]
def weftref37_Of.r18 : List AStep := [
  ⟨some 63, none, .op (.mov (.t 9))⟩,
  ⟨some 64, none, .op (.bin .add (.t 63) (.c (.i .i64 1)))⟩,
  ⟨some 9, none, .op (.mov (.t 64))⟩]
def weftref37_Of.r19 : List AStep := [
  ⟨some 54, none, .op (.mov (.t 10))⟩,
  ⟨some 55, none, .op (.bin .add (.t 54) (.c (.i .i64 1)))⟩,
  ⟨some 10, none, .op (.mov (.t 55))⟩]
def weftref37_Of.l2 : ACode := .seq (.seq (.post [1, 7, 9, 10, 53] (.region weftref37_Of.r16)) (.post [1, 7, 9, 10] (.cond (.t 53) (.skip) (.exit 4)))) (.seq (.post [1, 7, 9, 10] (.block 5 (.seq (.post [1, 7, 9, 10, 62] (.region weftref37_Of.r17)) (.post [1, 7, 9, 10] (.cond (.t 62) (.post [1, 7, 9, 10] (.region weftref37_Of.r18)) (.skip)))))) (.post [1, 7, 9, 10] (.region weftref37_Of.r19)))
def weftref37_Of.r20 : List AStep := [
  ⟨some 65, none, .op (.mov (.t 7))⟩,
  ⟨some 66, none, .op (.mov (.t 9))⟩,
  ⟨some 2, none, .op (.mov (.t 65))⟩,
  ⟨some 3, none, .op (.mov (.t 66))⟩]
def weftref37_Of : AFunc := ⟨67, [.t 2, .t 3], .seq (.post [1] (.region weftref37_Of.r0)) (.seq (.seq (.post [1, 13] (.region weftref37_Of.r1)) (.post [1] (.cond (.t 13) (.seq (.post [2, 3] (.region weftref37_Of.r2)) (.ret)) (.skip)))) (.seq (.post [1, 4] (.region weftref37_Of.r3)) (.seq (.post [1, 4, 5] (.region weftref37_Of.r4)) (.seq (.seq (.post [1, 4, 5, 6] (.region weftref37_Of.r5)) (.post [1, 4] (.block 0 (.loop weftref37_Of.l0)))) (.seq (.post [1, 7] (.region weftref37_Of.r9)) (.seq (.seq (.post [1, 7, 8] (.region weftref37_Of.r10)) (.post [1, 7] (.block 2 (.loop weftref37_Of.l1)))) (.seq (.post [1, 7, 9] (.region weftref37_Of.r14)) (.seq (.seq (.post [1, 7, 9, 10] (.region weftref37_Of.r15)) (.post [7, 9] (.block 4 (.loop weftref37_Of.l2)))) (.seq (.post [2, 3] (.region weftref37_Of.r20)) (.ret))))))))))⟩
theorem weftref37_Of.ok : okFunc Tryz.prog Tryz.f6 weftref37_Of = true := by kernel_rfl
theorem weftref37_Of.at : Tryz.prog.funcs[n_weftref37_Of]? = some Tryz.f6 := Tryz.func6
def bound_Fuel.r0 : List AStep := [
  ⟨some 1, none, .op (.boxf (.t 0))⟩,
  ⟨some 2, none, .op (.mov (.c (.i .i64 0)))⟩]
def bound_Fuel.r1 : List AStep := [
  ⟨some 4, none, .op (.fadr 0 (.t 1))⟩,
  ⟨some 5, none, .op (.load false 1 (.t 4))⟩,
  ⟨some 6, none, .op (.fadr 1 (.t 1))⟩,
  ⟨some 7, none, .op (.load false 1 (.t 6))⟩,
  ⟨some 8, none, .op (.mn [.t 5, .t 7])⟩,
  ⟨some 9, none, .op (.bin .lss (.t 8) (.c (.i .i64 0)))⟩,
  ⟨some 10, none, .op (.mov (.t 9))⟩,
  ⟨some 11, (some (10, false)), .op (.fadr 0 (.t 1))⟩,
  ⟨some 12, (some (10, false)), .op (.load false 1 (.t 11))⟩,
  ⟨some 13, (some (10, false)), .op (.fadr 1 (.t 1))⟩,
  ⟨some 14, (some (10, false)), .op (.load false 1 (.t 13))⟩,
  ⟨some 15, (some (10, false)), .op (.mx [.t 12, .t 14])⟩,
  ⟨some 16, (some (10, false)), .op (.bin .gtr (.t 15) (.c (.i .i64 100000)))⟩,
  ⟨some 17, none, .op (.pick (.t 10) (.c (.b true)) (.t 16))⟩]
def bound_Fuel.r2 : List AStep := [
  ⟨some 2, none, .op (.mov (.c (.i .i64 0)))⟩]
def bound_Fuel.r3 : List AStep := [
  ⟨some 18, none, .op (.fadr 0 (.t 1))⟩,
  ⟨some 19, none, .op (.load false 1 (.t 18))⟩,
  ⟨some 20, none, .op (.fadr 1 (.t 1))⟩,
  ⟨some 21, none, .op (.load false 1 (.t 20))⟩,
  ⟨some 22, none, .op (.bin .add (.t 19) (.t 21))⟩,
  ⟨some 23, none, .op (.bin .add (.t 22) (.c (.i .i64 1)))⟩,
  ⟨some 3, none, .op (.mov (.t 23))⟩]
def bound_Fuel.r4 : List AStep := [
  ⟨some 24, none, .op (.mov (.t 3))⟩,
  ⟨some 25, none, .op (.mov (.t 3))⟩,
  ⟨some 26, none, .op (.bin .mul (.t 24) (.t 25))⟩,
  ⟨some 27, none, .op (.mov (.t 3))⟩,
  ⟨some 28, none, .op (.bin .mul (.t 26) (.t 27))⟩,
  ⟨some 2, none, .op (.mov (.t 28))⟩]
def bound_Fuel : AFunc := ⟨29, [.t 2], .seq (.post [1] (.region bound_Fuel.r0)) (.seq (.seq (.post [1, 17] (.region bound_Fuel.r1)) (.post [1] (.cond (.t 17) (.seq (.post [2] (.region bound_Fuel.r2)) (.ret)) (.skip)))) (.seq (.post [3] (.region bound_Fuel.r3)) (.seq (.post [2] (.region bound_Fuel.r4)) (.ret))))⟩
theorem bound_Fuel.ok : okFunc Tryz.prog Tryz.f7 bound_Fuel = true := by kernel_rfl
theorem bound_Fuel.at : Tryz.prog.funcs[n_bound_Fuel]? = some Tryz.f7 := Tryz.func7
def weftref37_Fuel.r0 : List AStep := [
  ⟨some 4, none, .op (.mov (.c (.i .i64 0)))⟩]
def weftref37_Fuel.r1 : List AStep := [
  ⟨some 5, none, .op (.mov (.t 0))⟩,
  ⟨some 6, none, .op (.bin .lss (.t 5) (.c (.i .i64 0)))⟩,
  ⟨some 7, none, .op (.mov (.t 6))⟩,
  ⟨some 8, (some (7, false)), .op (.mov (.t 1))⟩,
  ⟨some 9, (some (7, false)), .op (.bin .lss (.t 8) (.c (.i .i64 0)))⟩,
  ⟨some 10, none, .op (.pick (.t 7) (.c (.b true)) (.t 9))⟩,
  ⟨some 11, none, .op (.mov (.t 10))⟩,
  ⟨some 12, (some (11, false)), .op (.mov (.t 0))⟩,
  ⟨some 13, (some (11, false)), .op (.bin .gtr (.t 12) (.c (.i .i64 100000)))⟩,
  ⟨some 14, none, .op (.pick (.t 11) (.c (.b true)) (.t 13))⟩,
  ⟨some 15, none, .op (.mov (.t 14))⟩,
  ⟨some 16, (some (15, false)), .op (.mov (.t 1))⟩,
  ⟨some 17, (some (15, false)), .op (.bin .gtr (.t 16) (.c (.i .i64 100000)))⟩,
  ⟨some 18, none, .op (.pick (.t 15) (.c (.b true)) (.t 17))⟩]
def weftref37_Fuel.r2 : List AStep := [
  ⟨some 4, none, .op (.mov (.c (.i .i64 0)))⟩]
def weftref37_Fuel.r3 : List AStep := [
  ⟨some 19, none, .op (.mov (.t 0))⟩,
  ⟨some 20, none, .op (.mov (.t 1))⟩,
  ⟨some 21, none, .op (.bin .add (.t 19) (.t 20))⟩,
  ⟨some 22, none, .op (.bin .add (.t 21) (.c (.i .i64 1)))⟩,
  ⟨some 23, none, .op (.mov (.t 0))⟩,
  ⟨some 24, none, .op (.mov (.t 1))⟩,
  ⟨some 25, none, .op (.bin .add (.t 23) (.t 24))⟩,
  ⟨some 26, none, .op (.bin .add (.t 25) (.c (.i .i64 1)))⟩,
  ⟨some 27, none, .op (.bin .mul (.t 22) (.t 26))⟩,
  ⟨some 28, none, .op (.mov (.t 0))⟩,
  ⟨some 29, none, .op (.mov (.t 1))⟩,
  ⟨some 30, none, .op (.bin .add (.t 28) (.t 29))⟩,
  ⟨some 31, none, .op (.bin .add (.t 30) (.c (.i .i64 1)))⟩,
  ⟨some 32, none, .op (.bin .mul (.t 27) (.t 31))⟩,
  ⟨some 4, none, .op (.mov (.t 32))⟩]
def weftref37_Fuel : AFunc := ⟨33, [.t 4], .seq (.post [0, 1] (.region weftref37_Fuel.r0)) (.seq (.seq (.post [0, 1, 18] (.region weftref37_Fuel.r1)) (.post [0, 1] (.cond (.t 18) (.seq (.post [4] (.region weftref37_Fuel.r2)) (.ret)) (.skip)))) (.seq (.post [4] (.region weftref37_Fuel.r3)) (.ret)))⟩
theorem weftref37_Fuel.ok : okFunc Tryz.prog Tryz.f8 weftref37_Fuel = true := by kernel_rfl
theorem weftref37_Fuel.at : Tryz.prog.funcs[n_weftref37_Fuel]? = some Tryz.f8 := Tryz.func8
def weftlaw37_works.r0 : List AStep := [
  ⟨some 0, none, .op (.mov (.c (.b false)))⟩]
def weftlaw37_works.r1 : List AStep := [
  ⟨some 2, none, .op (.build [.s [], .s [], .sl none 0 0] [(0, 1, .c (.s [120])), (1, 1, .c (.s [112]))])⟩,
  ⟨some 3, none, .op (.bsl 1 [.s [], .s [], .sl none 0 0] [(0, 3, .t 2)])⟩,
  ⟨some 4, none, .op (.build [.i .i64 0, .s [], .s [], .i .i64 0, .s [], .sl none 0 0] [(0, 1, .c (.i .i64 1)), (1, 1, .c (.s [102, 46, 112])), (2, 1, .c (.s [120, 43, 48]))])⟩,
  ⟨some 5, none, .op (.bsl 1 [.i .i64 0, .s [], .s [], .i .i64 0, .s [], .sl none 0 0] [(0, 6, .t 4)])⟩,
  ⟨some 6, none, .op (.build [.sl none 0 0, .sl none 0 0, .sl none 0 0] [(0, 1, .t 3), (2, 1, .t 5)])⟩,
  ⟨some 1, none, .op (.new [.sl none 0 0, .sl none 0 0, .sl none 0 0])⟩,
  ⟨none, none, .op (.store 3 (.t 1) (.t 6))⟩]
def weftlaw37_works.r2 : List AStep := [
  ⟨some 7, none, .op (.load true 3 (.t 1))⟩,
  ⟨some 8, none, .call n_bound_Of [.t 7]⟩,
  ⟨some 9, none, .op (.build [.i .i64 0, .i .i64 0] [(0, 1, .c (.i .i64 2))])⟩,
  ⟨some 10, none, .op (.eqa false [0, 0] (.t 8) (.t 9))⟩,
  ⟨some 11, none, .op (.mov (.t 10))⟩,
  ⟨some 12, (some (11, true)), .op (.build [.i .i64 0, .i .i64 0] [(0, 1, .c (.i .i64 2))])⟩,
  ⟨some 13, (some (11, true)), .call n_bound_Fuel [.t 12]⟩,
  ⟨some 14, (some (11, true)), .op (.bin .eql (.t 13) (.c (.i .i64 27)))⟩,
  ⟨some 15, none, .op (.pick (.t 11) (.t 14) (.c (.b false)))⟩,
  ⟨some 0, none, .op (.mov (.t 15))⟩]
def weftlaw37_works : AFunc := ⟨16, [.t 0], .seq (.post [] (.region weftlaw37_works.r0)) (.seq (.post [1] (.region weftlaw37_works.r1)) (.seq (.post [0] (.region weftlaw37_works.r2)) (.ret)))⟩
theorem weftlaw37_works.at : Tryz.prog.funcs[n_weftlaw37_works]? = some Tryz.f9 := Tryz.func9
def weftlaw37_BoundOf.r0 : List AStep := [
  ⟨some 2, none, .op (.boxf (.t 0))⟩,
  ⟨some 3, none, .op (.boxf (.t 1))⟩,
  ⟨some 4, none, .op (.mov (.c (.b false)))⟩]
def weftlaw37_BoundOf.r1 : List AStep := [
  ⟨some 8, none, .op (.load true 3 (.t 2))⟩,
  ⟨some 9, none, .call n_weftlaw15_Great [.t 8, .c (.i .i64 100)]⟩]
def weftlaw37_BoundOf.r2 : List AStep := [
  ⟨some 4, none, .op (.mov (.c (.b true)))⟩]
def weftlaw37_BoundOf.r3 : List AStep := [
  ⟨some 10, none, .op (.load true 3 (.t 2))⟩,
  ⟨some 11, none, .call n_bound_Of [.t 10]⟩,
  ⟨some 5, none, .op (.new [.i .i64 0, .i .i64 0])⟩,
  ⟨none, none, .op (.store 2 (.t 5) (.t 11))⟩]
def weftlaw37_BoundOf.r4 : List AStep := [
  ⟨some 13, none, .op (.load true 3 (.t 2))⟩,
  ⟨some 14, none, .call n_weftref37_Of [.t 13]⟩,
  ⟨some 12, none, .op (.mov (.t 14))⟩,
  ⟨some 15, none, .op (.ext 0 (.t 12))⟩,
  ⟨some 16, none, .op (.ext 1 (.t 12))⟩,
  ⟨some 6, none, .op (.mov (.t 15))⟩,
  ⟨some 7, none, .op (.mov (.t 16))⟩]
def weftlaw37_BoundOf.r5 : List AStep := [
  ⟨some 17, none, .op (.load true 2 (.t 5))⟩,
  ⟨some 18, none, .op (.mov (.t 6))⟩,
  ⟨some 19, none, .op (.mov (.t 7))⟩,
  ⟨some 20, none, .op (.build [.i .i64 0, .i .i64 0] [(0, 1, .t 18), (1, 1, .t 19)])⟩,
  ⟨some 21, none, .op (.eqa false [0, 0] (.t 17) (.t 20))⟩,
  ⟨some 22, none, .op (.mov (.t 21))⟩,
  ⟨some 23, (some (22, true)), .op (.load true 2 (.t 3))⟩,
  ⟨some 24, (some (22, true)), .call n_bound_Fuel [.t 23]⟩,
  ⟨some 25, (some (22, true)), .op (.fadr 0 (.t 3))⟩,
  ⟨some 26, (some (22, true)), .op (.load false 1 (.t 25))⟩,
  ⟨some 27, (some (22, true)), .op (.fadr 1 (.t 3))⟩,
  ⟨some 28, (some (22, true)), .op (.load false 1 (.t 27))⟩,
  ⟨some 29, (some (22, true)), .call n_weftref37_Fuel [.t 26, .t 28]⟩,
  ⟨some 30, (some (22, true)), .op (.bin .eql (.t 24) (.t 29))⟩,
  ⟨some 31, none, .op (.pick (.t 22) (.t 30) (.c (.b false)))⟩,
  ⟨some 32, none, .op (.mov (.t 31))⟩,
  ⟨some 33, (some (32, true)), .call n_weftlaw37_works []⟩,
  ⟨some 34, none, .op (.pick (.t 32) (.t 33) (.c (.b false)))⟩,
  ⟨some 4, none, .op (.mov (.t 34))⟩]
def weftlaw37_BoundOf : AFunc := ⟨35, [.t 4], .seq (.post [2, 3] (.region weftlaw37_BoundOf.r0)) (.seq (.seq (.post [2, 3, 9] (.region weftlaw37_BoundOf.r1)) (.post [2, 3] (.cond (.t 9) (.seq (.post [4] (.region weftlaw37_BoundOf.r2)) (.ret)) (.skip)))) (.seq (.post [2, 3, 5] (.region weftlaw37_BoundOf.r3)) (.seq (.post [3, 5, 6, 7] (.region weftlaw37_BoundOf.r4)) (.seq (.post [4] (.draw [0, 0, 0, 6, 15, 31, 63, 127, 63, 319, 63, 1087, 4095, 8191, 16383, 32767, 65535, 131071, 262143] weftlaw37_BoundOf.r5)) (.ret)))))⟩
theorem weftlaw37_BoundOf.ok : okFunc Tryz.prog Tryz.f3 weftlaw37_BoundOf = true := by kernel_rfl
theorem weftlaw37_BoundOf.at : Tryz.prog.funcs[n_weftlaw37_BoundOf]? = some Tryz.f3 := Tryz.func3
end C
end Go.Proofs.YtjemhlndmkbneaaGreatDoor
