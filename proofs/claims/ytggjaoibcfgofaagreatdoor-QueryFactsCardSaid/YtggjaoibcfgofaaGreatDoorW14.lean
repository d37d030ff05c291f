/- Part 14 of the proof of the laws of the queries: CodeB. -/
import Derived.Test.YtggjaoibcfgofaaGreatDoorW13
namespace Go.Proofs.YtggjaoibcfgofaaGreatDoor
open Am Go.Proofs
set_option maxRecDepth 100000
namespace C
def slices_isNaN_string.r0 : List AStep := [
  ⟨some 2, none, .op (.mov (.c (.b false)))⟩]
def slices_isNaN_string.r1 : List AStep := [
  ⟨some 3, none, .op (.mov (.t 0))⟩,
  ⟨some 4, none, .op (.mov (.t 0))⟩,
  ⟨some 5, none, .op (.bin .neq (.t 3) (.t 4))⟩,
  ⟨some 2, none, .op (.mov (.t 5))⟩]
def slices_isNaN_string : AFunc := ⟨6, [.t 2], .seq (.post [0] (.region slices_isNaN_string.r0)) (.seq (.post [2] (.region slices_isNaN_string.r1)) (.ret))⟩
theorem slices_isNaN_string.ok : okFunc Tryz.prog Tryz.f58 slices_isNaN_string = true := by kernel_rfl
theorem slices_isNaN_string.at : Tryz.prog.funcs[n_slices_isNaN_string]? = some Tryz.f58 := Tryz.func58
def slices_BinarySearch_string_string.r0 : List AStep := [
  ⟨some 4, none, .op (.mov (.c (.i .i64 0)))⟩,
  ⟨some 5, none, .op (.mov (.c (.b false)))⟩]
def slices_BinarySearch_string_string.r1 : List AStep := [
  ⟨some 10, none, .op (.mov (.t 0))⟩,
  ⟨some 11, none, .op (.len false (.t 10))⟩,
  ⟨some 6, none, .op (.mov (.t 11))⟩]
def slices_BinarySearch_string_string.r2 : List AStep := [
  ⟨some 12, none, .op (.mov (.t 6))⟩,
  ⟨some 7, none, .op (.mov (.c (.i .i64 0)))⟩,
  ⟨some 8, none, .op (.mov (.t 12))⟩]
def slices_BinarySearch_string_string.r3 : List AStep := [
  ⟨some 13, none, .op (.mov (.t 7))⟩,
  ⟨some 14, none, .op (.mov (.t 8))⟩,
  ⟨some 15, none, .op (.bin .lss (.t 13) (.t 14))⟩]
def slices_BinarySearch_string_string.r4 : List AStep := [
  ⟨some 16, none, .op (.mov (.t 7))⟩,
  ⟨some 17, none, .op (.mov (.t 8))⟩,
  ⟨some 18, none, .op (.bin .add (.t 16) (.t 17))⟩,
  ⟨some 19, none, .op (.conv .u64 (.t 18))⟩,
  ⟨some 20, none, .op (.bin .shr (.t 19) (.c (.i .u64 1)))⟩,
  ⟨some 21, none, .op (.conv .i64 (.t 20))⟩,
  ⟨some 9, none, .op (.mov (.t 21))⟩]
def slices_BinarySearch_string_string.r5 : List AStep := [
  ⟨some 22, none, .op (.mov (.t 0))⟩,
  ⟨some 23, none, .op (.mov (.t 9))⟩,
  ⟨some 24, none, .op (.iad 1 (.t 22) (.t 23))⟩,
  ⟨some 25, none, .op (.load false 1 (.t 24))⟩,
  ⟨some 26, none, .op (.mov (.t 1))⟩,
  ⟨some 27, none, .call n_cmp_Less_string [.t 25, .t 26]⟩]
def slices_BinarySearch_string_string.r6 : List AStep := [
  ⟨some 28, none, .op (.mov (.t 9))⟩,
  ⟨some 29, none, .op (.bin .add (.t 28) (.c (.i .i64 1)))⟩,
  ⟨some 7, none, .op (.mov (.t 29))⟩]
def slices_BinarySearch_string_string.r7 : List AStep := [
  ⟨some 30, none, .op (.mov (.t 9))⟩,
  ⟨some 8, none, .op (.mov (.t 30))⟩]
def slices_BinarySearch_string_string.l0 : ACode := .seq (.seq (.post [0, 1, 6, 7, 8, 15] (.region slices_BinarySearch_string_string.r3)) (.post [0, 1, 6, 7, 8] (.cond (.t 15) (.skip) (.exit 0)))) (.post [0, 1, 6, 7, 8] (.block 1 (.seq (.post [0, 1, 6, 7, 8, 9] (.region slices_BinarySearch_string_string.r4)) (.seq (.post [0, 1, 6, 7, 8, 9, 27] (.region slices_BinarySearch_string_string.r5)) (.post [0, 1, 6, 7, 8] (.cond (.t 27) (.post [0, 1, 6, 7, 8] (.region slices_BinarySearch_string_string.r6)) (.post [0, 1, 6, 7, 8] (.region slices_BinarySearch_string_string.r7))))))))
def slices_BinarySearch_string_string.r8 : List AStep := [
  ⟨some 31, none, .op (.mov (.t 7))⟩,
  ⟨some 32, none, .op (.mov (.t 7))⟩,
  ⟨some 33, none, .op (.mov (.t 6))⟩,
  ⟨some 34, none, .op (.bin .lss (.t 32) (.t 33))⟩,
  ⟨some 35, none, .op (.mov (.t 34))⟩,
  ⟨some 36, (some (35, true)), .op (.mov (.t 0))⟩,
  ⟨some 37, (some (35, true)), .op (.mov (.t 7))⟩,
  ⟨some 38, (some (35, true)), .op (.iad 1 (.t 36) (.t 37))⟩,
  ⟨some 39, (some (35, true)), .op (.load false 1 (.t 38))⟩,
  ⟨some 40, (some (35, true)), .op (.mov (.t 1))⟩,
  ⟨some 41, (some (35, true)), .op (.bin .eql (.t 39) (.t 40))⟩,
  ⟨some 42, (some (35, true)), .op (.mov (.t 41))⟩,
  ⟨some 43, (some (42, false)), .op (.mov (.t 0))⟩,
  ⟨some 44, (some (42, false)), .op (.mov (.t 7))⟩,
  ⟨some 45, (some (42, false)), .op (.iad 1 (.t 43) (.t 44))⟩,
  ⟨some 46, (some (42, false)), .op (.load false 1 (.t 45))⟩,
  ⟨some 47, (some (42, false)), .call n_slices_isNaN_string [.t 46]⟩,
  ⟨some 48, (some (42, false)), .op (.mov (.t 47))⟩,
  ⟨some 49, (some (48, true)), .op (.mov (.t 1))⟩,
  ⟨some 50, (some (48, true)), .call n_slices_isNaN_string [.t 49]⟩,
  ⟨some 51, (some (42, false)), .op (.pick (.t 48) (.t 50) (.c (.b false)))⟩,
  ⟨some 52, (some (35, true)), .op (.pick (.t 42) (.c (.b true)) (.t 51))⟩,
  ⟨some 53, none, .op (.pick (.t 35) (.t 52) (.c (.b false)))⟩,
  ⟨some 4, none, .op (.mov (.t 31))⟩,
  ⟨some 5, none, .op (.mov (.t 53))⟩]
def slices_BinarySearch_string_string : AFunc := ⟨54, [.t 4, .t 5], .seq (.post [0, 1] (.region slices_BinarySearch_string_string.r0)) (.seq (.post [0, 1, 6] (.region slices_BinarySearch_string_string.r1)) (.seq (.post [0, 1, 6, 7, 8] (.region slices_BinarySearch_string_string.r2)) (.seq (.post [0, 1, 6, 7] (.block 0 (.loop slices_BinarySearch_string_string.l0))) (.seq (.post [4, 5] (.region slices_BinarySearch_string_string.r8)) (.ret)))))⟩
theorem slices_BinarySearch_string_string.ok : okFunc Tryz.prog Tryz.f37 slices_BinarySearch_string_string = true := by kernel_rfl
theorem slices_BinarySearch_string_string.at : Tryz.prog.funcs[n_slices_BinarySearch_string_string]? = some Tryz.f37 := Tryz.func37
def query_numbered.r0 : List AStep := [
  ⟨some 4, none, .op (.mov (.c (.sl none 0 0)))⟩,
  ⟨some 5, none, .op (.mov (.c (.sl none 0 0)))⟩]
def query_numbered.r1 : List AStep := [
  ⟨some 16, none, .op (.mov (.t 1))⟩,
  ⟨some 17, none, .call n_slices_Clone_string_string [.t 16]⟩,
  ⟨some 6, none, .op (.mov (.t 17))⟩]
def query_numbered.r2 : List AStep := [
  ⟨some 18, none, .op (.mov (.t 0))⟩,
  ⟨some 19, none, .op (.len false (.t 18))⟩,
  ⟨some 20, none, .op (.mov (.c (.i .i64 0)))⟩]
def query_numbered.r3 : List AStep := [
  ⟨some 21, none, .op (.bin .lss (.t 20) (.t 19))⟩]
def query_numbered.r4 : List AStep := [
  ⟨some 22, none, .op (.iad 2 (.t 18) (.t 20))⟩,
  ⟨some 23, none, .op (.load true 2 (.t 22))⟩,
  ⟨some 8, none, .op (.new [.s [], .s []])⟩,
  ⟨none, none, .op (.store 2 (.t 8) (.t 23))⟩]
def query_numbered.r5 : List AStep := [
  ⟨some 24, none, .op (.mov (.t 6))⟩,
  ⟨some 25, none, .op (.fadr 0 (.t 8))⟩,
  ⟨some 26, none, .op (.load false 1 (.t 25))⟩,
  ⟨some 27, none, .op (.fadr 1 (.t 8))⟩,
  ⟨some 28, none, .op (.load false 1 (.t 27))⟩,
  ⟨some 29, none, .op (.bfz 2 1 [.s []] [(0, 1, .t 26), (1, 1, .t 28)])⟩,
  ⟨some 30, none, .op (.app 1 16 (.t 24) (.t 29))⟩,
  ⟨some 6, none, .op (.mov (.t 30))⟩]
def query_numbered.r6 : List AStep := [
  ⟨some 31, none, .op (.bin .add (.t 20) (.c (.i .i64 1)))⟩,
  ⟨some 20, none, .op (.mov (.t 31))⟩]
def query_numbered.l0 : ACode := .seq (.post [0, 6, 18, 19, 20, 21] (.region query_numbered.r3)) (.seq (.post [0, 6, 18, 19, 20] (.cond (.t 21) (.skip) (.exit 0))) (.seq (.post [0, 6, 18, 19, 20] (.block 1 (.seq (.post [0, 6, 8, 18, 19, 20] (.region query_numbered.r4)) (.post [0, 6, 18, 19, 20] (.region query_numbered.r5))))) (.post [0, 6, 18, 19, 20] (.region query_numbered.r6))))
def query_numbered.r7 : List AStep := [
  ⟨some 32, none, .op (.mov (.t 6))⟩,
  ⟨some 33, none, .call n_intern_Sorted_string [.t 32]⟩,
  ⟨some 6, none, .op (.mov (.t 33))⟩]
def query_numbered.r8 : List AStep := [
  ⟨some 9, none, .op (.mov (.c (.sl none 0 0)))⟩]
def query_numbered.r9 : List AStep := [
  ⟨some 34, none, .op (.mov (.t 0))⟩,
  ⟨some 35, none, .op (.len false (.t 34))⟩,
  ⟨some 36, none, .op (.mov (.c (.i .i64 0)))⟩]
def query_numbered.r10 : List AStep := [
  ⟨some 37, none, .op (.bin .lss (.t 36) (.t 35))⟩]
def query_numbered.r11 : List AStep := [
  ⟨some 38, none, .op (.iad 2 (.t 34) (.t 36))⟩,
  ⟨some 39, none, .op (.load true 2 (.t 38))⟩,
  ⟨some 11, none, .op (.new [.s [], .s []])⟩,
  ⟨none, none, .op (.store 2 (.t 11) (.t 39))⟩]
def query_numbered.r12 : List AStep := [
  ⟨some 41, none, .op (.mov (.t 6))⟩,
  ⟨some 42, none, .op (.fadr 0 (.t 11))⟩,
  ⟨some 43, none, .op (.load false 1 (.t 42))⟩,
  ⟨some 44, none, .call n_slices_BinarySearch_string_string [.t 41, .t 43]⟩,
  ⟨some 40, none, .op (.mov (.t 44))⟩,
  ⟨some 45, none, .op (.ext 0 (.t 40))⟩,
  ⟨some 46, none, .op (.ext 1 (.t 40))⟩,
  ⟨some 12, none, .op (.mov (.t 45))⟩,
  ⟨some 13, none, .op (.mov (.t 46))⟩]
def query_numbered.r13 : List AStep := [
  ⟨some 48, none, .op (.mov (.t 6))⟩,
  ⟨some 49, none, .op (.fadr 1 (.t 11))⟩,
  ⟨some 50, none, .op (.load false 1 (.t 49))⟩,
  ⟨some 51, none, .call n_slices_BinarySearch_string_string [.t 48, .t 50]⟩,
  ⟨some 47, none, .op (.mov (.t 51))⟩,
  ⟨some 52, none, .op (.ext 0 (.t 47))⟩,
  ⟨some 53, none, .op (.ext 1 (.t 47))⟩,
  ⟨some 14, none, .op (.mov (.t 52))⟩,
  ⟨some 15, none, .op (.mov (.t 53))⟩]
def query_numbered.r14 : List AStep := [
  ⟨some 54, none, .op (.mov (.t 9))⟩,
  ⟨some 55, none, .op (.mov (.t 12))⟩,
  ⟨some 56, none, .op (.mov (.t 14))⟩,
  ⟨some 57, none, .op (.build [.i .i64 0, .i .i64 0] [(0, 1, .t 55), (1, 1, .t 56)])⟩,
  ⟨some 58, none, .op (.bfz 1 2 [.i .i64 0, .i .i64 0] [(0, 2, .t 57)])⟩,
  ⟨some 59, none, .op (.app 2 16 (.t 54) (.t 58))⟩,
  ⟨some 9, none, .op (.mov (.t 59))⟩]
def query_numbered.r15 : List AStep := [
  ⟨some 60, none, .op (.bin .add (.t 36) (.c (.i .i64 1)))⟩,
  ⟨some 36, none, .op (.mov (.t 60))⟩]
def query_numbered.l1 : ACode := .seq (.post [6, 9, 34, 35, 36, 37] (.region query_numbered.r10)) (.seq (.post [6, 9, 34, 35, 36] (.cond (.t 37) (.skip) (.exit 2))) (.seq (.post [6, 9, 34, 35, 36] (.block 3 (.seq (.post [6, 9, 11, 34, 35, 36] (.region query_numbered.r11)) (.seq (.post [6, 9, 11, 12, 34, 35, 36] (.region query_numbered.r12)) (.seq (.post [6, 9, 12, 14, 34, 35, 36] (.region query_numbered.r13)) (.post [6, 9, 34, 35, 36] (.region query_numbered.r14))))))) (.post [6, 9, 34, 35, 36] (.region query_numbered.r15))))
def query_numbered.r16 : List AStep := [
  ⟨some 61, none, .op (.mov (.t 9))⟩,
  ⟨some 62, none, .op (.mov (.t 6))⟩,
  ⟨some 4, none, .op (.mov (.t 61))⟩,
  ⟨some 5, none, .op (.mov (.t 62))⟩]
def query_numbered : AFunc := ⟨63, [.t 4, .t 5], .seq (.post [0, 1] (.region query_numbered.r0)) (.seq (.post [0, 6] (.region query_numbered.r1)) (.seq (.seq (.post [0, 6, 18, 19, 20] (.region query_numbered.r2)) (.post [0, 6] (.block 0 (.loop query_numbered.l0)))) (.seq (.post [0, 6] (.region query_numbered.r7)) (.seq (.post [0, 6, 9] (.region query_numbered.r8)) (.seq (.seq (.post [6, 9, 34, 35, 36] (.region query_numbered.r9)) (.post [6, 9] (.block 2 (.loop query_numbered.l1)))) (.seq (.post [4, 5] (.region query_numbered.r16)) (.ret)))))))⟩
theorem query_numbered.ok : okFunc Tryz.prog Tryz.f34 query_numbered = true := by kernel_rfl
theorem query_numbered.at : Tryz.prog.funcs[n_query_numbered]? = some Tryz.f34 := Tryz.func34
def tarjan_made.r0 : List AStep := [
  ⟨some 4, none, .op (.mov (.c (.sl none 0 0)))⟩]
def tarjan_made.r1 : List AStep := [
  ⟨some 8, none, .op (.mov (.t 0))⟩,
  ⟨some 9, none, .op (.bin .lss (.t 8) (.c (.i .i64 0)))⟩,
  ⟨some 10, none, .op (.mov (.t 9))⟩,
  ⟨some 11, (some (10, false)), .op (.mov (.t 0))⟩,
  ⟨some 12, (some (10, false)), .op (.bin .gtr (.t 11) (.c (.i .i64 20000)))⟩,
  ⟨some 13, none, .op (.pick (.t 10) (.c (.b true)) (.t 12))⟩]
def tarjan_made.r2 : List AStep := [
  ⟨some 4, none, .op (.mov (.c (.sl none 0 0)))⟩]
def tarjan_made.r3 : List AStep := [
  ⟨some 14, none, .op (.mov (.t 0))⟩,
  ⟨some 15, none, .op (.mksl 1 24 [.sl none 0 0] (.t 14) (.t 14))⟩,
  ⟨some 5, none, .op (.mov (.t 15))⟩]
def tarjan_made.r4 : List AStep := [
  ⟨some 16, none, .op (.mov (.t 1))⟩,
  ⟨some 17, none, .op (.len false (.t 16))⟩,
  ⟨some 18, none, .op (.mov (.c (.i .i64 0)))⟩]
def tarjan_made.r5 : List AStep := [
  ⟨some 19, none, .op (.bin .lss (.t 18) (.t 17))⟩]
def tarjan_made.r6 : List AStep := [
  ⟨some 20, none, .op (.iad 2 (.t 16) (.t 18))⟩,
  ⟨some 21, none, .op (.load true 2 (.t 20))⟩,
  ⟨some 7, none, .op (.new [.i .i64 0, .i .i64 0])⟩,
  ⟨none, none, .op (.store 2 (.t 7) (.t 21))⟩]
def tarjan_made.r7 : List AStep := [
  ⟨some 22, none, .op (.fadr 0 (.t 7))⟩,
  ⟨some 23, none, .op (.load false 1 (.t 22))⟩,
  ⟨some 24, none, .op (.bin .geq (.t 23) (.c (.i .i64 0)))⟩,
  ⟨some 25, none, .op (.mov (.t 24))⟩,
  ⟨some 26, (some (25, true)), .op (.fadr 0 (.t 7))⟩,
  ⟨some 27, (some (25, true)), .op (.load false 1 (.t 26))⟩,
  ⟨some 28, (some (25, true)), .op (.mov (.t 0))⟩,
  ⟨some 29, (some (25, true)), .op (.bin .lss (.t 27) (.t 28))⟩,
  ⟨some 30, none, .op (.pick (.t 25) (.t 29) (.c (.b false)))⟩,
  ⟨some 31, none, .op (.mov (.t 30))⟩,
  ⟨some 32, (some (31, true)), .op (.fadr 1 (.t 7))⟩,
  ⟨some 33, (some (31, true)), .op (.load false 1 (.t 32))⟩,
  ⟨some 34, (some (31, true)), .op (.bin .geq (.t 33) (.c (.i .i64 0)))⟩,
  ⟨some 35, none, .op (.pick (.t 31) (.t 34) (.c (.b false)))⟩,
  ⟨some 36, none, .op (.mov (.t 35))⟩,
  ⟨some 37, (some (36, true)), .op (.fadr 1 (.t 7))⟩,
  ⟨some 38, (some (36, true)), .op (.load false 1 (.t 37))⟩,
  ⟨some 39, (some (36, true)), .op (.mov (.t 0))⟩,
  ⟨some 40, (some (36, true)), .op (.bin .lss (.t 38) (.t 39))⟩,
  ⟨some 41, none, .op (.pick (.t 36) (.t 40) (.c (.b false)))⟩]
def tarjan_made.r8 : List AStep := [
  ⟨some 42, none, .op (.mov (.t 5))⟩,
  ⟨some 43, none, .op (.fadr 0 (.t 7))⟩,
  ⟨some 44, none, .op (.load false 1 (.t 43))⟩,
  ⟨some 45, none, .op (.mov (.t 5))⟩,
  ⟨some 46, none, .op (.fadr 0 (.t 7))⟩,
  ⟨some 47, none, .op (.load false 1 (.t 46))⟩,
  ⟨some 48, none, .op (.iad 1 (.t 45) (.t 47))⟩,
  ⟨some 49, none, .op (.load false 1 (.t 48))⟩,
  ⟨some 50, none, .op (.fadr 1 (.t 7))⟩,
  ⟨some 51, none, .op (.load false 1 (.t 50))⟩,
  ⟨some 52, none, .op (.bfz 1 1 [.i .i64 0] [(0, 1, .t 51)])⟩,
  ⟨some 53, none, .op (.app 1 8 (.t 49) (.t 52))⟩,
  ⟨some 54, none, .op (.iad 1 (.t 42) (.t 44))⟩,
  ⟨none, none, .op (.store 1 (.t 54) (.t 53))⟩]
def tarjan_made.r9 : List AStep := [
  ⟨some 55, none, .op (.bin .add (.t 18) (.c (.i .i64 1)))⟩,
  ⟨some 18, none, .op (.mov (.t 55))⟩]
def tarjan_made.l0 : ACode := .seq (.post [0, 5, 16, 17, 18, 19] (.region tarjan_made.r5)) (.seq (.post [0, 5, 16, 17, 18] (.cond (.t 19) (.skip) (.exit 0))) (.seq (.post [0, 5, 16, 17, 18] (.block 1 (.seq (.post [0, 5, 7, 16, 17, 18] (.region tarjan_made.r6)) (.seq (.post [0, 5, 7, 16, 17, 18, 41] (.region tarjan_made.r7)) (.post [0, 5, 16, 17, 18] (.cond (.t 41) (.post [0, 5, 16, 17, 18] (.draw [0, 0, 2, 0, 0, 16, 56, 120, 0, 256, 768, 2040, 4095, 8191] tarjan_made.r8)) (.skip))))))) (.post [0, 5, 16, 17, 18] (.region tarjan_made.r9))))
def tarjan_made.r10 : List AStep := [
  ⟨some 56, none, .op (.mov (.t 5))⟩,
  ⟨some 4, none, .op (.mov (.t 56))⟩]
def tarjan_made : AFunc := ⟨57, [.t 4], .seq (.post [0, 1] (.region tarjan_made.r0)) (.seq (.seq (.post [0, 1, 13] (.region tarjan_made.r1)) (.post [0, 1] (.cond (.t 13) (.seq (.post [4] (.region tarjan_made.r2)) (.ret)) (.skip)))) (.seq (.post [0, 1, 5] (.region tarjan_made.r3)) (.seq (.seq (.post [0, 5, 16, 17, 18] (.region tarjan_made.r4)) (.post [5] (.block 0 (.loop tarjan_made.l0)))) (.seq (.post [4] (.region tarjan_made.r10)) (.ret)))))⟩
theorem tarjan_made.ok : okFunc Tryz.prog Tryz.f52 tarjan_made = true := by kernel_rfl
theorem tarjan_made.at : Tryz.prog.funcs[n_tarjan_made]? = some Tryz.f52 := Tryz.func52
def tarjan_search_visit.r0 : List AStep := [
  ⟨some 6, none, .op (.mov (.t 0))⟩,
  ⟨some 7, none, .op (.nilc (.t 6))⟩,
  ⟨some 8, none, .op (.fadr 1 (.t 7))⟩,
  ⟨some 9, none, .op (.load false 1 (.t 8))⟩,
  ⟨some 10, none, .op (.mov (.t 1))⟩,
  ⟨some 11, none, .op (.mov (.t 0))⟩,
  ⟨some 12, none, .op (.nilc (.t 11))⟩,
  ⟨some 13, none, .op (.fadr 2 (.t 12))⟩,
  ⟨some 14, none, .op (.load false 1 (.t 13))⟩,
  ⟨some 15, none, .op (.mov (.t 1))⟩,
  ⟨some 16, none, .op (.mov (.t 0))⟩,
  ⟨some 17, none, .op (.nilc (.t 16))⟩,
  ⟨some 18, none, .op (.fadr 3 (.t 17))⟩,
  ⟨some 19, none, .op (.load false 1 (.t 18))⟩,
  ⟨some 20, none, .op (.mov (.t 1))⟩,
  ⟨some 21, none, .op (.mov (.t 2))⟩,
  ⟨some 22, none, .op (.mov (.t 2))⟩,
  ⟨some 23, none, .op (.iad 1 (.t 9) (.t 10))⟩,
  ⟨none, none, .op (.store 1 (.t 23) (.t 21))⟩,
  ⟨some 24, none, .op (.iad 1 (.t 14) (.t 15))⟩,
  ⟨none, none, .op (.store 1 (.t 24) (.t 22))⟩,
  ⟨some 25, none, .op (.iad 1 (.t 19) (.t 20))⟩,
  ⟨none, none, .op (.store 1 (.t 25) (.c (.b true)))⟩]
def tarjan_search_visit.r1 : List AStep := [
  ⟨some 26, none, .op (.mov (.t 0))⟩,
  ⟨some 27, none, .op (.mov (.t 0))⟩,
  ⟨some 28, none, .op (.nilc (.t 27))⟩,
  ⟨some 29, none, .op (.fadr 4 (.t 28))⟩,
  ⟨some 30, none, .op (.load false 1 (.t 29))⟩,
  ⟨some 31, none, .op (.mov (.t 1))⟩,
  ⟨some 32, none, .op (.bfz 1 1 [.i .i64 0] [(0, 1, .t 31)])⟩,
  ⟨some 33, none, .op (.app 1 8 (.t 30) (.t 32))⟩,
  ⟨some 34, none, .op (.nilc (.t 26))⟩,
  ⟨some 35, none, .op (.fadr 4 (.t 34))⟩,
  ⟨none, none, .op (.store 1 (.t 35) (.t 33))⟩]
def tarjan_search_visit.r2 : List AStep := [
  ⟨some 36, none, .op (.mov (.t 0))⟩,
  ⟨some 37, none, .op (.mov (.t 0))⟩,
  ⟨some 38, none, .op (.nilc (.t 37))⟩,
  ⟨some 39, none, .op (.fadr 7 (.t 38))⟩,
  ⟨some 40, none, .op (.load false 1 (.t 39))⟩,
  ⟨some 41, none, .op (.mov (.t 1))⟩,
  ⟨some 42, none, .op (.build [.i .i64 0, .i .i64 0] [(0, 1, .t 41)])⟩,
  ⟨some 43, none, .op (.bfz 1 2 [.i .i64 0, .i .i64 0] [(0, 2, .t 42)])⟩,
  ⟨some 44, none, .op (.app 2 16 (.t 40) (.t 43))⟩,
  ⟨some 45, none, .op (.nilc (.t 36))⟩,
  ⟨some 46, none, .op (.fadr 7 (.t 45))⟩,
  ⟨none, none, .op (.store 1 (.t 46) (.t 44))⟩]
def tarjan_search_visit : AFunc := ⟨47, [], .seq (.post [0, 1] (.draw [0, 1, 3, 7, 0, 0, 32, 96, 224, 0, 0, 1024, 3072, 7168, 0, 0, 0, 48639, 179711, 507903, 1032191, 2097151, 4194303] tarjan_search_visit.r0)) (.seq (.post [0, 1] (.region tarjan_search_visit.r1)) (.post [] (.region tarjan_search_visit.r2)))⟩
theorem tarjan_search_visit.ok : okFunc Tryz.prog Tryz.f78 tarjan_search_visit = true := by kernel_rfl
theorem tarjan_search_visit.at : Tryz.prog.funcs[n_tarjan_search_visit]? = some Tryz.f78 := Tryz.func78
def tarjan_search_leave.r0 : List AStep := [
  ⟨some 6, none, .op (.mov (.t 0))⟩,
  ⟨some 7, none, .op (.mov (.t 0))⟩,
  ⟨some 8, none, .op (.nilc (.t 7))⟩,
  ⟨some 9, none, .op (.fadr 7 (.t 8))⟩,
  ⟨some 10, none, .op (.load false 1 (.t 9))⟩,
  ⟨some 11, none, .op (.mov (.t 0))⟩,
  ⟨some 12, none, .op (.nilc (.t 11))⟩,
  ⟨some 13, none, .op (.fadr 7 (.t 12))⟩,
  ⟨some 14, none, .op (.load false 1 (.t 13))⟩,
  ⟨some 15, none, .op (.len false (.t 14))⟩,
  ⟨some 16, none, .op (.bin .sub (.t 15) (.c (.i .i64 1)))⟩,
  ⟨some 17, none, .op (.slc 2 (.t 10) none (some (.t 16)))⟩,
  ⟨some 18, none, .op (.nilc (.t 6))⟩,
  ⟨some 19, none, .op (.fadr 7 (.t 18))⟩,
  ⟨none, none, .op (.store 1 (.t 19) (.t 17))⟩]
def tarjan_search_leave.r1 : List AStep := [
  ⟨some 20, none, .op (.mov (.t 0))⟩,
  ⟨some 21, none, .op (.nilc (.t 20))⟩,
  ⟨some 22, none, .op (.fadr 7 (.t 21))⟩,
  ⟨some 23, none, .op (.load false 1 (.t 22))⟩,
  ⟨some 24, none, .op (.len false (.t 23))⟩,
  ⟨some 25, none, .op (.bin .gtr (.t 24) (.c (.i .i64 0)))⟩]
def tarjan_search_leave.r2 : List AStep := [
  ⟨some 26, none, .op (.mov (.t 0))⟩,
  ⟨some 27, none, .op (.nilc (.t 26))⟩,
  ⟨some 28, none, .op (.fadr 7 (.t 27))⟩,
  ⟨some 29, none, .op (.load false 1 (.t 28))⟩,
  ⟨some 30, none, .op (.mov (.t 0))⟩,
  ⟨some 31, none, .op (.nilc (.t 30))⟩,
  ⟨some 32, none, .op (.fadr 7 (.t 31))⟩,
  ⟨some 33, none, .op (.load false 1 (.t 32))⟩,
  ⟨some 34, none, .op (.len false (.t 33))⟩,
  ⟨some 35, none, .op (.bin .sub (.t 34) (.c (.i .i64 1)))⟩,
  ⟨some 36, none, .op (.iad 2 (.t 29) (.t 35))⟩,
  ⟨some 37, none, .op (.fadr 0 (.t 36))⟩,
  ⟨some 38, none, .op (.load false 1 (.t 37))⟩,
  ⟨some 4, none, .op (.mov (.t 38))⟩]
def tarjan_search_leave.r3 : List AStep := [
  ⟨some 39, none, .op (.mov (.t 0))⟩,
  ⟨some 40, none, .op (.nilc (.t 39))⟩,
  ⟨some 41, none, .op (.fadr 2 (.t 40))⟩,
  ⟨some 42, none, .op (.load false 1 (.t 41))⟩,
  ⟨some 43, none, .op (.mov (.t 4))⟩,
  ⟨some 44, none, .op (.mov (.t 0))⟩,
  ⟨some 45, none, .op (.nilc (.t 44))⟩,
  ⟨some 46, none, .op (.fadr 2 (.t 45))⟩,
  ⟨some 47, none, .op (.load false 1 (.t 46))⟩,
  ⟨some 48, none, .op (.mov (.t 4))⟩,
  ⟨some 49, none, .op (.iad 1 (.t 47) (.t 48))⟩,
  ⟨some 50, none, .op (.load false 1 (.t 49))⟩,
  ⟨some 51, none, .op (.mov (.t 0))⟩,
  ⟨some 52, none, .op (.nilc (.t 51))⟩,
  ⟨some 53, none, .op (.fadr 2 (.t 52))⟩,
  ⟨some 54, none, .op (.load false 1 (.t 53))⟩,
  ⟨some 55, none, .op (.mov (.t 1))⟩,
  ⟨some 56, none, .op (.iad 1 (.t 54) (.t 55))⟩,
  ⟨some 57, none, .op (.load false 1 (.t 56))⟩,
  ⟨some 58, none, .op (.mn [.t 50, .t 57])⟩,
  ⟨some 59, none, .op (.iad 1 (.t 42) (.t 43))⟩,
  ⟨none, none, .op (.store 1 (.t 59) (.t 58))⟩]
def tarjan_search_leave.r4 : List AStep := [
  ⟨some 60, none, .op (.mov (.t 0))⟩,
  ⟨some 61, none, .op (.nilc (.t 60))⟩,
  ⟨some 62, none, .op (.fadr 2 (.t 61))⟩,
  ⟨some 63, none, .op (.load false 1 (.t 62))⟩,
  ⟨some 64, none, .op (.mov (.t 1))⟩,
  ⟨some 65, none, .op (.iad 1 (.t 63) (.t 64))⟩,
  ⟨some 66, none, .op (.load false 1 (.t 65))⟩,
  ⟨some 67, none, .op (.mov (.t 0))⟩,
  ⟨some 68, none, .op (.nilc (.t 67))⟩,
  ⟨some 69, none, .op (.fadr 1 (.t 68))⟩,
  ⟨some 70, none, .op (.load false 1 (.t 69))⟩,
  ⟨some 71, none, .op (.mov (.t 1))⟩,
  ⟨some 72, none, .op (.iad 1 (.t 70) (.t 71))⟩,
  ⟨some 73, none, .op (.load false 1 (.t 72))⟩,
  ⟨some 74, none, .op (.bin .neq (.t 66) (.t 73))⟩]
def tarjan_search_leave.r5 : List AStep := [
  ⟨some 75, none, .op (.mov (.t 0))⟩,
  ⟨some 76, none, .op (.nilc (.t 75))⟩,
  ⟨some 77, none, .op (.fadr 3 (.t 76))⟩,
  ⟨some 78, none, .op (.load false 1 (.t 77))⟩,
  ⟨some 79, none, .op (.mov (.t 1))⟩,
  ⟨some 80, none, .op (.iad 1 (.t 78) (.t 79))⟩,
  ⟨some 81, none, .op (.load false 1 (.t 80))⟩]
def tarjan_search_leave.r6 : List AStep := [
  ⟨some 82, none, .op (.mov (.t 0))⟩,
  ⟨some 83, none, .op (.nilc (.t 82))⟩,
  ⟨some 84, none, .op (.fadr 4 (.t 83))⟩,
  ⟨some 85, none, .op (.load false 1 (.t 84))⟩,
  ⟨some 86, none, .op (.mov (.t 0))⟩,
  ⟨some 87, none, .op (.nilc (.t 86))⟩,
  ⟨some 88, none, .op (.fadr 4 (.t 87))⟩,
  ⟨some 89, none, .op (.load false 1 (.t 88))⟩,
  ⟨some 90, none, .op (.len false (.t 89))⟩,
  ⟨some 91, none, .op (.bin .sub (.t 90) (.c (.i .i64 1)))⟩,
  ⟨some 92, none, .op (.iad 1 (.t 85) (.t 91))⟩,
  ⟨some 93, none, .op (.load false 1 (.t 92))⟩,
  ⟨some 5, none, .op (.mov (.t 93))⟩]
def tarjan_search_leave.r7 : List AStep := [
  ⟨some 94, none, .op (.mov (.t 0))⟩,
  ⟨some 95, none, .op (.mov (.t 0))⟩,
  ⟨some 96, none, .op (.nilc (.t 95))⟩,
  ⟨some 97, none, .op (.fadr 4 (.t 96))⟩,
  ⟨some 98, none, .op (.load false 1 (.t 97))⟩,
  ⟨some 99, none, .op (.mov (.t 0))⟩,
  ⟨some 100, none, .op (.nilc (.t 99))⟩,
  ⟨some 101, none, .op (.fadr 4 (.t 100))⟩,
  ⟨some 102, none, .op (.load false 1 (.t 101))⟩,
  ⟨some 103, none, .op (.len false (.t 102))⟩,
  ⟨some 104, none, .op (.bin .sub (.t 103) (.c (.i .i64 1)))⟩,
  ⟨some 105, none, .op (.slc 1 (.t 98) none (some (.t 104)))⟩,
  ⟨some 106, none, .op (.nilc (.t 94))⟩,
  ⟨some 107, none, .op (.fadr 4 (.t 106))⟩,
  ⟨none, none, .op (.store 1 (.t 107) (.t 105))⟩]
def tarjan_search_leave.r8 : List AStep := [
  ⟨some 108, none, .op (.mov (.t 0))⟩,
  ⟨some 109, none, .op (.nilc (.t 108))⟩,
  ⟨some 110, none, .op (.fadr 5 (.t 109))⟩,
  ⟨some 111, none, .op (.load false 1 (.t 110))⟩,
  ⟨some 112, none, .op (.mov (.t 5))⟩,
  ⟨some 113, none, .op (.mov (.t 0))⟩,
  ⟨some 114, none, .op (.nilc (.t 113))⟩,
  ⟨some 115, none, .op (.fadr 3 (.t 114))⟩,
  ⟨some 116, none, .op (.load false 1 (.t 115))⟩,
  ⟨some 117, none, .op (.mov (.t 5))⟩,
  ⟨some 118, none, .op (.mov (.t 0))⟩,
  ⟨some 119, none, .op (.nilc (.t 118))⟩,
  ⟨some 120, none, .op (.fadr 6 (.t 119))⟩,
  ⟨some 121, none, .op (.load false 1 (.t 120))⟩,
  ⟨some 122, none, .op (.iad 1 (.t 111) (.t 112))⟩,
  ⟨none, none, .op (.store 1 (.t 122) (.t 121))⟩,
  ⟨some 123, none, .op (.iad 1 (.t 116) (.t 117))⟩,
  ⟨none, none, .op (.store 1 (.t 123) (.c (.b false)))⟩]
def tarjan_search_leave.l0 : ACode := .seq (.seq (.post [0, 1, 81] (.region tarjan_search_leave.r5)) (.post [0, 1] (.cond (.t 81) (.skip) (.exit 0)))) (.post [0, 1] (.block 1 (.seq (.post [0, 1, 5] (.draw [0, 1, 3, 7, 0, 16, 48, 112, 240, 496, 1023, 2047, 4095] tarjan_search_leave.r6)) (.seq (.post [0, 1, 5] (.draw [0, 0, 2, 6, 14, 0, 32, 96, 224, 480, 992, 2046, 4095, 8191, 16383] tarjan_search_leave.r7)) (.post [0, 1] (.draw [0, 1, 3, 7, 0, 0, 32, 96, 224, 0, 0, 1024, 3072, 7168, 15871, 32255, 65535, 131071] tarjan_search_leave.r8))))))
def tarjan_search_leave.r9 : List AStep := [
  ⟨some 124, none, .op (.mov (.t 0))⟩,
  ⟨some 125, none, .op (.nilc (.t 124))⟩,
  ⟨some 126, none, .op (.fadr 6 (.t 125))⟩,
  ⟨some 127, none, .op (.load false 1 (.t 126))⟩,
  ⟨some 128, none, .op (.bin .add (.t 127) (.c (.i .i64 1)))⟩,
  ⟨some 129, none, .op (.nilc (.t 124))⟩,
  ⟨some 130, none, .op (.fadr 6 (.t 129))⟩,
  ⟨none, none, .op (.store 1 (.t 130) (.t 128))⟩]
def tarjan_search_leave : AFunc := ⟨131, [], .seq (.post [0, 1] (.draw [0, 0, 2, 6, 14, 0, 32, 96, 224, 480, 992, 2046, 4095, 8191, 16383] tarjan_search_leave.r0)) (.seq (.seq (.post [0, 1, 25] (.region tarjan_search_leave.r1)) (.post [0, 1] (.cond (.t 25) (.seq (.post [0, 1, 4] (.draw [0, 1, 3, 7, 0, 16, 48, 112, 240, 496, 1023, 2047, 4095, 8191] tarjan_search_leave.r2)) (.post [0, 1] (.draw [0, 1, 3, 7, 0, 0, 32, 96, 224, 0, 992, 2016, 0, 4096, 12288, 28672, 0, 126976, 258048, 524256, 1048575, 2097151] tarjan_search_leave.r3))) (.skip)))) (.seq (.seq (.post [0, 1, 74] (.draw [0, 1, 3, 7, 0, 31, 63, 0, 128, 384, 896, 0, 3968, 8064, 16383] tarjan_search_leave.r4)) (.post [0, 1] (.cond (.t 74) (.ret) (.skip)))) (.seq (.post [0] (.block 0 (.loop tarjan_search_leave.l0))) (.post [] (.region tarjan_search_leave.r9)))))⟩
theorem tarjan_search_leave.ok : okFunc Tryz.prog Tryz.f79 tarjan_search_leave = true := by kernel_rfl
theorem tarjan_search_leave.at : Tryz.prog.funcs[n_tarjan_search_leave]? = some Tryz.f79 := Tryz.func79
def tarjan_graph_run.r0 : List AStep := [
  ⟨some 2, none, .op (.mov (.c (.p none)))⟩]
def tarjan_graph_run.r1 : List AStep := [
  ⟨some 9, none, .op (.mov (.t 0))⟩,
  ⟨some 10, none, .op (.len false (.t 9))⟩,
  ⟨some 3, none, .op (.mov (.t 10))⟩]
def tarjan_graph_run.r2 : List AStep := [
  ⟨some 11, none, .op (.mov (.t 0))⟩,
  ⟨some 12, none, .op (.mov (.t 3))⟩,
  ⟨some 13, none, .op (.mksl 1 8 [.i .i64 0] (.t 12) (.t 12))⟩,
  ⟨some 14, none, .op (.mov (.t 3))⟩,
  ⟨some 15, none, .op (.mksl 1 8 [.i .i64 0] (.t 14) (.t 14))⟩,
  ⟨some 16, none, .op (.mov (.t 3))⟩,
  ⟨some 17, none, .op (.mksl 1 1 [.b false] (.t 16) (.t 16))⟩,
  ⟨some 18, none, .op (.mov (.t 3))⟩,
  ⟨some 19, none, .op (.mksl 1 8 [.i .i64 0] (.t 18) (.t 18))⟩,
  ⟨some 20, none, .op (.build [.sl none 0 0, .sl none 0 0, .sl none 0 0, .sl none 0 0, .sl none 0 0, .sl none 0 0, .i .i64 0, .sl none 0 0] [(0, 1, .t 11), (1, 1, .t 13), (2, 1, .t 15), (3, 1, .t 17), (5, 1, .t 19)])⟩,
  ⟨some 21, none, .op (.box (.t 20))⟩,
  ⟨some 4, none, .op (.mov (.t 21))⟩]
def tarjan_graph_run.r3 : List AStep := [
  ⟨some 5, none, .op (.mov (.c (.i .i64 0)))⟩]
def tarjan_graph_run.r4 : List AStep := [
  ⟨some 22, none, .op (.mov (.t 3))⟩,
  ⟨some 23, none, .op (.mov (.c (.i .i64 0)))⟩]
def tarjan_graph_run.r5 : List AStep := [
  ⟨some 24, none, .op (.bin .lss (.t 23) (.t 22))⟩]
def tarjan_graph_run.r6 : List AStep := [
  ⟨some 25, none, .op (.mov (.t 23))⟩,
  ⟨some 6, none, .op (.mov (.t 25))⟩]
def tarjan_graph_run.r7 : List AStep := [
  ⟨some 26, none, .op (.mov (.t 4))⟩,
  ⟨some 27, none, .op (.nilc (.t 26))⟩,
  ⟨some 28, none, .op (.fadr 1 (.t 27))⟩,
  ⟨some 29, none, .op (.load false 1 (.t 28))⟩,
  ⟨some 30, none, .op (.mov (.t 6))⟩,
  ⟨some 31, none, .op (.iad 1 (.t 29) (.t 30))⟩,
  ⟨some 32, none, .op (.load false 1 (.t 31))⟩,
  ⟨some 33, none, .op (.bin .eql (.t 32) (.c (.i .i64 0)))⟩]
def tarjan_graph_run.r8 : List AStep := [
  ⟨some 34, none, .op (.mov (.t 5))⟩,
  ⟨some 35, none, .op (.bin .add (.t 34) (.c (.i .i64 1)))⟩,
  ⟨some 5, none, .op (.mov (.t 35))⟩]
def tarjan_graph_run.r9 : List AStep := [
  ⟨some 36, none, .op (.mov (.t 4))⟩,
  ⟨some 37, none, .op (.mov (.t 6))⟩,
  ⟨some 38, none, .op (.mov (.t 5))⟩,
  ⟨some 39, none, .call n_tarjan_search_visit [.t 36, .t 37, .t 38]⟩]
def tarjan_graph_run.r10 : List AStep := [
  ⟨some 40, none, .op (.mov (.t 4))⟩,
  ⟨some 41, none, .op (.nilc (.t 40))⟩,
  ⟨some 42, none, .op (.fadr 7 (.t 41))⟩,
  ⟨some 43, none, .op (.load false 1 (.t 42))⟩,
  ⟨some 44, none, .op (.len false (.t 43))⟩,
  ⟨some 45, none, .op (.bin .gtr (.t 44) (.c (.i .i64 0)))⟩]
def tarjan_graph_run.r11 : List AStep := [
  ⟨some 46, none, .op (.mov (.t 4))⟩,
  ⟨some 47, none, .op (.nilc (.t 46))⟩,
  ⟨some 48, none, .op (.fadr 7 (.t 47))⟩,
  ⟨some 49, none, .op (.load false 1 (.t 48))⟩,
  ⟨some 50, none, .op (.mov (.t 4))⟩,
  ⟨some 51, none, .op (.nilc (.t 50))⟩,
  ⟨some 52, none, .op (.fadr 7 (.t 51))⟩,
  ⟨some 53, none, .op (.load false 1 (.t 52))⟩,
  ⟨some 54, none, .op (.len false (.t 53))⟩,
  ⟨some 55, none, .op (.bin .sub (.t 54) (.c (.i .i64 1)))⟩,
  ⟨some 56, none, .op (.iad 2 (.t 49) (.t 55))⟩,
  ⟨some 7, none, .op (.mov (.t 56))⟩]
def tarjan_graph_run.r12 : List AStep := [
  ⟨some 57, none, .op (.mov (.t 7))⟩,
  ⟨some 58, none, .op (.nilc (.t 57))⟩,
  ⟨some 59, none, .op (.fadr 1 (.t 58))⟩,
  ⟨some 60, none, .op (.load false 1 (.t 59))⟩,
  ⟨some 61, none, .op (.mov (.t 0))⟩,
  ⟨some 62, none, .op (.mov (.t 7))⟩,
  ⟨some 63, none, .op (.nilc (.t 62))⟩,
  ⟨some 64, none, .op (.fadr 0 (.t 63))⟩,
  ⟨some 65, none, .op (.load false 1 (.t 64))⟩,
  ⟨some 66, none, .op (.iad 1 (.t 61) (.t 65))⟩,
  ⟨some 67, none, .op (.load false 1 (.t 66))⟩,
  ⟨some 68, none, .op (.len false (.t 67))⟩,
  ⟨some 69, none, .op (.bin .lss (.t 60) (.t 68))⟩]
def tarjan_graph_run.r13 : List AStep := [
  ⟨some 70, none, .op (.mov (.t 0))⟩,
  ⟨some 71, none, .op (.mov (.t 7))⟩,
  ⟨some 72, none, .op (.nilc (.t 71))⟩,
  ⟨some 73, none, .op (.fadr 0 (.t 72))⟩,
  ⟨some 74, none, .op (.load false 1 (.t 73))⟩,
  ⟨some 75, none, .op (.iad 1 (.t 70) (.t 74))⟩,
  ⟨some 76, none, .op (.load false 1 (.t 75))⟩,
  ⟨some 77, none, .op (.mov (.t 7))⟩,
  ⟨some 78, none, .op (.nilc (.t 77))⟩,
  ⟨some 79, none, .op (.fadr 1 (.t 78))⟩,
  ⟨some 80, none, .op (.load false 1 (.t 79))⟩,
  ⟨some 81, none, .op (.iad 1 (.t 76) (.t 80))⟩,
  ⟨some 82, none, .op (.load false 1 (.t 81))⟩,
  ⟨some 8, none, .op (.mov (.t 82))⟩]
def tarjan_graph_run.r14 : List AStep := [
  ⟨some 83, none, .op (.mov (.t 7))⟩,
  ⟨some 84, none, .op (.nilc (.t 83))⟩,
  ⟨some 85, none, .op (.fadr 1 (.t 84))⟩,
  ⟨some 86, none, .op (.load false 1 (.t 85))⟩,
  ⟨some 87, none, .op (.bin .add (.t 86) (.c (.i .i64 1)))⟩,
  ⟨some 88, none, .op (.nilc (.t 83))⟩,
  ⟨some 89, none, .op (.fadr 1 (.t 88))⟩,
  ⟨none, none, .op (.store 1 (.t 89) (.t 87))⟩]
def tarjan_graph_run.r15 : List AStep := [
  ⟨some 90, none, .op (.mov (.t 4))⟩,
  ⟨some 91, none, .op (.nilc (.t 90))⟩,
  ⟨some 92, none, .op (.fadr 1 (.t 91))⟩,
  ⟨some 93, none, .op (.load false 1 (.t 92))⟩,
  ⟨some 94, none, .op (.mov (.t 8))⟩,
  ⟨some 95, none, .op (.iad 1 (.t 93) (.t 94))⟩,
  ⟨some 96, none, .op (.load false 1 (.t 95))⟩,
  ⟨some 97, none, .op (.bin .eql (.t 96) (.c (.i .i64 0)))⟩]
def tarjan_graph_run.r16 : List AStep := [
  ⟨some 98, none, .op (.mov (.t 5))⟩,
  ⟨some 99, none, .op (.bin .add (.t 98) (.c (.i .i64 1)))⟩,
  ⟨some 5, none, .op (.mov (.t 99))⟩]
def tarjan_graph_run.r17 : List AStep := [
  ⟨some 100, none, .op (.mov (.t 4))⟩,
  ⟨some 101, none, .op (.mov (.t 8))⟩,
  ⟨some 102, none, .op (.mov (.t 5))⟩,
  ⟨some 103, none, .call n_tarjan_search_visit [.t 100, .t 101, .t 102]⟩]
def tarjan_graph_run.r18 : List AStep := [
  ⟨some 104, none, .op (.mov (.t 4))⟩,
  ⟨some 105, none, .op (.nilc (.t 104))⟩,
  ⟨some 106, none, .op (.fadr 3 (.t 105))⟩,
  ⟨some 107, none, .op (.load false 1 (.t 106))⟩,
  ⟨some 108, none, .op (.mov (.t 8))⟩,
  ⟨some 109, none, .op (.iad 1 (.t 107) (.t 108))⟩,
  ⟨some 110, none, .op (.load false 1 (.t 109))⟩]
def tarjan_graph_run.r19 : List AStep := [
  ⟨some 111, none, .op (.mov (.t 4))⟩,
  ⟨some 112, none, .op (.nilc (.t 111))⟩,
  ⟨some 113, none, .op (.fadr 2 (.t 112))⟩,
  ⟨some 114, none, .op (.load false 1 (.t 113))⟩,
  ⟨some 115, none, .op (.mov (.t 7))⟩,
  ⟨some 116, none, .op (.nilc (.t 115))⟩,
  ⟨some 117, none, .op (.fadr 0 (.t 116))⟩,
  ⟨some 118, none, .op (.load false 1 (.t 117))⟩,
  ⟨some 119, none, .op (.mov (.t 4))⟩,
  ⟨some 120, none, .op (.nilc (.t 119))⟩,
  ⟨some 121, none, .op (.fadr 2 (.t 120))⟩,
  ⟨some 122, none, .op (.load false 1 (.t 121))⟩,
  ⟨some 123, none, .op (.mov (.t 7))⟩,
  ⟨some 124, none, .op (.nilc (.t 123))⟩,
  ⟨some 125, none, .op (.fadr 0 (.t 124))⟩,
  ⟨some 126, none, .op (.load false 1 (.t 125))⟩,
  ⟨some 127, none, .op (.iad 1 (.t 122) (.t 126))⟩,
  ⟨some 128, none, .op (.load false 1 (.t 127))⟩,
  ⟨some 129, none, .op (.mov (.t 4))⟩,
  ⟨some 130, none, .op (.nilc (.t 129))⟩,
  ⟨some 131, none, .op (.fadr 1 (.t 130))⟩,
  ⟨some 132, none, .op (.load false 1 (.t 131))⟩,
  ⟨some 133, none, .op (.mov (.t 8))⟩,
  ⟨some 134, none, .op (.iad 1 (.t 132) (.t 133))⟩,
  ⟨some 135, none, .op (.load false 1 (.t 134))⟩,
  ⟨some 136, none, .op (.mn [.t 128, .t 135])⟩,
  ⟨some 137, none, .op (.iad 1 (.t 114) (.t 118))⟩,
  ⟨none, none, .op (.store 1 (.t 137) (.t 136))⟩]
def tarjan_graph_run.l2 : ACode := .seq (.seq (.post [0, 4, 5, 7, 22, 23, 69] (.draw [0, 1, 3, 7, 0, 0, 32, 96, 224, 496, 1008, 2032, 4095] tarjan_graph_run.r12)) (.post [0, 4, 5, 7, 22, 23] (.cond (.t 69) (.skip) (.exit 4)))) (.post [0, 4, 5, 7, 22, 23] (.block 5 (.seq (.post [0, 4, 5, 7, 8, 22, 23] (.draw [0, 0, 2, 6, 14, 31, 63, 0, 128, 384, 896, 2047, 4095, 8191] tarjan_graph_run.r13)) (.seq (.post [0, 4, 5, 7, 8, 22, 23] (.region tarjan_graph_run.r14)) (.seq (.seq (.post [0, 4, 5, 7, 8, 22, 23, 97] (.region tarjan_graph_run.r15)) (.post [0, 4, 5, 7, 8, 22, 23] (.cond (.t 97) (.seq (.post [0, 4, 5, 8, 22, 23] (.region tarjan_graph_run.r16)) (.seq (.post [0, 4, 5, 22, 23] (.region tarjan_graph_run.r17)) (.exit 3))) (.skip)))) (.seq (.post [0, 4, 5, 7, 8, 22, 23, 110] (.region tarjan_graph_run.r18)) (.post [0, 4, 5, 7, 22, 23] (.cond (.t 110) (.post [0, 4, 5, 7, 22, 23] (.draw [0, 1, 3, 7, 0, 16, 48, 112, 0, 256, 768, 1792, 0, 4096, 12288, 28672, 65280, 130816, 0, 262144, 786432, 1835008, 0, 8126464, 16515072, 33554176, 67108863, 134217727] tarjan_graph_run.r19)) (.skip)))))))))
def tarjan_graph_run.r20 : List AStep := [
  ⟨some 138, none, .op (.mov (.t 4))⟩,
  ⟨some 139, none, .op (.mov (.t 7))⟩,
  ⟨some 140, none, .op (.nilc (.t 139))⟩,
  ⟨some 141, none, .op (.fadr 0 (.t 140))⟩,
  ⟨some 142, none, .op (.load false 1 (.t 141))⟩,
  ⟨some 143, none, .call n_tarjan_search_leave [.t 138, .t 142]⟩]
def tarjan_graph_run.l1 : ACode := .seq (.seq (.post [0, 4, 5, 22, 23, 45] (.region tarjan_graph_run.r10)) (.post [0, 4, 5, 22, 23] (.cond (.t 45) (.skip) (.exit 2)))) (.post [0, 4, 5, 22, 23] (.block 3 (.seq (.post [0, 4, 5, 7, 22, 23] (.draw [0, 1, 3, 7, 0, 16, 48, 112, 240, 496, 1023, 2047] tarjan_graph_run.r11)) (.seq (.post [0, 4, 5, 7, 22, 23] (.block 4 (.loop tarjan_graph_run.l2))) (.post [0, 4, 5, 22, 23] (.region tarjan_graph_run.r20))))))
def tarjan_graph_run.r21 : List AStep := [
  ⟨some 144, none, .op (.bin .add (.t 23) (.c (.i .i64 1)))⟩,
  ⟨some 23, none, .op (.mov (.t 144))⟩]
def tarjan_graph_run.l0 : ACode := .seq (.post [0, 4, 5, 22, 23, 24] (.region tarjan_graph_run.r5)) (.seq (.post [0, 4, 5, 22, 23] (.cond (.t 24) (.skip) (.exit 0))) (.seq (.post [0, 4, 5, 22, 23] (.block 1 (.seq (.post [0, 4, 5, 6, 22, 23] (.region tarjan_graph_run.r6)) (.scope (.seq (.seq (.post [0, 4, 5, 6, 22, 23, 33] (.region tarjan_graph_run.r7)) (.post [0, 4, 5, 22, 23] (.cond (.t 33) (.seq (.post [0, 4, 5, 6, 22, 23] (.region tarjan_graph_run.r8)) (.post [0, 4, 5, 22, 23] (.region tarjan_graph_run.r9))) (.skip)))) (.seq (.label) (.post [0, 4, 5, 22, 23] (.block 2 (.loop tarjan_graph_run.l1))))))))) (.post [0, 4, 5, 22, 23] (.region tarjan_graph_run.r21))))
def tarjan_graph_run.r22 : List AStep := [
  ⟨some 145, none, .op (.mov (.t 4))⟩,
  ⟨some 2, none, .op (.mov (.t 145))⟩]
def tarjan_graph_run : AFunc := ⟨146, [.t 2], .seq (.post [0] (.region tarjan_graph_run.r0)) (.seq (.post [0, 3] (.region tarjan_graph_run.r1)) (.seq (.post [0, 3, 4] (.drawA [0, 0, 2, 0, 8, 0, 32, 0, 128, 511, 1023, 2047] [2, 4, 6, 8] tarjan_graph_run.r2)) (.seq (.post [0, 3, 4, 5] (.region tarjan_graph_run.r3)) (.seq (.seq (.post [0, 4, 5, 22, 23] (.region tarjan_graph_run.r4)) (.post [4] (.block 0 (.loop tarjan_graph_run.l0)))) (.seq (.post [2] (.region tarjan_graph_run.r22)) (.ret))))))⟩
theorem tarjan_graph_run.ok : okFunc Tryz.prog Tryz.f53 tarjan_graph_run = true := by kernel_rfl
theorem tarjan_graph_run.at : Tryz.prog.funcs[n_tarjan_graph_run]? = some Tryz.f53 := Tryz.func53
def slices_Index_int_int.r0 : List AStep := [
  ⟨some 4, none, .op (.mov (.c (.i .i64 0)))⟩]
def slices_Index_int_int.r1 : List AStep := [
  ⟨some 6, none, .op (.mov (.t 0))⟩,
  ⟨some 7, none, .op (.len false (.t 6))⟩,
  ⟨some 8, none, .op (.mov (.c (.i .i64 0)))⟩]
def slices_Index_int_int.r2 : List AStep := [
  ⟨some 9, none, .op (.bin .lss (.t 8) (.t 7))⟩]
def slices_Index_int_int.r3 : List AStep := [
  ⟨some 10, none, .op (.mov (.t 8))⟩,
  ⟨some 5, none, .op (.mov (.t 10))⟩]
def slices_Index_int_int.r4 : List AStep := [
  ⟨some 11, none, .op (.mov (.t 1))⟩,
  ⟨some 12, none, .op (.mov (.t 0))⟩,
  ⟨some 13, none, .op (.mov (.t 5))⟩,
  ⟨some 14, none, .op (.iad 1 (.t 12) (.t 13))⟩,
  ⟨some 15, none, .op (.load false 1 (.t 14))⟩,
  ⟨some 16, none, .op (.bin .eql (.t 11) (.t 15))⟩]
def slices_Index_int_int.r5 : List AStep := [
  ⟨some 17, none, .op (.mov (.t 5))⟩,
  ⟨some 4, none, .op (.mov (.t 17))⟩]
def slices_Index_int_int.r6 : List AStep := [
  ⟨some 18, none, .op (.bin .add (.t 8) (.c (.i .i64 1)))⟩,
  ⟨some 8, none, .op (.mov (.t 18))⟩]
def slices_Index_int_int.l0 : ACode := .seq (.post [0, 1, 7, 8, 9] (.region slices_Index_int_int.r2)) (.seq (.post [0, 1, 7, 8] (.cond (.t 9) (.skip) (.exit 0))) (.seq (.post [0, 1, 7, 8] (.block 1 (.seq (.post [0, 1, 5, 7, 8] (.region slices_Index_int_int.r3)) (.seq (.post [0, 1, 5, 7, 8, 16] (.region slices_Index_int_int.r4)) (.post [0, 1, 7, 8] (.cond (.t 16) (.seq (.post [4] (.region slices_Index_int_int.r5)) (.ret)) (.skip))))))) (.post [0, 1, 7, 8] (.region slices_Index_int_int.r6))))
def slices_Index_int_int.r7 : List AStep := [
  ⟨some 4, none, .op (.mov (.c (.i .i64 (-1))))⟩]
def slices_Index_int_int : AFunc := ⟨19, [.t 4], .seq (.post [0, 1] (.region slices_Index_int_int.r0)) (.seq (.seq (.post [0, 1, 7, 8] (.region slices_Index_int_int.r1)) (.post [] (.block 0 (.loop slices_Index_int_int.l0)))) (.seq (.post [4] (.region slices_Index_int_int.r7)) (.ret)))⟩
theorem slices_Index_int_int.ok : okFunc Tryz.prog Tryz.f80 slices_Index_int_int = true := by kernel_rfl
theorem slices_Index_int_int.at : Tryz.prog.funcs[n_slices_Index_int_int]? = some Tryz.f80 := Tryz.func80
def slices_Contains_int_int.r0 : List AStep := [
  ⟨some 4, none, .op (.mov (.c (.b false)))⟩]
def slices_Contains_int_int.r1 : List AStep := [
  ⟨some 5, none, .op (.mov (.t 0))⟩,
  ⟨some 6, none, .op (.mov (.t 1))⟩,
  ⟨some 7, none, .call n_slices_Index_int_int [.t 5, .t 6]⟩,
  ⟨some 8, none, .op (.bin .geq (.t 7) (.c (.i .i64 0)))⟩,
  ⟨some 4, none, .op (.mov (.t 8))⟩]
def slices_Contains_int_int : AFunc := ⟨9, [.t 4], .seq (.post [0, 1] (.region slices_Contains_int_int.r0)) (.seq (.post [4] (.region slices_Contains_int_int.r1)) (.ret))⟩
theorem slices_Contains_int_int.ok : okFunc Tryz.prog Tryz.f54 slices_Contains_int_int = true := by kernel_rfl
theorem slices_Contains_int_int.at : Tryz.prog.funcs[n_slices_Contains_int_int]? = some Tryz.f54 := Tryz.func54
def tarjan_Parts.r0 : List AStep := [
  ⟨some 4, none, .op (.mov (.c (.sl none 0 0)))⟩]
def tarjan_Parts.r1 : List AStep := [
  ⟨some 22, none, .op (.mov (.t 0))⟩,
  ⟨some 23, none, .op (.mov (.t 1))⟩,
  ⟨some 24, none, .call n_tarjan_made [.t 22, .t 23]⟩,
  ⟨some 5, none, .op (.mov (.t 24))⟩]
def tarjan_Parts.r2 : List AStep := [
  ⟨some 25, none, .op (.mov (.t 5))⟩,
  ⟨some 26, none, .call n_tarjan_graph_run [.t 25]⟩,
  ⟨some 6, none, .op (.mov (.t 26))⟩]
def tarjan_Parts.r3 : List AStep := [
  ⟨some 27, none, .op (.mov (.t 6))⟩,
  ⟨some 28, none, .op (.nilc (.t 27))⟩,
  ⟨some 29, none, .op (.fadr 6 (.t 28))⟩,
  ⟨some 30, none, .op (.load false 1 (.t 29))⟩,
  ⟨some 31, none, .op (.mksl 1 24 [.sl none 0 0] (.t 30) (.t 30))⟩,
  ⟨some 7, none, .op (.mov (.t 31))⟩]
def tarjan_Parts.r4 : List AStep := [
  ⟨some 32, none, .op (.mov (.t 6))⟩,
  ⟨some 33, none, .op (.nilc (.t 32))⟩,
  ⟨some 34, none, .op (.fadr 5 (.t 33))⟩,
  ⟨some 35, none, .op (.load false 1 (.t 34))⟩,
  ⟨some 36, none, .op (.len false (.t 35))⟩,
  ⟨some 37, none, .op (.mov (.c (.i .i64 0)))⟩]
def tarjan_Parts.r5 : List AStep := [
  ⟨some 38, none, .op (.bin .lss (.t 37) (.t 36))⟩]
def tarjan_Parts.r6 : List AStep := [
  ⟨some 39, none, .op (.mov (.t 37))⟩,
  ⟨some 40, none, .op (.iad 1 (.t 35) (.t 37))⟩,
  ⟨some 41, none, .op (.load false 1 (.t 40))⟩,
  ⟨some 8, none, .op (.mov (.t 39))⟩,
  ⟨some 9, none, .op (.mov (.t 41))⟩]
def tarjan_Parts.r7 : List AStep := [
  ⟨some 42, none, .op (.mov (.t 7))⟩,
  ⟨some 43, none, .op (.mov (.t 9))⟩,
  ⟨some 44, none, .op (.mov (.t 7))⟩,
  ⟨some 45, none, .op (.mov (.t 9))⟩,
  ⟨some 46, none, .op (.iad 1 (.t 44) (.t 45))⟩,
  ⟨some 47, none, .op (.load false 1 (.t 46))⟩,
  ⟨some 48, none, .op (.mov (.t 8))⟩,
  ⟨some 49, none, .op (.bfz 1 1 [.i .i64 0] [(0, 1, .t 48)])⟩,
  ⟨some 50, none, .op (.app 1 8 (.t 47) (.t 49))⟩,
  ⟨some 51, none, .op (.iad 1 (.t 42) (.t 43))⟩,
  ⟨none, none, .op (.store 1 (.t 51) (.t 50))⟩]
def tarjan_Parts.r8 : List AStep := [
  ⟨some 52, none, .op (.bin .add (.t 37) (.c (.i .i64 1)))⟩,
  ⟨some 37, none, .op (.mov (.t 52))⟩]
def tarjan_Parts.l0 : ACode := .seq (.post [5, 6, 7, 35, 36, 37, 38] (.region tarjan_Parts.r5)) (.seq (.post [5, 6, 7, 35, 36, 37] (.cond (.t 38) (.skip) (.exit 0))) (.seq (.post [5, 6, 7, 35, 36, 37] (.block 1 (.seq (.post [5, 6, 7, 8, 9, 35, 36, 37] (.region tarjan_Parts.r6)) (.post [5, 6, 7, 35, 36, 37] (.region tarjan_Parts.r7))))) (.post [5, 6, 7, 35, 36, 37] (.region tarjan_Parts.r8))))
def tarjan_Parts.r9 : List AStep := [
  ⟨some 53, none, .op (.mov (.t 6))⟩,
  ⟨some 54, none, .op (.nilc (.t 53))⟩,
  ⟨some 55, none, .op (.fadr 6 (.t 54))⟩,
  ⟨some 56, none, .op (.load false 1 (.t 55))⟩,
  ⟨some 57, none, .op (.mksl 1 24 [.sl none 0 0] (.t 56) (.t 56))⟩,
  ⟨some 10, none, .op (.mov (.t 57))⟩]
def tarjan_Parts.r10 : List AStep := [
  ⟨some 58, none, .op (.mov (.t 6))⟩,
  ⟨some 59, none, .op (.nilc (.t 58))⟩,
  ⟨some 60, none, .op (.fadr 6 (.t 59))⟩,
  ⟨some 61, none, .op (.load false 1 (.t 60))⟩,
  ⟨some 62, none, .op (.mksl 1 8 [.i .i64 0] (.t 61) (.t 61))⟩,
  ⟨some 11, none, .op (.mov (.t 62))⟩]
def tarjan_Parts.r11 : List AStep := [
  ⟨some 63, none, .op (.mov (.t 6))⟩,
  ⟨some 64, none, .op (.nilc (.t 63))⟩,
  ⟨some 65, none, .op (.fadr 5 (.t 64))⟩,
  ⟨some 66, none, .op (.load false 1 (.t 65))⟩,
  ⟨some 67, none, .op (.len false (.t 66))⟩,
  ⟨some 68, none, .op (.mov (.c (.i .i64 0)))⟩]
def tarjan_Parts.r12 : List AStep := [
  ⟨some 69, none, .op (.bin .lss (.t 68) (.t 67))⟩]
def tarjan_Parts.r13 : List AStep := [
  ⟨some 70, none, .op (.mov (.t 68))⟩,
  ⟨some 71, none, .op (.iad 1 (.t 66) (.t 68))⟩,
  ⟨some 72, none, .op (.load false 1 (.t 71))⟩,
  ⟨some 12, none, .op (.mov (.t 70))⟩,
  ⟨some 13, none, .op (.mov (.t 72))⟩]
def tarjan_Parts.r14 : List AStep := [
  ⟨some 73, none, .op (.mov (.t 5))⟩,
  ⟨some 74, none, .op (.mov (.t 12))⟩,
  ⟨some 75, none, .op (.iad 1 (.t 73) (.t 74))⟩,
  ⟨some 76, none, .op (.load false 1 (.t 75))⟩,
  ⟨some 77, none, .op (.len false (.t 76))⟩,
  ⟨some 78, none, .op (.mov (.c (.i .i64 0)))⟩]
def tarjan_Parts.r15 : List AStep := [
  ⟨some 79, none, .op (.bin .lss (.t 78) (.t 77))⟩]
def tarjan_Parts.r16 : List AStep := [
  ⟨some 80, none, .op (.iad 1 (.t 76) (.t 78))⟩,
  ⟨some 81, none, .op (.load false 1 (.t 80))⟩,
  ⟨some 15, none, .op (.mov (.t 81))⟩]
def tarjan_Parts.r17 : List AStep := [
  ⟨some 82, none, .op (.mov (.t 6))⟩,
  ⟨some 83, none, .op (.nilc (.t 82))⟩,
  ⟨some 84, none, .op (.fadr 5 (.t 83))⟩,
  ⟨some 85, none, .op (.load false 1 (.t 84))⟩,
  ⟨some 86, none, .op (.mov (.t 15))⟩,
  ⟨some 87, none, .op (.iad 1 (.t 85) (.t 86))⟩,
  ⟨some 88, none, .op (.load false 1 (.t 87))⟩,
  ⟨some 16, none, .op (.mov (.t 88))⟩]
def tarjan_Parts.r18 : List AStep := [
  ⟨some 89, none, .op (.mov (.t 16))⟩,
  ⟨some 90, none, .op (.mov (.t 13))⟩,
  ⟨some 91, none, .op (.bin .neq (.t 89) (.t 90))⟩,
  ⟨some 92, none, .op (.mov (.t 91))⟩,
  ⟨some 93, (some (92, true)), .op (.mov (.t 10))⟩,
  ⟨some 94, (some (92, true)), .op (.mov (.t 16))⟩,
  ⟨some 95, (some (92, true)), .op (.iad 1 (.t 93) (.t 94))⟩,
  ⟨some 96, (some (92, true)), .op (.load false 1 (.t 95))⟩,
  ⟨some 97, (some (92, true)), .op (.mov (.t 13))⟩,
  ⟨some 98, (some (92, true)), .call n_slices_Contains_int_int [.t 96, .t 97]⟩,
  ⟨some 99, (some (92, true)), .op (.un .not (.t 98))⟩,
  ⟨some 100, none, .op (.pick (.t 92) (.t 99) (.c (.b false)))⟩]
def tarjan_Parts.r19 : List AStep := [
  ⟨some 101, none, .op (.mov (.t 10))⟩,
  ⟨some 102, none, .op (.mov (.t 16))⟩,
  ⟨some 103, none, .op (.mov (.t 10))⟩,
  ⟨some 104, none, .op (.mov (.t 16))⟩,
  ⟨some 105, none, .op (.iad 1 (.t 103) (.t 104))⟩,
  ⟨some 106, none, .op (.load false 1 (.t 105))⟩,
  ⟨some 107, none, .op (.mov (.t 13))⟩,
  ⟨some 108, none, .op (.bfz 1 1 [.i .i64 0] [(0, 1, .t 107)])⟩,
  ⟨some 109, none, .op (.app 1 8 (.t 106) (.t 108))⟩,
  ⟨some 110, none, .op (.iad 1 (.t 101) (.t 102))⟩,
  ⟨none, none, .op (.store 1 (.t 110) (.t 109))⟩]
def tarjan_Parts.r20 : List AStep := [
  ⟨some 111, none, .op (.mov (.t 11))⟩,
  ⟨some 112, none, .op (.mov (.t 13))⟩,
  ⟨some 113, none, .op (.iad 1 (.t 111) (.t 112))⟩,
  ⟨some 114, none, .op (.load false 1 (.t 113))⟩,
  ⟨some 115, none, .op (.bin .add (.t 114) (.c (.i .i64 1)))⟩,
  ⟨some 116, none, .op (.iad 1 (.t 111) (.t 112))⟩,
  ⟨none, none, .op (.store 1 (.t 116) (.t 115))⟩]
def tarjan_Parts.r21 : List AStep := [
  ⟨some 117, none, .op (.bin .add (.t 78) (.c (.i .i64 1)))⟩,
  ⟨some 78, none, .op (.mov (.t 117))⟩]
def tarjan_Parts.l2 : ACode := .seq (.post [5, 6, 7, 10, 11, 13, 66, 67, 68, 76, 77, 78, 79] (.region tarjan_Parts.r15)) (.seq (.post [5, 6, 7, 10, 11, 13, 66, 67, 68, 76, 77, 78] (.cond (.t 79) (.skip) (.exit 4))) (.seq (.post [5, 6, 7, 10, 11, 13, 66, 67, 68, 76, 77, 78] (.block 5 (.seq (.post [5, 6, 7, 10, 11, 13, 15, 66, 67, 68, 76, 77, 78] (.region tarjan_Parts.r16)) (.seq (.post [5, 6, 7, 10, 11, 13, 16, 66, 67, 68, 76, 77, 78] (.region tarjan_Parts.r17)) (.seq (.post [5, 6, 7, 10, 11, 13, 16, 66, 67, 68, 76, 77, 78, 100] (.region tarjan_Parts.r18)) (.post [5, 6, 7, 10, 11, 13, 66, 67, 68, 76, 77, 78] (.cond (.t 100) (.seq (.post [5, 6, 7, 10, 11, 13, 66, 67, 68, 76, 77, 78] (.region tarjan_Parts.r19)) (.post [5, 6, 7, 10, 11, 13, 66, 67, 68, 76, 77, 78] (.region tarjan_Parts.r20))) (.skip)))))))) (.post [5, 6, 7, 10, 11, 13, 66, 67, 68, 76, 77, 78] (.region tarjan_Parts.r21))))
def tarjan_Parts.r22 : List AStep := [
  ⟨some 118, none, .op (.bin .add (.t 68) (.c (.i .i64 1)))⟩,
  ⟨some 68, none, .op (.mov (.t 118))⟩]
def tarjan_Parts.l1 : ACode := .seq (.post [5, 6, 7, 10, 11, 66, 67, 68, 69] (.region tarjan_Parts.r12)) (.seq (.post [5, 6, 7, 10, 11, 66, 67, 68] (.cond (.t 69) (.skip) (.exit 2))) (.seq (.post [5, 6, 7, 10, 11, 66, 67, 68] (.block 3 (.seq (.post [5, 6, 7, 10, 11, 12, 13, 66, 67, 68] (.region tarjan_Parts.r13)) (.seq (.post [5, 6, 7, 10, 11, 13, 66, 67, 68, 76, 77, 78] (.region tarjan_Parts.r14)) (.post [5, 6, 7, 10, 11, 66, 67, 68] (.block 4 (.loop tarjan_Parts.l2))))))) (.post [5, 6, 7, 10, 11, 66, 67, 68] (.region tarjan_Parts.r22))))
def tarjan_Parts.r23 : List AStep := [
  ⟨some 17, none, .op (.mov (.c (.sl none 0 0)))⟩]
def tarjan_Parts.r24 : List AStep := [
  ⟨some 119, none, .op (.mov (.t 6))⟩,
  ⟨some 120, none, .op (.nilc (.t 119))⟩,
  ⟨some 121, none, .op (.fadr 6 (.t 120))⟩,
  ⟨some 122, none, .op (.load false 1 (.t 121))⟩,
  ⟨some 123, none, .op (.mov (.c (.i .i64 0)))⟩]
def tarjan_Parts.r25 : List AStep := [
  ⟨some 124, none, .op (.bin .lss (.t 123) (.t 122))⟩]
def tarjan_Parts.r26 : List AStep := [
  ⟨some 18, none, .op (.mov (.c (.i .i64 (-1))))⟩]
def tarjan_Parts.r27 : List AStep := [
  ⟨some 125, none, .op (.mov (.t 6))⟩,
  ⟨some 126, none, .op (.nilc (.t 125))⟩,
  ⟨some 127, none, .op (.fadr 6 (.t 126))⟩,
  ⟨some 128, none, .op (.load false 1 (.t 127))⟩,
  ⟨some 129, none, .op (.mov (.c (.i .i64 0)))⟩]
def tarjan_Parts.r28 : List AStep := [
  ⟨some 130, none, .op (.bin .lss (.t 129) (.t 128))⟩]
def tarjan_Parts.r29 : List AStep := [
  ⟨some 131, none, .op (.mov (.t 129))⟩,
  ⟨some 19, none, .op (.mov (.t 131))⟩]
def tarjan_Parts.r30 : List AStep := [
  ⟨some 132, none, .op (.mov (.t 11))⟩,
  ⟨some 133, none, .op (.mov (.t 19))⟩,
  ⟨some 134, none, .op (.iad 1 (.t 132) (.t 133))⟩,
  ⟨some 135, none, .op (.load false 1 (.t 134))⟩,
  ⟨some 136, none, .op (.bin .eql (.t 135) (.c (.i .i64 0)))⟩,
  ⟨some 137, none, .op (.mov (.t 136))⟩,
  ⟨some 138, (some (137, true)), .op (.mov (.t 18))⟩,
  ⟨some 139, (some (137, true)), .op (.bin .lss (.t 138) (.c (.i .i64 0)))⟩,
  ⟨some 140, (some (137, true)), .op (.mov (.t 139))⟩,
  ⟨some 141, (some (140, false)), .op (.mov (.t 7))⟩,
  ⟨some 142, (some (140, false)), .op (.mov (.t 19))⟩,
  ⟨some 143, (some (140, false)), .op (.iad 1 (.t 141) (.t 142))⟩,
  ⟨some 144, (some (140, false)), .op (.load false 1 (.t 143))⟩,
  ⟨some 145, (some (140, false)), .op (.iad 1 (.t 144) (.c (.i .i64 0)))⟩,
  ⟨some 146, (some (140, false)), .op (.load false 1 (.t 145))⟩,
  ⟨some 147, (some (140, false)), .op (.mov (.t 7))⟩,
  ⟨some 148, (some (140, false)), .op (.mov (.t 18))⟩,
  ⟨some 149, (some (140, false)), .op (.iad 1 (.t 147) (.t 148))⟩,
  ⟨some 150, (some (140, false)), .op (.load false 1 (.t 149))⟩,
  ⟨some 151, (some (140, false)), .op (.iad 1 (.t 150) (.c (.i .i64 0)))⟩,
  ⟨some 152, (some (140, false)), .op (.load false 1 (.t 151))⟩,
  ⟨some 153, (some (140, false)), .op (.bin .lss (.t 146) (.t 152))⟩,
  ⟨some 154, (some (137, true)), .op (.pick (.t 140) (.c (.b true)) (.t 153))⟩,
  ⟨some 155, none, .op (.pick (.t 137) (.t 154) (.c (.b false)))⟩]
def tarjan_Parts.r31 : List AStep := [
  ⟨some 156, none, .op (.mov (.t 19))⟩,
  ⟨some 18, none, .op (.mov (.t 156))⟩]
def tarjan_Parts.r32 : List AStep := [
  ⟨some 157, none, .op (.bin .add (.t 129) (.c (.i .i64 1)))⟩,
  ⟨some 129, none, .op (.mov (.t 157))⟩]
def tarjan_Parts.l4 : ACode := .seq (.post [6, 7, 10, 11, 17, 18, 122, 123, 128, 129, 130] (.region tarjan_Parts.r28)) (.seq (.post [6, 7, 10, 11, 17, 18, 122, 123, 128, 129] (.cond (.t 130) (.skip) (.exit 8))) (.seq (.post [6, 7, 10, 11, 17, 18, 122, 123, 128, 129] (.block 9 (.seq (.post [6, 7, 10, 11, 17, 18, 19, 122, 123, 128, 129] (.region tarjan_Parts.r29)) (.seq (.post [6, 7, 10, 11, 17, 18, 19, 122, 123, 128, 129, 155] (.draw [0, 0, 3, 7, 15, 31, 63, 127, 255, 511, 511, 2047, 4095, 8191, 16383, 511, 511, 98815, 229887, 492031, 1016319, 2097151, 4194303, 8388607] tarjan_Parts.r30)) (.post [6, 7, 10, 11, 17, 18, 122, 123, 128, 129] (.cond (.t 155) (.post [6, 7, 10, 11, 17, 18, 122, 123, 128, 129] (.region tarjan_Parts.r31)) (.skip))))))) (.post [6, 7, 10, 11, 17, 18, 122, 123, 128, 129] (.region tarjan_Parts.r32))))
def tarjan_Parts.r33 : List AStep := [
  ⟨some 158, none, .op (.mov (.t 17))⟩,
  ⟨some 159, none, .op (.mov (.t 7))⟩,
  ⟨some 160, none, .op (.mov (.t 18))⟩,
  ⟨some 161, none, .op (.iad 1 (.t 159) (.t 160))⟩,
  ⟨some 162, none, .op (.load false 1 (.t 161))⟩,
  ⟨some 163, none, .op (.bfz 1 1 [.sl none 0 0] [(0, 1, .t 162)])⟩,
  ⟨some 164, none, .op (.app 1 24 (.t 158) (.t 163))⟩,
  ⟨some 17, none, .op (.mov (.t 164))⟩]
def tarjan_Parts.r34 : List AStep := [
  ⟨some 165, none, .op (.mov (.t 11))⟩,
  ⟨some 166, none, .op (.mov (.t 18))⟩,
  ⟨some 167, none, .op (.iad 1 (.t 165) (.t 166))⟩,
  ⟨none, none, .op (.store 1 (.t 167) (.c (.i .i64 (-1))))⟩]
def tarjan_Parts.r35 : List AStep := [
  ⟨some 168, none, .op (.mov (.t 10))⟩,
  ⟨some 169, none, .op (.mov (.t 18))⟩,
  ⟨some 170, none, .op (.iad 1 (.t 168) (.t 169))⟩,
  ⟨some 171, none, .op (.load false 1 (.t 170))⟩,
  ⟨some 172, none, .op (.len false (.t 171))⟩,
  ⟨some 173, none, .op (.mov (.c (.i .i64 0)))⟩]
def tarjan_Parts.r36 : List AStep := [
  ⟨some 174, none, .op (.bin .lss (.t 173) (.t 172))⟩]
def tarjan_Parts.r37 : List AStep := [
  ⟨some 175, none, .op (.iad 1 (.t 171) (.t 173))⟩,
  ⟨some 176, none, .op (.load false 1 (.t 175))⟩,
  ⟨some 21, none, .op (.mov (.t 176))⟩]
def tarjan_Parts.r38 : List AStep := [
  ⟨some 177, none, .op (.mov (.t 11))⟩,
  ⟨some 178, none, .op (.mov (.t 21))⟩,
  ⟨some 179, none, .op (.iad 1 (.t 177) (.t 178))⟩,
  ⟨some 180, none, .op (.load false 1 (.t 179))⟩,
  ⟨some 181, none, .op (.bin .sub (.t 180) (.c (.i .i64 1)))⟩,
  ⟨some 182, none, .op (.iad 1 (.t 177) (.t 178))⟩,
  ⟨none, none, .op (.store 1 (.t 182) (.t 181))⟩]
def tarjan_Parts.r39 : List AStep := [
  ⟨some 183, none, .op (.bin .add (.t 173) (.c (.i .i64 1)))⟩,
  ⟨some 173, none, .op (.mov (.t 183))⟩]
def tarjan_Parts.l5 : ACode := .seq (.post [6, 7, 10, 11, 17, 122, 123, 171, 172, 173, 174] (.region tarjan_Parts.r36)) (.seq (.post [6, 7, 10, 11, 17, 122, 123, 171, 172, 173] (.cond (.t 174) (.skip) (.exit 10))) (.seq (.post [6, 7, 10, 11, 17, 122, 123, 171, 172, 173] (.block 11 (.seq (.post [6, 7, 10, 11, 17, 21, 122, 123, 171, 172, 173] (.region tarjan_Parts.r37)) (.post [6, 7, 10, 11, 17, 122, 123, 171, 172, 173] (.region tarjan_Parts.r38))))) (.post [6, 7, 10, 11, 17, 122, 123, 171, 172, 173] (.region tarjan_Parts.r39))))
def tarjan_Parts.r40 : List AStep := [
  ⟨some 184, none, .op (.bin .add (.t 123) (.c (.i .i64 1)))⟩,
  ⟨some 123, none, .op (.mov (.t 184))⟩]
def tarjan_Parts.l3 : ACode := .seq (.post [6, 7, 10, 11, 17, 122, 123, 124] (.region tarjan_Parts.r25)) (.seq (.post [6, 7, 10, 11, 17, 122, 123] (.cond (.t 124) (.skip) (.exit 6))) (.seq (.post [6, 7, 10, 11, 17, 122, 123] (.block 7 (.seq (.post [6, 7, 10, 11, 17, 18, 122, 123] (.region tarjan_Parts.r26)) (.seq (.seq (.post [6, 7, 10, 11, 17, 18, 122, 123, 128, 129] (.region tarjan_Parts.r27)) (.post [6, 7, 10, 11, 17, 18, 122, 123] (.block 8 (.loop tarjan_Parts.l4)))) (.seq (.post [6, 7, 10, 11, 17, 18, 122, 123] (.region tarjan_Parts.r33)) (.seq (.post [6, 7, 10, 11, 17, 18, 122, 123] (.region tarjan_Parts.r34)) (.seq (.post [6, 7, 10, 11, 17, 122, 123, 171, 172, 173] (.region tarjan_Parts.r35)) (.post [6, 7, 10, 11, 17, 122, 123] (.block 10 (.loop tarjan_Parts.l5)))))))))) (.post [6, 7, 10, 11, 17, 122, 123] (.region tarjan_Parts.r40))))
def tarjan_Parts.r41 : List AStep := [
  ⟨some 185, none, .op (.mov (.t 17))⟩,
  ⟨some 4, none, .op (.mov (.t 185))⟩]
def tarjan_Parts : AFunc := ⟨186, [.t 4], .seq (.post [0, 1] (.region tarjan_Parts.r0)) (.seq (.post [5] (.region tarjan_Parts.r1)) (.seq (.post [5, 6] (.region tarjan_Parts.r2)) (.seq (.post [5, 6, 7] (.region tarjan_Parts.r3)) (.seq (.seq (.post [5, 6, 7, 35, 36, 37] (.region tarjan_Parts.r4)) (.post [5, 6, 7] (.block 0 (.loop tarjan_Parts.l0)))) (.seq (.post [5, 6, 7, 10] (.region tarjan_Parts.r9)) (.seq (.post [5, 6, 7, 10, 11] (.region tarjan_Parts.r10)) (.seq (.seq (.post [5, 6, 7, 10, 11, 66, 67, 68] (.region tarjan_Parts.r11)) (.post [6, 7, 10, 11] (.block 2 (.loop tarjan_Parts.l1)))) (.seq (.post [6, 7, 10, 11, 17] (.region tarjan_Parts.r23)) (.seq (.seq (.post [6, 7, 10, 11, 17, 122, 123] (.region tarjan_Parts.r24)) (.post [17] (.block 6 (.loop tarjan_Parts.l3)))) (.seq (.post [4] (.region tarjan_Parts.r41)) (.ret)))))))))))⟩
theorem tarjan_Parts.ok : okFunc Tryz.prog Tryz.f35 tarjan_Parts = true := by kernel_rfl
theorem tarjan_Parts.at : Tryz.prog.funcs[n_tarjan_Parts]? = some Tryz.f35 := Tryz.func35
def query_Order.r0 : List AStep := [
  ⟨some 2, none, .op (.mov (.c (.sl none 0 0)))⟩]
def query_Order.r1 : List AStep := [
  ⟨some 12, none, .op (.mov (.t 0))⟩,
  ⟨some 13, none, .call n_query_numbered [.t 12, .c (.sl none 0 0)]⟩,
  ⟨some 11, none, .op (.mov (.t 13))⟩,
  ⟨some 14, none, .op (.ext 0 (.t 11))⟩,
  ⟨some 15, none, .op (.ext 1 (.t 11))⟩,
  ⟨some 3, none, .op (.mov (.t 14))⟩,
  ⟨some 4, none, .op (.mov (.t 15))⟩]
def query_Order.r2 : List AStep := [
  ⟨some 5, none, .op (.mov (.c (.sl none 0 0)))⟩]
def query_Order.r3 : List AStep := [
  ⟨some 16, none, .op (.mov (.t 4))⟩,
  ⟨some 17, none, .op (.len false (.t 16))⟩,
  ⟨some 18, none, .op (.mov (.t 3))⟩,
  ⟨some 19, none, .call n_tarjan_Parts [.t 17, .t 18]⟩,
  ⟨some 20, none, .op (.len false (.t 19))⟩,
  ⟨some 21, none, .op (.mov (.c (.i .i64 0)))⟩]
def query_Order.r4 : List AStep := [
  ⟨some 22, none, .op (.bin .lss (.t 21) (.t 20))⟩]
def query_Order.r5 : List AStep := [
  ⟨some 23, none, .op (.iad 1 (.t 19) (.t 21))⟩,
  ⟨some 24, none, .op (.load false 1 (.t 23))⟩,
  ⟨some 7, none, .op (.mov (.t 24))⟩]
def query_Order.r6 : List AStep := [
  ⟨some 8, none, .op (.mov (.c (.sl none 0 0)))⟩]
def query_Order.r7 : List AStep := [
  ⟨some 25, none, .op (.mov (.t 7))⟩,
  ⟨some 26, none, .op (.len false (.t 25))⟩,
  ⟨some 27, none, .op (.mov (.c (.i .i64 0)))⟩]
def query_Order.r8 : List AStep := [
  ⟨some 28, none, .op (.bin .lss (.t 27) (.t 26))⟩]
def query_Order.r9 : List AStep := [
  ⟨some 29, none, .op (.iad 1 (.t 25) (.t 27))⟩,
  ⟨some 30, none, .op (.load false 1 (.t 29))⟩,
  ⟨some 10, none, .op (.mov (.t 30))⟩]
def query_Order.r10 : List AStep := [
  ⟨some 31, none, .op (.mov (.t 8))⟩,
  ⟨some 32, none, .op (.mov (.t 4))⟩,
  ⟨some 33, none, .op (.mov (.t 10))⟩,
  ⟨some 34, none, .op (.iad 1 (.t 32) (.t 33))⟩,
  ⟨some 35, none, .op (.load false 1 (.t 34))⟩,
  ⟨some 36, none, .op (.bfz 1 1 [.s []] [(0, 1, .t 35)])⟩,
  ⟨some 37, none, .op (.app 1 16 (.t 31) (.t 36))⟩,
  ⟨some 8, none, .op (.mov (.t 37))⟩]
def query_Order.r11 : List AStep := [
  ⟨some 38, none, .op (.bin .add (.t 27) (.c (.i .i64 1)))⟩,
  ⟨some 27, none, .op (.mov (.t 38))⟩]
def query_Order.l1 : ACode := .seq (.post [4, 5, 8, 19, 20, 21, 25, 26, 27, 28] (.region query_Order.r8)) (.seq (.post [4, 5, 8, 19, 20, 21, 25, 26, 27] (.cond (.t 28) (.skip) (.exit 2))) (.seq (.post [4, 5, 8, 19, 20, 21, 25, 26, 27] (.block 3 (.seq (.post [4, 5, 8, 10, 19, 20, 21, 25, 26, 27] (.region query_Order.r9)) (.post [4, 5, 8, 19, 20, 21, 25, 26, 27] (.region query_Order.r10))))) (.post [4, 5, 8, 19, 20, 21, 25, 26, 27] (.region query_Order.r11))))
def query_Order.r12 : List AStep := [
  ⟨some 39, none, .op (.mov (.t 5))⟩,
  ⟨some 40, none, .op (.mov (.t 8))⟩,
  ⟨some 41, none, .op (.bfz 1 1 [.sl none 0 0] [(0, 1, .t 40)])⟩,
  ⟨some 42, none, .op (.app 1 24 (.t 39) (.t 41))⟩,
  ⟨some 5, none, .op (.mov (.t 42))⟩]
def query_Order.r13 : List AStep := [
  ⟨some 43, none, .op (.bin .add (.t 21) (.c (.i .i64 1)))⟩,
  ⟨some 21, none, .op (.mov (.t 43))⟩]
def query_Order.l0 : ACode := .seq (.post [4, 5, 19, 20, 21, 22] (.region query_Order.r4)) (.seq (.post [4, 5, 19, 20, 21] (.cond (.t 22) (.skip) (.exit 0))) (.seq (.post [4, 5, 19, 20, 21] (.block 1 (.seq (.post [4, 5, 7, 19, 20, 21] (.region query_Order.r5)) (.seq (.post [4, 5, 7, 8, 19, 20, 21] (.region query_Order.r6)) (.seq (.seq (.post [4, 5, 8, 19, 20, 21, 25, 26, 27] (.region query_Order.r7)) (.post [4, 5, 8, 19, 20, 21] (.block 2 (.loop query_Order.l1)))) (.post [4, 5, 19, 20, 21] (.region query_Order.r12))))))) (.post [4, 5, 19, 20, 21] (.region query_Order.r13))))
def query_Order.r14 : List AStep := [
  ⟨some 44, none, .op (.mov (.t 5))⟩,
  ⟨some 2, none, .op (.mov (.t 44))⟩]
def query_Order : AFunc := ⟨45, [.t 2], .seq (.post [0] (.region query_Order.r0)) (.seq (.post [3, 4] (.region query_Order.r1)) (.seq (.post [3, 4, 5] (.region query_Order.r2)) (.seq (.seq (.post [4, 5, 19, 20, 21] (.region query_Order.r3)) (.post [5] (.block 0 (.loop query_Order.l0)))) (.seq (.post [2] (.region query_Order.r14)) (.ret)))))⟩
theorem query_Order.ok : okFunc Tryz.prog Tryz.f18 query_Order = true := by kernel_rfl
theorem query_Order.at : Tryz.prog.funcs[n_query_Order]? = some Tryz.f18 := Tryz.func18
def tarjan_Leads.r0 : List AStep := [
  ⟨some 6, none, .op (.mov (.c (.sl none 0 0)))⟩]
def tarjan_Leads.r1 : List AStep := [
  ⟨some 16, none, .op (.mov (.t 0))⟩,
  ⟨some 17, none, .op (.mov (.t 1))⟩,
  ⟨some 18, none, .call n_tarjan_made [.t 16, .t 17]⟩,
  ⟨some 7, none, .op (.mov (.t 18))⟩]
def tarjan_Leads.r2 : List AStep := [
  ⟨some 19, none, .op (.mov (.t 7))⟩,
  ⟨some 20, none, .op (.len false (.t 19))⟩,
  ⟨some 21, none, .op (.mksl 1 1 [.b false] (.t 20) (.t 20))⟩,
  ⟨some 8, none, .op (.mov (.t 21))⟩]
def tarjan_Leads.r3 : List AStep := [
  ⟨some 9, none, .op (.mov (.c (.sl none 0 0)))⟩,
  ⟨some 10, none, .op (.mov (.c (.sl none 0 0)))⟩]
def tarjan_Leads.r4 : List AStep := [
  ⟨some 22, none, .op (.mov (.t 2))⟩,
  ⟨some 23, none, .op (.len false (.t 22))⟩,
  ⟨some 24, none, .op (.mov (.c (.i .i64 0)))⟩]
def tarjan_Leads.r5 : List AStep := [
  ⟨some 25, none, .op (.bin .lss (.t 24) (.t 23))⟩]
def tarjan_Leads.r6 : List AStep := [
  ⟨some 26, none, .op (.iad 1 (.t 22) (.t 24))⟩,
  ⟨some 27, none, .op (.load false 1 (.t 26))⟩,
  ⟨some 12, none, .op (.mov (.t 27))⟩]
def tarjan_Leads.r7 : List AStep := [
  ⟨some 28, none, .op (.mov (.t 12))⟩,
  ⟨some 29, none, .op (.bin .geq (.t 28) (.c (.i .i64 0)))⟩,
  ⟨some 30, none, .op (.mov (.t 29))⟩,
  ⟨some 31, (some (30, true)), .op (.mov (.t 12))⟩,
  ⟨some 32, (some (30, true)), .op (.mov (.t 7))⟩,
  ⟨some 33, (some (30, true)), .op (.len false (.t 32))⟩,
  ⟨some 34, (some (30, true)), .op (.bin .lss (.t 31) (.t 33))⟩,
  ⟨some 35, none, .op (.pick (.t 30) (.t 34) (.c (.b false)))⟩]
def tarjan_Leads.r8 : List AStep := [
  ⟨some 36, none, .op (.mov (.t 9))⟩,
  ⟨some 37, none, .op (.mov (.t 12))⟩,
  ⟨some 38, none, .op (.bfz 1 1 [.i .i64 0] [(0, 1, .t 37)])⟩,
  ⟨some 39, none, .op (.app 1 8 (.t 36) (.t 38))⟩,
  ⟨some 9, none, .op (.mov (.t 39))⟩]
def tarjan_Leads.r9 : List AStep := [
  ⟨some 40, none, .op (.bin .add (.t 24) (.c (.i .i64 1)))⟩,
  ⟨some 24, none, .op (.mov (.t 40))⟩]
def tarjan_Leads.l0 : ACode := .seq (.post [7, 8, 9, 10, 22, 23, 24, 25] (.region tarjan_Leads.r5)) (.seq (.post [7, 8, 9, 10, 22, 23, 24] (.cond (.t 25) (.skip) (.exit 0))) (.seq (.post [7, 8, 9, 10, 22, 23, 24] (.block 1 (.seq (.post [7, 8, 9, 10, 12, 22, 23, 24] (.region tarjan_Leads.r6)) (.seq (.post [7, 8, 9, 10, 12, 22, 23, 24, 35] (.region tarjan_Leads.r7)) (.post [7, 8, 9, 10, 22, 23, 24] (.cond (.t 35) (.post [7, 8, 9, 10, 22, 23, 24] (.region tarjan_Leads.r8)) (.skip))))))) (.post [7, 8, 9, 10, 22, 23, 24] (.region tarjan_Leads.r9))))
def tarjan_Leads.r10 : List AStep := [
  ⟨some 41, none, .op (.mov (.t 9))⟩,
  ⟨some 42, none, .op (.len false (.t 41))⟩,
  ⟨some 43, none, .op (.bin .gtr (.t 42) (.c (.i .i64 0)))⟩]
def tarjan_Leads.r11 : List AStep := [
  ⟨some 44, none, .op (.mov (.t 9))⟩,
  ⟨some 45, none, .op (.mov (.t 9))⟩,
  ⟨some 46, none, .op (.len false (.t 45))⟩,
  ⟨some 47, none, .op (.bin .sub (.t 46) (.c (.i .i64 1)))⟩,
  ⟨some 48, none, .op (.iad 1 (.t 44) (.t 47))⟩,
  ⟨some 49, none, .op (.load false 1 (.t 48))⟩,
  ⟨some 13, none, .op (.mov (.t 49))⟩]
def tarjan_Leads.r12 : List AStep := [
  ⟨some 50, none, .op (.mov (.t 9))⟩,
  ⟨some 51, none, .op (.mov (.t 9))⟩,
  ⟨some 52, none, .op (.len false (.t 51))⟩,
  ⟨some 53, none, .op (.bin .sub (.t 52) (.c (.i .i64 1)))⟩,
  ⟨some 54, none, .op (.slc 1 (.t 50) none (some (.t 53)))⟩,
  ⟨some 9, none, .op (.mov (.t 54))⟩]
def tarjan_Leads.r13 : List AStep := [
  ⟨some 55, none, .op (.mov (.t 8))⟩,
  ⟨some 56, none, .op (.mov (.t 13))⟩,
  ⟨some 57, none, .op (.iad 1 (.t 55) (.t 56))⟩,
  ⟨some 58, none, .op (.load false 1 (.t 57))⟩,
  ⟨some 59, none, .op (.un .not (.t 58))⟩]
def tarjan_Leads.r14 : List AStep := [
  ⟨some 60, none, .op (.mov (.t 8))⟩,
  ⟨some 61, none, .op (.mov (.t 13))⟩,
  ⟨some 62, none, .op (.iad 1 (.t 60) (.t 61))⟩,
  ⟨none, none, .op (.store 1 (.t 62) (.c (.b true)))⟩]
def tarjan_Leads.r15 : List AStep := [
  ⟨some 63, none, .op (.mov (.t 9))⟩,
  ⟨some 64, none, .op (.mov (.t 7))⟩,
  ⟨some 65, none, .op (.mov (.t 13))⟩,
  ⟨some 66, none, .op (.iad 1 (.t 64) (.t 65))⟩,
  ⟨some 67, none, .op (.load false 1 (.t 66))⟩,
  ⟨some 68, none, .op (.app 1 8 (.t 63) (.t 67))⟩,
  ⟨some 9, none, .op (.mov (.t 68))⟩]
def tarjan_Leads.l1 : ACode := .seq (.seq (.post [7, 8, 9, 10, 43] (.region tarjan_Leads.r10)) (.post [7, 8, 9, 10] (.cond (.t 43) (.skip) (.exit 2)))) (.post [7, 8, 9, 10] (.block 3 (.seq (.post [7, 8, 9, 10, 13] (.region tarjan_Leads.r11)) (.seq (.post [7, 8, 9, 10, 13] (.region tarjan_Leads.r12)) (.seq (.post [7, 8, 9, 10, 13, 59] (.region tarjan_Leads.r13)) (.post [7, 8, 9, 10] (.cond (.t 59) (.seq (.post [7, 8, 9, 10, 13] (.region tarjan_Leads.r14)) (.post [7, 8, 9, 10] (.region tarjan_Leads.r15))) (.skip))))))))
def tarjan_Leads.r16 : List AStep := [
  ⟨some 69, none, .op (.mov (.t 8))⟩,
  ⟨some 70, none, .op (.len false (.t 69))⟩,
  ⟨some 71, none, .op (.mov (.c (.i .i64 0)))⟩]
def tarjan_Leads.r17 : List AStep := [
  ⟨some 72, none, .op (.bin .lss (.t 71) (.t 70))⟩]
def tarjan_Leads.r18 : List AStep := [
  ⟨some 73, none, .op (.mov (.t 71))⟩,
  ⟨some 74, none, .op (.iad 1 (.t 69) (.t 71))⟩,
  ⟨some 75, none, .op (.load false 1 (.t 74))⟩,
  ⟨some 14, none, .op (.mov (.t 73))⟩,
  ⟨some 15, none, .op (.mov (.t 75))⟩]
def tarjan_Leads.r19 : List AStep := [
  ⟨some 76, none, .op (.mov (.t 15))⟩]
def tarjan_Leads.r20 : List AStep := [
  ⟨some 77, none, .op (.mov (.t 10))⟩,
  ⟨some 78, none, .op (.mov (.t 14))⟩,
  ⟨some 79, none, .op (.bfz 1 1 [.i .i64 0] [(0, 1, .t 78)])⟩,
  ⟨some 80, none, .op (.app 1 8 (.t 77) (.t 79))⟩,
  ⟨some 10, none, .op (.mov (.t 80))⟩]
def tarjan_Leads.r21 : List AStep := [
  ⟨some 81, none, .op (.bin .add (.t 71) (.c (.i .i64 1)))⟩,
  ⟨some 71, none, .op (.mov (.t 81))⟩]
def tarjan_Leads.l2 : ACode := .seq (.post [10, 69, 70, 71, 72] (.region tarjan_Leads.r17)) (.seq (.post [10, 69, 70, 71] (.cond (.t 72) (.skip) (.exit 4))) (.seq (.post [10, 69, 70, 71] (.block 5 (.seq (.post [10, 14, 15, 69, 70, 71] (.region tarjan_Leads.r18)) (.seq (.post [10, 14, 69, 70, 71, 76] (.region tarjan_Leads.r19)) (.post [10, 69, 70, 71] (.cond (.t 76) (.post [10, 69, 70, 71] (.region tarjan_Leads.r20)) (.skip))))))) (.post [10, 69, 70, 71] (.region tarjan_Leads.r21))))
def tarjan_Leads.r22 : List AStep := [
  ⟨some 82, none, .op (.mov (.t 10))⟩,
  ⟨some 6, none, .op (.mov (.t 82))⟩]
def tarjan_Leads : AFunc := ⟨83, [.t 6], .seq (.post [0, 1, 2] (.region tarjan_Leads.r0)) (.seq (.post [2, 7] (.region tarjan_Leads.r1)) (.seq (.post [2, 7, 8] (.region tarjan_Leads.r2)) (.seq (.post [2, 7, 8, 9, 10] (.region tarjan_Leads.r3)) (.seq (.seq (.post [7, 8, 9, 10, 22, 23, 24] (.region tarjan_Leads.r4)) (.post [7, 8, 9, 10] (.block 0 (.loop tarjan_Leads.l0)))) (.seq (.post [8, 10] (.block 2 (.loop tarjan_Leads.l1))) (.seq (.seq (.post [10, 69, 70, 71] (.region tarjan_Leads.r16)) (.post [10] (.block 4 (.loop tarjan_Leads.l2)))) (.seq (.post [6] (.region tarjan_Leads.r22)) (.ret))))))))⟩
theorem tarjan_Leads.ok : okFunc Tryz.prog Tryz.f38 tarjan_Leads = true := by kernel_rfl
theorem tarjan_Leads.at : Tryz.prog.funcs[n_tarjan_Leads]? = some Tryz.f38 := Tryz.func38
def query_Reach.r0 : List AStep := [
  ⟨some 4, none, .op (.mov (.c (.sl none 0 0)))⟩]
def query_Reach.r1 : List AStep := [
  ⟨some 16, none, .op (.mov (.t 0))⟩,
  ⟨some 17, none, .op (.mov (.t 1))⟩,
  ⟨some 18, none, .call n_query_numbered [.t 16, .t 17]⟩,
  ⟨some 15, none, .op (.mov (.t 18))⟩,
  ⟨some 19, none, .op (.ext 0 (.t 15))⟩,
  ⟨some 20, none, .op (.ext 1 (.t 15))⟩,
  ⟨some 5, none, .op (.mov (.t 19))⟩,
  ⟨some 6, none, .op (.mov (.t 20))⟩]
def query_Reach.r2 : List AStep := [
  ⟨some 7, none, .op (.mov (.c (.sl none 0 0)))⟩]
def query_Reach.r3 : List AStep := [
  ⟨some 21, none, .op (.mov (.t 1))⟩,
  ⟨some 22, none, .op (.len false (.t 21))⟩,
  ⟨some 23, none, .op (.mov (.c (.i .i64 0)))⟩]
def query_Reach.r4 : List AStep := [
  ⟨some 24, none, .op (.bin .lss (.t 23) (.t 22))⟩]
def query_Reach.r5 : List AStep := [
  ⟨some 25, none, .op (.iad 1 (.t 21) (.t 23))⟩,
  ⟨some 26, none, .op (.load false 1 (.t 25))⟩,
  ⟨some 9, none, .op (.mov (.t 26))⟩]
def query_Reach.r6 : List AStep := [
  ⟨some 28, none, .op (.mov (.t 6))⟩,
  ⟨some 29, none, .op (.mov (.t 9))⟩,
  ⟨some 30, none, .call n_slices_BinarySearch_string_string [.t 28, .t 29]⟩,
  ⟨some 27, none, .op (.mov (.t 30))⟩,
  ⟨some 31, none, .op (.ext 0 (.t 27))⟩,
  ⟨some 32, none, .op (.ext 1 (.t 27))⟩,
  ⟨some 10, none, .op (.mov (.t 31))⟩,
  ⟨some 11, none, .op (.mov (.t 32))⟩]
def query_Reach.r7 : List AStep := [
  ⟨some 33, none, .op (.mov (.t 7))⟩,
  ⟨some 34, none, .op (.mov (.t 10))⟩,
  ⟨some 35, none, .op (.bfz 1 1 [.i .i64 0] [(0, 1, .t 34)])⟩,
  ⟨some 36, none, .op (.app 1 8 (.t 33) (.t 35))⟩,
  ⟨some 7, none, .op (.mov (.t 36))⟩]
def query_Reach.r8 : List AStep := [
  ⟨some 37, none, .op (.bin .add (.t 23) (.c (.i .i64 1)))⟩,
  ⟨some 23, none, .op (.mov (.t 37))⟩]
def query_Reach.l0 : ACode := .seq (.post [5, 6, 7, 21, 22, 23, 24] (.region query_Reach.r4)) (.seq (.post [5, 6, 7, 21, 22, 23] (.cond (.t 24) (.skip) (.exit 0))) (.seq (.post [5, 6, 7, 21, 22, 23] (.block 1 (.seq (.post [5, 6, 7, 9, 21, 22, 23] (.region query_Reach.r5)) (.seq (.post [5, 6, 7, 10, 21, 22, 23] (.region query_Reach.r6)) (.post [5, 6, 7, 21, 22, 23] (.region query_Reach.r7)))))) (.post [5, 6, 7, 21, 22, 23] (.region query_Reach.r8))))
def query_Reach.r9 : List AStep := [
  ⟨some 12, none, .op (.mov (.c (.sl none 0 0)))⟩]
def query_Reach.r10 : List AStep := [
  ⟨some 38, none, .op (.mov (.t 6))⟩,
  ⟨some 39, none, .op (.len false (.t 38))⟩,
  ⟨some 40, none, .op (.mov (.t 5))⟩,
  ⟨some 41, none, .op (.mov (.t 7))⟩,
  ⟨some 42, none, .call n_tarjan_Leads [.t 39, .t 40, .t 41]⟩,
  ⟨some 43, none, .op (.len false (.t 42))⟩,
  ⟨some 44, none, .op (.mov (.c (.i .i64 0)))⟩]
def query_Reach.r11 : List AStep := [
  ⟨some 45, none, .op (.bin .lss (.t 44) (.t 43))⟩]
def query_Reach.r12 : List AStep := [
  ⟨some 46, none, .op (.iad 1 (.t 42) (.t 44))⟩,
  ⟨some 47, none, .op (.load false 1 (.t 46))⟩,
  ⟨some 14, none, .op (.mov (.t 47))⟩]
def query_Reach.r13 : List AStep := [
  ⟨some 48, none, .op (.mov (.t 12))⟩,
  ⟨some 49, none, .op (.mov (.t 6))⟩,
  ⟨some 50, none, .op (.mov (.t 14))⟩,
  ⟨some 51, none, .op (.iad 1 (.t 49) (.t 50))⟩,
  ⟨some 52, none, .op (.load false 1 (.t 51))⟩,
  ⟨some 53, none, .op (.bfz 1 1 [.s []] [(0, 1, .t 52)])⟩,
  ⟨some 54, none, .op (.app 1 16 (.t 48) (.t 53))⟩,
  ⟨some 12, none, .op (.mov (.t 54))⟩]
def query_Reach.r14 : List AStep := [
  ⟨some 55, none, .op (.bin .add (.t 44) (.c (.i .i64 1)))⟩,
  ⟨some 44, none, .op (.mov (.t 55))⟩]
def query_Reach.l1 : ACode := .seq (.post [6, 12, 42, 43, 44, 45] (.region query_Reach.r11)) (.seq (.post [6, 12, 42, 43, 44] (.cond (.t 45) (.skip) (.exit 2))) (.seq (.post [6, 12, 42, 43, 44] (.block 3 (.seq (.post [6, 12, 14, 42, 43, 44] (.region query_Reach.r12)) (.post [6, 12, 42, 43, 44] (.region query_Reach.r13))))) (.post [6, 12, 42, 43, 44] (.region query_Reach.r14))))
def query_Reach.r15 : List AStep := [
  ⟨some 56, none, .op (.mov (.t 12))⟩,
  ⟨some 4, none, .op (.mov (.t 56))⟩]
def query_Reach : AFunc := ⟨57, [.t 4], .seq (.post [0, 1] (.region query_Reach.r0)) (.seq (.post [1, 5, 6] (.region query_Reach.r1)) (.seq (.post [1, 5, 6, 7] (.region query_Reach.r2)) (.seq (.seq (.post [5, 6, 7, 21, 22, 23] (.region query_Reach.r3)) (.post [5, 6, 7] (.block 0 (.loop query_Reach.l0)))) (.seq (.post [5, 6, 7, 12] (.region query_Reach.r9)) (.seq (.seq (.post [6, 12, 42, 43, 44] (.region query_Reach.r10)) (.post [12] (.block 2 (.loop query_Reach.l1)))) (.seq (.post [4] (.region query_Reach.r15)) (.ret)))))))⟩
theorem query_Reach.ok : okFunc Tryz.prog Tryz.f21 query_Reach = true := by kernel_rfl
theorem query_Reach.at : Tryz.prog.funcs[n_query_Reach]? = some Tryz.f21 := Tryz.func21
def weftlaw32_works.r0 : List AStep := [
  ⟨some 0, none, .op (.mov (.c (.b false)))⟩]
def weftlaw32_works.r1 : List AStep := [
  ⟨some 4, none, .op (.build [.s [], .s []] [(0, 1, .c (.s [102])), (1, 1, .c (.s [103]))])⟩,
  ⟨some 5, none, .op (.build [.s [], .s []] [(0, 1, .c (.s [103])), (1, 1, .c (.s [104]))])⟩,
  ⟨some 6, none, .op (.build [.s [], .s []] [(0, 1, .c (.s [103])), (1, 1, .c (.s [102]))])⟩,
  ⟨some 7, none, .op (.bfz 3 2 [.s [], .s []] [(0, 2, .t 4), (2, 2, .t 5), (4, 2, .t 6)])⟩,
  ⟨some 1, none, .op (.mov (.t 7))⟩]
def weftlaw32_works.r2 : List AStep := [
  ⟨some 8, none, .op (.mov (.t 1))⟩,
  ⟨some 9, none, .call n_query_Order [.t 8]⟩,
  ⟨some 2, none, .op (.mov (.t 9))⟩]
def weftlaw32_works.r3 : List AStep := [
  ⟨some 10, none, .op (.bsl 2 [.s []] [(0, 1, .c (.s [103, 40, 41])), (1, 1, .c (.s [120, 43, 48]))])⟩,
  ⟨some 11, none, .op (.build [.s [], .sl none 0 0] [(0, 1, .c (.s [102, 46, 112])), (1, 1, .t 10)])⟩,
  ⟨some 12, none, .op (.bsl 1 [.s []] [(0, 1, .c (.s [120, 43, 48]))])⟩,
  ⟨some 13, none, .op (.build [.s [], .sl none 0 0] [(0, 1, .c (.s [102, 46, 113])), (1, 1, .t 12)])⟩,
  ⟨some 14, none, .op (.bfz 2 2 [.s [], .sl none 0 0] [(0, 2, .t 11), (2, 2, .t 13)])⟩,
  ⟨some 3, none, .op (.mov (.t 14))⟩]
def weftlaw32_works.r4 : List AStep := [
  ⟨some 15, none, .op (.mov (.t 2))⟩,
  ⟨some 16, none, .op (.len false (.t 15))⟩,
  ⟨some 17, none, .op (.bin .eql (.t 16) (.c (.i .i64 2)))⟩,
  ⟨some 18, none, .op (.mov (.t 17))⟩,
  ⟨some 19, (some (18, true)), .op (.mov (.t 2))⟩,
  ⟨some 20, (some (18, true)), .op (.iad 1 (.t 19) (.c (.i .i64 0)))⟩,
  ⟨some 21, (some (18, true)), .op (.load false 1 (.t 20))⟩,
  ⟨some 22, (some (18, true)), .op (.iad 1 (.t 21) (.c (.i .i64 0)))⟩,
  ⟨some 23, (some (18, true)), .op (.load false 1 (.t 22))⟩,
  ⟨some 24, (some (18, true)), .op (.bin .eql (.t 23) (.c (.s [104])))⟩,
  ⟨some 25, none, .op (.pick (.t 18) (.t 24) (.c (.b false)))⟩,
  ⟨some 26, none, .op (.mov (.t 25))⟩,
  ⟨some 27, (some (26, true)), .op (.mov (.t 2))⟩,
  ⟨some 28, (some (26, true)), .op (.iad 1 (.t 27) (.c (.i .i64 1)))⟩,
  ⟨some 29, (some (26, true)), .op (.load false 1 (.t 28))⟩,
  ⟨some 30, (some (26, true)), .op (.len false (.t 29))⟩,
  ⟨some 31, (some (26, true)), .op (.bin .eql (.t 30) (.c (.i .i64 2)))⟩,
  ⟨some 32, none, .op (.pick (.t 26) (.t 31) (.c (.b false)))⟩,
  ⟨some 33, none, .op (.mov (.t 32))⟩,
  ⟨some 34, (some (33, true)), .op (.mov (.t 1))⟩,
  ⟨some 35, (some (33, true)), .op (.bfz 1 1 [.s []] [(0, 1, .c (.s [102]))])⟩,
  ⟨some 36, (some (33, true)), .call n_query_Reach [.t 34, .t 35]⟩,
  ⟨some 37, (some (33, true)), .op (.bfz 3 1 [.s []] [(0, 1, .c (.s [102])), (1, 1, .c (.s [103])), (2, 1, .c (.s [104]))])⟩,
  ⟨some 38, (some (33, true)), .call n_weftref05_Same [.t 36, .t 37]⟩,
  ⟨some 39, none, .op (.pick (.t 33) (.t 38) (.c (.b false)))⟩,
  ⟨some 40, none, .op (.mov (.t 39))⟩,
  ⟨some 41, (some (40, true)), .op (.mov (.t 3))⟩,
  ⟨some 42, (some (40, true)), .call n_query_Alias [.t 41, .c (.s [102, 46, 112]), .c (.s [102, 46, 113])]⟩,
  ⟨some 43, none, .op (.pick (.t 40) (.t 42) (.c (.b false)))⟩,
  ⟨some 44, none, .op (.mov (.t 43))⟩,
  ⟨some 45, (some (44, true)), .op (.mov (.t 3))⟩,
  ⟨some 46, (some (44, true)), .call n_query_Callees [.t 45, .c (.s [102, 46, 112])]⟩,
  ⟨some 47, (some (44, true)), .op (.bfz 1 1 [.s []] [(0, 1, .c (.s [103]))])⟩,
  ⟨some 48, (some (44, true)), .call n_weftref05_Same [.t 46, .t 47]⟩,
  ⟨some 49, none, .op (.pick (.t 44) (.t 48) (.c (.b false)))⟩,
  ⟨some 50, none, .op (.mov (.t 49))⟩,
  ⟨some 51, (some (50, true)), .op (.mov (.t 3))⟩,
  ⟨some 52, (some (50, true)), .call n_query_Holders [.t 51, .c (.s [120, 43, 48])]⟩,
  ⟨some 53, (some (50, true)), .op (.bfz 2 1 [.s []] [(0, 1, .c (.s [102, 46, 112])), (1, 1, .c (.s [102, 46, 113]))])⟩,
  ⟨some 54, (some (50, true)), .call n_weftref05_Same [.t 52, .t 53]⟩,
  ⟨some 55, none, .op (.pick (.t 50) (.t 54) (.c (.b false)))⟩,
  ⟨some 0, none, .op (.mov (.t 55))⟩]
def weftlaw32_works : AFunc := ⟨56, [.t 0], .seq (.post [] (.region weftlaw32_works.r0)) (.seq (.post [1] (.region weftlaw32_works.r1)) (.seq (.post [1, 2] (.region weftlaw32_works.r2)) (.seq (.post [1, 2, 3] (.region weftlaw32_works.r3)) (.seq (.post [0] (.region weftlaw32_works.r4)) (.ret)))))⟩
theorem weftlaw32_works.at : Tryz.prog.funcs[n_weftlaw32_works]? = some Tryz.f15 := Tryz.func15
def weftlaw32_greatEdges.r0 : List AStep := [
  ⟨some 2, none, .op (.mov (.c (.b false)))⟩]
def weftlaw32_greatEdges.r1 : List AStep := [
  ⟨some 3, none, .op (.mov (.c (.i .i64 0)))⟩]
def weftlaw32_greatEdges.r2 : List AStep := [
  ⟨some 4, none, .op (.mov (.t 3))⟩,
  ⟨some 5, none, .op (.mov (.t 0))⟩,
  ⟨some 6, none, .op (.len false (.t 5))⟩,
  ⟨some 7, none, .op (.bin .lss (.t 4) (.t 6))⟩]
def weftlaw32_greatEdges.r3 : List AStep := [
  ⟨some 10, none, .op (.mov (.t 3))⟩,
  ⟨some 11, none, .op (.bin .geq (.t 10) (.c (.i .i64 40)))⟩,
  ⟨some 12, none, .op (.mov (.t 11))⟩,
  ⟨some 13, (some (12, false)), .op (.mov (.t 0))⟩,
  ⟨some 14, (some (12, false)), .op (.mov (.t 3))⟩,
  ⟨some 15, (some (12, false)), .op (.iad 2 (.t 13) (.t 14))⟩,
  ⟨some 16, (some (12, false)), .op (.fadr 0 (.t 15))⟩,
  ⟨some 17, (some (12, false)), .op (.load false 1 (.t 16))⟩,
  ⟨some 18, (some (12, false)), .op (.len true (.t 17))⟩,
  ⟨some 19, (some (12, false)), .op (.bin .gtr (.t 18) (.c (.i .i64 100)))⟩,
  ⟨some 20, none, .op (.pick (.t 12) (.c (.b true)) (.t 19))⟩,
  ⟨some 21, none, .op (.mov (.t 20))⟩,
  ⟨some 22, (some (21, false)), .op (.mov (.t 0))⟩,
  ⟨some 23, (some (21, false)), .op (.mov (.t 3))⟩,
  ⟨some 24, (some (21, false)), .op (.iad 2 (.t 22) (.t 23))⟩,
  ⟨some 25, (some (21, false)), .op (.fadr 1 (.t 24))⟩,
  ⟨some 26, (some (21, false)), .op (.load false 1 (.t 25))⟩,
  ⟨some 27, (some (21, false)), .op (.len true (.t 26))⟩,
  ⟨some 28, (some (21, false)), .op (.bin .gtr (.t 27) (.c (.i .i64 100)))⟩,
  ⟨some 29, none, .op (.pick (.t 21) (.c (.b true)) (.t 28))⟩]
def weftlaw32_greatEdges.r4 : List AStep := [
  ⟨some 2, none, .op (.mov (.c (.b true)))⟩]
def weftlaw32_greatEdges.r5 : List AStep := [
  ⟨some 8, none, .op (.mov (.t 3))⟩,
  ⟨some 9, none, .op (.bin .add (.t 8) (.c (.i .i64 1)))⟩,
  ⟨some 3, none, .op (.mov (.t 9))⟩]
def weftlaw32_greatEdges.l0 : ACode := .seq (.seq (.post [0, 3, 7] (.region weftlaw32_greatEdges.r2)) (.post [0, 3] (.cond (.t 7) (.skip) (.exit 0)))) (.seq (.post [0, 3] (.block 1 (.seq (.post [0, 3, 29] (.region weftlaw32_greatEdges.r3)) (.post [0, 3] (.cond (.t 29) (.seq (.post [2] (.region weftlaw32_greatEdges.r4)) (.ret)) (.skip)))))) (.post [0, 3] (.region weftlaw32_greatEdges.r5)))
def weftlaw32_greatEdges.r6 : List AStep := [
  ⟨some 2, none, .op (.mov (.c (.b false)))⟩]
def weftlaw32_greatEdges : AFunc := ⟨30, [.t 2], .seq (.post [0] (.region weftlaw32_greatEdges.r0)) (.seq (.seq (.post [0, 3] (.region weftlaw32_greatEdges.r1)) (.post [] (.block 0 (.loop weftlaw32_greatEdges.l0)))) (.seq (.post [2] (.region weftlaw32_greatEdges.r6)) (.ret)))⟩
theorem weftlaw32_greatEdges.ok : okFunc Tryz.prog Tryz.f16 weftlaw32_greatEdges = true := by kernel_rfl
theorem weftlaw32_greatEdges.at : Tryz.prog.funcs[n_weftlaw32_greatEdges]? = some Tryz.f16 := Tryz.func16
def weftlaw21_GreatTexts.r0 : List AStep := [
  ⟨some 2, none, .op (.mov (.c (.b false)))⟩]
def weftlaw21_GreatTexts.r1 : List AStep := [
  ⟨some 3, none, .op (.mov (.c (.i .i64 0)))⟩]
def weftlaw21_GreatTexts.r2 : List AStep := [
  ⟨some 4, none, .op (.mov (.t 3))⟩,
  ⟨some 5, none, .op (.mov (.t 0))⟩,
  ⟨some 6, none, .op (.len false (.t 5))⟩,
  ⟨some 7, none, .op (.bin .lss (.t 4) (.t 6))⟩]
def weftlaw21_GreatTexts.r3 : List AStep := [
  ⟨some 10, none, .op (.mov (.t 3))⟩,
  ⟨some 11, none, .op (.bin .geq (.t 10) (.c (.i .i64 60)))⟩,
  ⟨some 12, none, .op (.mov (.t 11))⟩,
  ⟨some 13, (some (12, false)), .op (.mov (.t 0))⟩,
  ⟨some 14, (some (12, false)), .op (.mov (.t 3))⟩,
  ⟨some 15, (some (12, false)), .op (.iad 1 (.t 13) (.t 14))⟩,
  ⟨some 16, (some (12, false)), .op (.load false 1 (.t 15))⟩,
  ⟨some 17, (some (12, false)), .op (.len true (.t 16))⟩,
  ⟨some 18, (some (12, false)), .op (.bin .gtr (.t 17) (.c (.i .i64 100)))⟩,
  ⟨some 19, none, .op (.pick (.t 12) (.c (.b true)) (.t 18))⟩]
def weftlaw21_GreatTexts.r4 : List AStep := [
  ⟨some 2, none, .op (.mov (.c (.b true)))⟩]
def weftlaw21_GreatTexts.r5 : List AStep := [
  ⟨some 8, none, .op (.mov (.t 3))⟩,
  ⟨some 9, none, .op (.bin .add (.t 8) (.c (.i .i64 1)))⟩,
  ⟨some 3, none, .op (.mov (.t 9))⟩]
def weftlaw21_GreatTexts.l0 : ACode := .seq (.seq (.post [0, 3, 7] (.region weftlaw21_GreatTexts.r2)) (.post [0, 3] (.cond (.t 7) (.skip) (.exit 0)))) (.seq (.post [0, 3] (.block 1 (.seq (.post [0, 3, 19] (.region weftlaw21_GreatTexts.r3)) (.post [0, 3] (.cond (.t 19) (.seq (.post [2] (.region weftlaw21_GreatTexts.r4)) (.ret)) (.skip)))))) (.post [0, 3] (.region weftlaw21_GreatTexts.r5)))
def weftlaw21_GreatTexts.r6 : List AStep := [
  ⟨some 2, none, .op (.mov (.c (.b false)))⟩]
def weftlaw21_GreatTexts : AFunc := ⟨20, [.t 2], .seq (.post [0] (.region weftlaw21_GreatTexts.r0)) (.seq (.seq (.post [0, 3] (.region weftlaw21_GreatTexts.r1)) (.post [] (.block 0 (.loop weftlaw21_GreatTexts.l0)))) (.seq (.post [2] (.region weftlaw21_GreatTexts.r6)) (.ret)))⟩
theorem weftlaw21_GreatTexts.ok : okFunc Tryz.prog Tryz.f17 weftlaw21_GreatTexts = true := by kernel_rfl
theorem weftlaw21_GreatTexts.at : Tryz.prog.funcs[n_weftlaw21_GreatTexts]? = some Tryz.f17 := Tryz.func17
def weftlaw32_edges.r0 : List AStep := [
  ⟨some 2, none, .op (.mov (.c (.sl none 0 0)))⟩]
def weftlaw32_edges.r1 : List AStep := [
  ⟨some 3, none, .op (.mov (.c (.sl none 0 0)))⟩]
def weftlaw32_edges.r2 : List AStep := [
  ⟨some 4, none, .op (.mov (.c (.i .i64 0)))⟩]
def weftlaw32_edges.r3 : List AStep := [
  ⟨some 5, none, .op (.mov (.t 4))⟩,
  ⟨some 6, none, .op (.mov (.t 0))⟩,
  ⟨some 7, none, .op (.len false (.t 6))⟩,
  ⟨some 8, none, .op (.bin .lss (.t 5) (.t 7))⟩]
def weftlaw32_edges.r4 : List AStep := [
  ⟨some 11, none, .op (.mov (.t 3))⟩,
  ⟨some 12, none, .op (.mov (.t 0))⟩,
  ⟨some 13, none, .op (.mov (.t 4))⟩,
  ⟨some 14, none, .op (.iad 2 (.t 12) (.t 13))⟩,
  ⟨some 15, none, .op (.fadr 0 (.t 14))⟩,
  ⟨some 16, none, .op (.load false 1 (.t 15))⟩,
  ⟨some 17, none, .op (.mov (.t 0))⟩,
  ⟨some 18, none, .op (.mov (.t 4))⟩,
  ⟨some 19, none, .op (.iad 2 (.t 17) (.t 18))⟩,
  ⟨some 20, none, .op (.fadr 1 (.t 19))⟩,
  ⟨some 21, none, .op (.load false 1 (.t 20))⟩,
  ⟨some 22, none, .op (.build [.s [], .s []] [(0, 1, .t 16), (1, 1, .t 21)])⟩,
  ⟨some 23, none, .op (.bfz 1 2 [.s [], .s []] [(0, 2, .t 22)])⟩,
  ⟨some 24, none, .op (.app 2 32 (.t 11) (.t 23))⟩,
  ⟨some 3, none, .op (.mov (.t 24))⟩]
def weftlaw32_edges.r5 : List AStep := [
  ⟨some 9, none, .op (.mov (.t 4))⟩,
  ⟨some 10, none, .op (.bin .add (.t 9) (.c (.i .i64 1)))⟩,
  ⟨some 4, none, .op (.mov (.t 10))⟩]
def weftlaw32_edges.l0 : ACode := .seq (.seq (.post [0, 3, 4, 8] (.region weftlaw32_edges.r3)) (.post [0, 3, 4] (.cond (.t 8) (.skip) (.exit 0)))) (.seq (.post [0, 3, 4] (.block 1 (.post [0, 3, 4] (.draw [0, 0, 0, 6, 14, 30, 0, 0, 192, 448, 960, 2046, 4094, 8191, 16383] weftlaw32_edges.r4)))) (.post [0, 3, 4] (.region weftlaw32_edges.r5)))
def weftlaw32_edges.r6 : List AStep := [
  ⟨some 25, none, .op (.mov (.t 3))⟩,
  ⟨some 2, none, .op (.mov (.t 25))⟩]
def weftlaw32_edges : AFunc := ⟨26, [.t 2], .seq (.post [0] (.region weftlaw32_edges.r0)) (.seq (.post [0, 3] (.region weftlaw32_edges.r1)) (.seq (.seq (.post [0, 3, 4] (.region weftlaw32_edges.r2)) (.post [3] (.block 0 (.loop weftlaw32_edges.l0)))) (.seq (.post [2] (.region weftlaw32_edges.r6)) (.ret))))⟩
theorem weftlaw32_edges.ok : okFunc Tryz.prog Tryz.f19 weftlaw32_edges = true := by kernel_rfl
theorem weftlaw32_edges.at : Tryz.prog.funcs[n_weftlaw32_edges]? = some Tryz.f19 := Tryz.func19
end C
end Go.Proofs.YtggjaoibcfgofaaGreatDoor
