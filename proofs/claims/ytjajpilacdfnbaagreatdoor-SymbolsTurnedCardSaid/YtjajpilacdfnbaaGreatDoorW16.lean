/- Part 16 of the proof of the laws of the queries: CodeB, CodeC. -/
import Derived.Test.YtjajpilacdfnbaaGreatDoorW15
namespace Go.Proofs.YtjajpilacdfnbaaGreatDoor
open Am Go.Proofs
set_option maxRecDepth 100000
namespace C
def symbols_symbol.r0 : List AStep := [
  ⟨some 5, none, .op (.box (.t 2))⟩,
  ⟨some 6, none, .op (.new [.s [], .s [], .sl none 0 0])⟩,
  ⟨some 7, none, .op (.mov (.c (.i .i64 0)))⟩]
def symbols_symbol.r1 : List AStep := [
  ⟨some 14, none, .op (.mov (.t 1))⟩,
  ⟨some 15, none, .op (.build [.s [], .s [], .sl none 0 0] [(0, 1, .t 14)])⟩,
  ⟨some 8, none, .op (.new [.s [], .s [], .sl none 0 0])⟩,
  ⟨none, none, .op (.store 3 (.t 8) (.t 15))⟩]
def symbols_symbol.r2 : List AStep := [
  ⟨some 9, none, .op (.mov (.c (.i .i64 0)))⟩,
  ⟨some 10, none, .op (.mov (.c (.i .i64 0)))⟩]
def symbols_symbol.r3 : List AStep := [
  ⟨some 16, none, .op (.load false 1 (.t 5))⟩,
  ⟨some 17, none, .op (.len false (.t 16))⟩,
  ⟨some 18, none, .op (.mov (.c (.i .i64 0)))⟩]
def symbols_symbol.r4 : List AStep := [
  ⟨some 19, none, .op (.bin .lss (.t 18) (.t 17))⟩]
def symbols_symbol.r5 : List AStep := [
  ⟨some 20, none, .op (.iad 4 (.t 16) (.t 18))⟩,
  ⟨some 21, none, .op (.load true 4 (.t 20))⟩,
  ⟨some 12, none, .op (.new [.i .i64 0, .sl none 0 0, .sl none 0 0, .sl none 0 0])⟩,
  ⟨none, none, .op (.store 4 (.t 12) (.t 21))⟩]
def symbols_symbol.r6 : List AStep := [
  ⟨some 22, none, .op (.mov (.t 0))⟩,
  ⟨some 23, none, .op (.fadr 0 (.t 12))⟩,
  ⟨some 24, none, .op (.load false 1 (.t 23))⟩,
  ⟨some 25, none, .op (.iad 7 (.t 22) (.t 24))⟩,
  ⟨some 26, none, .op (.load true 7 (.t 25))⟩,
  ⟨some 13, none, .op (.new [.s [], .sl none 0 0, .sl none 0 0, .sl none 0 0, .sl none 0 0, .sl none 0 0, .sl none 0 0])⟩,
  ⟨none, none, .op (.store 7 (.t 13) (.t 26))⟩]
def symbols_symbol.r7 : List AStep := [
  ⟨some 30, none, .op (.fadr 1 (.t 13))⟩,
  ⟨some 31, none, .op (.load false 1 (.t 30))⟩,
  ⟨some 32, none, .op (.mov (.t 1))⟩,
  ⟨some 33, none, .call n_slices_Contains_string_string [.t 31, .t 32]⟩,
  ⟨some 29, none, .op (.mov (.t 33))⟩]
def symbols_symbol.r8 : List AStep := [
  ⟨some 34, none, .op (.mov (.t 9))⟩,
  ⟨some 35, none, .op (.bin .add (.t 34) (.c (.i .i64 1)))⟩,
  ⟨some 9, none, .op (.mov (.t 35))⟩]
def symbols_symbol.r9 : List AStep := [
  ⟨some 36, none, .op (.fadr 0 (.t 13))⟩,
  ⟨some 37, none, .op (.load false 1 (.t 36))⟩,
  ⟨some 38, none, .op (.fadr 1 (.t 8))⟩,
  ⟨none, none, .op (.store 1 (.t 38) (.t 37))⟩]
def symbols_symbol.r10 : List AStep := [
  ⟨some 40, none, .op (.fadr 2 (.t 13))⟩,
  ⟨some 41, none, .op (.load false 1 (.t 40))⟩,
  ⟨some 42, none, .op (.mov (.t 1))⟩,
  ⟨some 43, none, .call n_slices_Contains_string_string [.t 41, .t 42]⟩,
  ⟨some 39, none, .op (.mov (.t 43))⟩]
def symbols_symbol.r11 : List AStep := [
  ⟨some 44, none, .op (.fadr 2 (.t 8))⟩,
  ⟨some 45, none, .op (.load false 1 (.t 44))⟩,
  ⟨some 46, none, .op (.fadr 0 (.t 13))⟩,
  ⟨some 47, none, .op (.load false 1 (.t 46))⟩,
  ⟨some 48, none, .op (.bfz 1 1 [.s []] [(0, 1, .t 47)])⟩,
  ⟨some 49, none, .op (.app 1 16 (.t 45) (.t 48))⟩,
  ⟨some 50, none, .op (.fadr 2 (.t 8))⟩,
  ⟨none, none, .op (.store 1 (.t 50) (.t 49))⟩]
def symbols_symbol.r12 : List AStep := [
  ⟨some 27, none, .op (.mov (.t 10))⟩,
  ⟨some 28, none, .op (.bin .add (.t 27) (.c (.i .i64 1)))⟩,
  ⟨some 10, none, .op (.mov (.t 28))⟩]
def symbols_symbol.r13 : List AStep := [
  ⟨some 51, none, .op (.bin .add (.t 18) (.c (.i .i64 1)))⟩,
  ⟨some 18, none, .op (.mov (.t 51))⟩]
def symbols_symbol.l0 : ACode := .seq (.post [0, 1, 5, 6, 8, 9, 10, 16, 17, 18, 19] (.region symbols_symbol.r4)) (.seq (.post [0, 1, 5, 6, 8, 9, 10, 16, 17, 18] (.cond (.t 19) (.skip) (.exit 0))) (.seq (.post [0, 1, 5, 6, 8, 9, 10, 16, 17, 18] (.block 1 (.seq (.post [0, 1, 5, 6, 8, 9, 10, 12, 16, 17, 18] (.region symbols_symbol.r5)) (.seq (.post [0, 1, 5, 6, 8, 9, 10, 13, 16, 17, 18] (.region symbols_symbol.r6)) (.post [0, 1, 5, 6, 8, 9, 10, 16, 17, 18] (.block 2 (.seq (.post [0, 1, 5, 6, 8, 9, 10, 13, 16, 17, 18, 29] (.region symbols_symbol.r7)) (.post [0, 1, 5, 6, 8, 9, 10, 16, 17, 18] (.cond (.t 29) (.seq (.post [0, 1, 5, 6, 8, 9, 10, 13, 16, 17, 18] (.region symbols_symbol.r8)) (.post [0, 1, 5, 6, 8, 9, 10, 16, 17, 18] (.region symbols_symbol.r9))) (.seq (.post [0, 1, 5, 6, 8, 9, 10, 13, 16, 17, 18, 39] (.region symbols_symbol.r10)) (.post [0, 1, 5, 6, 8, 9, 10, 16, 17, 18] (.cond (.t 39) (.post [0, 1, 5, 6, 8, 9, 10, 16, 17, 18] (.region symbols_symbol.r11)) (.post [0, 1, 5, 6, 8, 9, 10, 16, 17, 18] (.region symbols_symbol.r12)))))))))))))) (.post [0, 1, 5, 6, 8, 9, 10, 16, 17, 18] (.region symbols_symbol.r13))))
def symbols_symbol.r14 : List AStep := [
  ⟨some 52, none, .op (.fadr 2 (.t 8))⟩,
  ⟨some 53, none, .op (.load false 1 (.t 52))⟩,
  ⟨some 54, none, .call n_intern_Sorted_string [.t 53]⟩,
  ⟨some 55, none, .op (.fadr 2 (.t 8))⟩,
  ⟨none, none, .op (.store 1 (.t 55) (.t 54))⟩]
def symbols_symbol.r15 : List AStep := [
  ⟨some 57, none, .op (.mov (.t 9))⟩,
  ⟨some 58, none, .op (.bin .gtr (.t 57) (.c (.i .i64 1)))⟩,
  ⟨some 59, none, .op (.mov (.t 58))⟩,
  ⟨some 60, (some (59, false)), .op (.mov (.t 10))⟩,
  ⟨some 61, (some (59, false)), .op (.bin .gtr (.t 60) (.c (.i .i64 0)))⟩,
  ⟨some 62, (some (59, false)), .op (.mov (.t 61))⟩,
  ⟨some 63, (some (62, true)), .op (.load false 1 (.t 5))⟩,
  ⟨some 64, (some (62, true)), .op (.len false (.t 63))⟩,
  ⟨some 65, (some (62, true)), .op (.bin .gtr (.t 64) (.c (.i .i64 1)))⟩,
  ⟨some 66, (some (59, false)), .op (.pick (.t 62) (.t 65) (.c (.b false)))⟩,
  ⟨some 67, none, .op (.pick (.t 59) (.c (.b true)) (.t 66))⟩,
  ⟨some 56, none, .op (.mov (.t 67))⟩]
def symbols_symbol.r16 : List AStep := [
  ⟨some 68, none, .op (.load true 3 (.t 8))⟩,
  ⟨none, none, .op (.store 3 (.t 6) (.t 68))⟩,
  ⟨some 7, none, .op (.mov (.c (.i .i64 8)))⟩]
def symbols_symbol.r17 : List AStep := [
  ⟨some 70, none, .op (.load false 1 (.t 5))⟩,
  ⟨some 71, none, .op (.mkfn n_symbols_symbol_1 [.t 5])⟩,
  ⟨some 72, none, .call n_slices_ContainsFunc_symbols_thing_symbols_thing [.t 70, .t 71]⟩,
  ⟨some 69, none, .op (.mov (.t 72))⟩]
def symbols_symbol.r18 : List AStep := [
  ⟨some 73, none, .op (.load true 3 (.t 8))⟩,
  ⟨none, none, .op (.store 3 (.t 6) (.t 73))⟩,
  ⟨some 7, none, .op (.mov (.c (.i .i64 12)))⟩]
def symbols_symbol.r19 : List AStep := [
  ⟨some 75, none, .op (.fadr 2 (.t 8))⟩,
  ⟨some 76, none, .op (.load false 1 (.t 75))⟩,
  ⟨some 77, none, .op (.len false (.t 76))⟩,
  ⟨some 78, none, .op (.bin .gtr (.t 77) (.c (.i .i64 0)))⟩,
  ⟨some 79, none, .op (.mov (.t 78))⟩,
  ⟨some 80, (some (79, true)), .op (.mov (.t 9))⟩,
  ⟨some 81, (some (79, true)), .op (.bin .eql (.t 80) (.c (.i .i64 0)))⟩,
  ⟨some 82, none, .op (.pick (.t 79) (.t 81) (.c (.b false)))⟩,
  ⟨some 74, none, .op (.mov (.t 82))⟩]
def symbols_symbol.r20 : List AStep := [
  ⟨some 83, none, .op (.load true 3 (.t 8))⟩,
  ⟨none, none, .op (.store 3 (.t 6) (.t 83))⟩,
  ⟨some 7, none, .op (.mov (.c (.i .i64 7)))⟩]
def symbols_symbol.r21 : List AStep := [
  ⟨some 84, none, .op (.load true 3 (.t 8))⟩,
  ⟨none, none, .op (.store 3 (.t 6) (.t 84))⟩,
  ⟨some 7, none, .op (.mov (.c (.i .i64 0)))⟩]
def symbols_symbol : AFunc := ⟨85, [.cell 6 true 3, .t 7], .seq (.post [0, 1, 5, 6] (.region symbols_symbol.r0)) (.seq (.post [0, 1, 5, 6, 8] (.region symbols_symbol.r1)) (.seq (.post [0, 1, 5, 6, 8, 9, 10] (.region symbols_symbol.r2)) (.seq (.seq (.post [0, 1, 5, 6, 8, 9, 10, 16, 17, 18] (.region symbols_symbol.r3)) (.post [5, 6, 8, 9, 10] (.block 0 (.loop symbols_symbol.l0)))) (.seq (.post [5, 6, 8, 9, 10] (.region symbols_symbol.r14)) (.seq (.post [6, 8] (.block 3 (.seq (.post [5, 6, 8, 9, 56] (.region symbols_symbol.r15)) (.post [6, 8] (.cond (.t 56) (.seq (.post [6, 7] (.region symbols_symbol.r16)) (.ret)) (.seq (.post [6, 8, 9, 69] (.region symbols_symbol.r17)) (.post [6, 8] (.cond (.t 69) (.seq (.post [6, 7] (.region symbols_symbol.r18)) (.ret)) (.seq (.post [6, 8, 74] (.region symbols_symbol.r19)) (.post [6, 8] (.cond (.t 74) (.seq (.post [6, 7] (.region symbols_symbol.r20)) (.ret)) (.skip)))))))))))) (.seq (.post [6, 7] (.region symbols_symbol.r21)) (.ret)))))))⟩
theorem symbols_symbol.ok : okFunc Tryz.prog Tryz.f17 symbols_symbol = true := by kernel_rfl
theorem symbols_symbol.at : Tryz.prog.funcs[n_symbols_symbol]? = some Tryz.f17 := Tryz.func17
def symbols_Resolve.r0 : List AStep := [
  ⟨some 2, none, .op (.mov (.c (.sl none 0 0)))⟩,
  ⟨some 3, none, .op (.mov (.c (.s [])))⟩,
  ⟨some 4, none, .op (.mov (.c (.i .i64 0)))⟩]
def symbols_Resolve.r1 : List AStep := [
  ⟨some 16, none, .op (.mov (.t 0))⟩,
  ⟨some 17, none, .op (.len false (.t 16))⟩,
  ⟨some 18, none, .op (.bin .gtr (.t 17) (.c (.i .i64 8)))⟩]
def symbols_Resolve.r2 : List AStep := [
  ⟨some 2, none, .op (.mov (.c (.sl none 0 0)))⟩,
  ⟨some 3, none, .op (.mov (.c (.s [])))⟩,
  ⟨some 4, none, .op (.mov (.c (.i .i64 4)))⟩]
def symbols_Resolve.r3 : List AStep := [
  ⟨some 19, none, .op (.mov (.t 0))⟩,
  ⟨some 20, none, .op (.len false (.t 19))⟩,
  ⟨some 21, none, .op (.mov (.c (.i .i64 0)))⟩]
def symbols_Resolve.r4 : List AStep := [
  ⟨some 22, none, .op (.bin .lss (.t 21) (.t 20))⟩]
def symbols_Resolve.r5 : List AStep := [
  ⟨some 23, none, .op (.mov (.t 21))⟩,
  ⟨some 24, none, .op (.iad 7 (.t 19) (.t 21))⟩,
  ⟨some 25, none, .op (.load true 7 (.t 24))⟩,
  ⟨some 6, none, .op (.new [.s [], .sl none 0 0, .sl none 0 0, .sl none 0 0, .sl none 0 0, .sl none 0 0, .sl none 0 0])⟩,
  ⟨some 5, none, .op (.mov (.t 23))⟩,
  ⟨none, none, .op (.store 7 (.t 6) (.t 25))⟩]
def symbols_Resolve.r6 : List AStep := [
  ⟨some 26, none, .op (.load true 7 (.t 6))⟩,
  ⟨some 27, none, .call n_summary_Check [.t 26]⟩,
  ⟨some 7, none, .op (.mov (.t 27))⟩]
def symbols_Resolve.r7 : List AStep := [
  ⟨some 28, none, .op (.mov (.t 7))⟩,
  ⟨some 29, none, .op (.bin .eql (.t 28) (.c (.i .i64 0)))⟩,
  ⟨some 30, none, .op (.mov (.t 29))⟩,
  ⟨some 31, (some (30, true)), .op (.mov (.t 0))⟩,
  ⟨some 32, (some (30, true)), .op (.mov (.t 5))⟩,
  ⟨some 33, (some (30, true)), .op (.slc 7 (.t 31) none (some (.t 32)))⟩,
  ⟨some 34, (some (30, true)), .op (.mkfn n_symbols_Resolve_1 [.t 6])⟩,
  ⟨some 35, (some (30, true)), .call n_slices_ContainsFunc_api_Summary_api_Summary [.t 33, .t 34]⟩,
  ⟨some 36, none, .op (.pick (.t 30) (.t 35) (.c (.b false)))⟩]
def symbols_Resolve.r8 : List AStep := [
  ⟨some 7, none, .op (.mov (.c (.i .i64 8)))⟩]
def symbols_Resolve.r9 : List AStep := [
  ⟨some 37, none, .op (.mov (.t 7))⟩,
  ⟨some 38, none, .op (.bin .neq (.t 37) (.c (.i .i64 0)))⟩]
def symbols_Resolve.r10 : List AStep := [
  ⟨some 39, none, .op (.fadr 0 (.t 6))⟩,
  ⟨some 40, none, .op (.load false 1 (.t 39))⟩,
  ⟨some 41, none, .op (.mov (.t 7))⟩,
  ⟨some 2, none, .op (.mov (.c (.sl none 0 0)))⟩,
  ⟨some 3, none, .op (.mov (.t 40))⟩,
  ⟨some 4, none, .op (.mov (.t 41))⟩]
def symbols_Resolve.r11 : List AStep := [
  ⟨some 42, none, .op (.bin .add (.t 21) (.c (.i .i64 1)))⟩,
  ⟨some 21, none, .op (.mov (.t 42))⟩]
def symbols_Resolve.l0 : ACode := .seq (.post [0, 19, 20, 21, 22] (.region symbols_Resolve.r4)) (.seq (.post [0, 19, 20, 21] (.cond (.t 22) (.skip) (.exit 0))) (.seq (.post [0, 19, 20, 21] (.block 1 (.seq (.post [0, 5, 6, 19, 20, 21] (.region symbols_Resolve.r5)) (.seq (.post [0, 5, 6, 7, 19, 20, 21] (.region symbols_Resolve.r6)) (.seq (.seq (.post [0, 6, 7, 19, 20, 21, 36] (.region symbols_Resolve.r7)) (.post [0, 6, 7, 19, 20, 21] (.cond (.t 36) (.post [0, 6, 7, 19, 20, 21] (.region symbols_Resolve.r8)) (.skip)))) (.seq (.post [0, 6, 7, 19, 20, 21, 38] (.region symbols_Resolve.r9)) (.post [0, 19, 20, 21] (.cond (.t 38) (.seq (.post [2, 3, 4] (.draw [0, 1, 0, 0, 11, 31] symbols_Resolve.r10)) (.ret)) (.skip))))))))) (.post [0, 19, 20, 21] (.region symbols_Resolve.r11))))
def symbols_Resolve.r12 : List AStep := [
  ⟨some 43, none, .op (.mov (.t 0))⟩,
  ⟨some 44, none, .call n_symbols_things [.t 43]⟩,
  ⟨some 8, none, .op (.mov (.t 44))⟩]
def symbols_Resolve.r13 : List AStep := [
  ⟨some 9, none, .op (.mov (.c (.sl none 0 0)))⟩]
def symbols_Resolve.r14 : List AStep := [
  ⟨some 45, none, .op (.mov (.t 8))⟩,
  ⟨some 46, none, .op (.rgm (.t 45))⟩]
def symbols_Resolve.r15 : List AStep := [
  ⟨some 47, none, .nxt (.t 46)⟩,
  ⟨some 48, none, .op (.ext 0 (.t 47))⟩]
def symbols_Resolve.r16 : List AStep := [
  ⟨some 49, none, .op (.enm (.t 46))⟩,
  ⟨some 50, none, .op (.ext 0 (.t 49))⟩,
  ⟨some 10, none, .op (.mov (.t 50))⟩]
def symbols_Resolve.r17 : List AStep := [
  ⟨some 51, none, .op (.mov (.t 9))⟩,
  ⟨some 52, none, .op (.mov (.t 10))⟩,
  ⟨some 53, none, .op (.bfz 1 1 [.s []] [(0, 1, .t 52)])⟩,
  ⟨some 54, none, .op (.app 1 16 (.t 51) (.t 53))⟩,
  ⟨some 9, none, .op (.mov (.t 54))⟩]
def symbols_Resolve.l1 : ACode := .seq (.post [0, 8, 9, 46, 48] (.region symbols_Resolve.r15)) (.seq (.post [0, 8, 9, 46] (.cond (.t 48) (.skip) (.exit 2))) (.post [0, 8, 9, 46] (.block 3 (.seq (.post [0, 8, 9, 10, 46] (.region symbols_Resolve.r16)) (.post [0, 8, 9, 46] (.region symbols_Resolve.r17))))))
def symbols_Resolve.r18 : List AStep := [
  ⟨some 55, none, .op (.mov (.t 9))⟩,
  ⟨some 56, none, .call n_slices_Sort_string_string [.t 55]⟩]
def symbols_Resolve.r19 : List AStep := [
  ⟨some 11, none, .op (.mov (.c (.sl none 0 0)))⟩]
def symbols_Resolve.r20 : List AStep := [
  ⟨some 57, none, .op (.mov (.t 9))⟩,
  ⟨some 58, none, .op (.len false (.t 57))⟩,
  ⟨some 59, none, .op (.mov (.c (.i .i64 0)))⟩]
def symbols_Resolve.r21 : List AStep := [
  ⟨some 60, none, .op (.bin .lss (.t 59) (.t 58))⟩]
def symbols_Resolve.r22 : List AStep := [
  ⟨some 61, none, .op (.iad 1 (.t 57) (.t 59))⟩,
  ⟨some 62, none, .op (.load false 1 (.t 61))⟩,
  ⟨some 13, none, .op (.mov (.t 62))⟩]
def symbols_Resolve.r23 : List AStep := [
  ⟨some 64, none, .op (.mov (.t 0))⟩,
  ⟨some 65, none, .op (.mov (.t 13))⟩,
  ⟨some 66, none, .op (.mov (.t 8))⟩,
  ⟨some 67, none, .op (.mov (.t 13))⟩,
  ⟨some 68, none, .op (.lkm false (.sl none 0 0) (.t 66) (.t 67))⟩,
  ⟨some 69, none, .call n_symbols_symbol [.t 64, .t 65, .t 68]⟩,
  ⟨some 63, none, .op (.mov (.t 69))⟩,
  ⟨some 70, none, .op (.ext 0 (.t 63))⟩,
  ⟨some 71, none, .op (.ext 1 (.t 63))⟩,
  ⟨some 14, none, .op (.new [.s [], .s [], .sl none 0 0])⟩,
  ⟨none, none, .op (.store 3 (.t 14) (.t 70))⟩,
  ⟨some 15, none, .op (.mov (.t 71))⟩]
def symbols_Resolve.r24 : List AStep := [
  ⟨some 72, none, .op (.mov (.t 15))⟩,
  ⟨some 73, none, .op (.bin .neq (.t 72) (.c (.i .i64 0)))⟩]
def symbols_Resolve.r25 : List AStep := [
  ⟨some 74, none, .op (.mov (.t 13))⟩,
  ⟨some 75, none, .op (.mov (.t 15))⟩,
  ⟨some 2, none, .op (.mov (.c (.sl none 0 0)))⟩,
  ⟨some 3, none, .op (.mov (.t 74))⟩,
  ⟨some 4, none, .op (.mov (.t 75))⟩]
def symbols_Resolve.r26 : List AStep := [
  ⟨some 76, none, .op (.fadr 1 (.t 14))⟩,
  ⟨some 77, none, .op (.load false 1 (.t 76))⟩,
  ⟨some 78, none, .op (.bin .neq (.t 77) (.c (.s [])))⟩]
def symbols_Resolve.r27 : List AStep := [
  ⟨some 79, none, .op (.mov (.t 11))⟩,
  ⟨some 80, none, .op (.load true 3 (.t 14))⟩,
  ⟨some 81, none, .op (.bfz 1 3 [.s [], .s [], .sl none 0 0] [(0, 3, .t 80)])⟩,
  ⟨some 82, none, .op (.app 3 56 (.t 79) (.t 81))⟩,
  ⟨some 11, none, .op (.mov (.t 82))⟩]
def symbols_Resolve.r28 : List AStep := [
  ⟨some 83, none, .op (.bin .add (.t 59) (.c (.i .i64 1)))⟩,
  ⟨some 59, none, .op (.mov (.t 83))⟩]
def symbols_Resolve.l2 : ACode := .seq (.post [0, 8, 11, 57, 58, 59, 60] (.region symbols_Resolve.r21)) (.seq (.post [0, 8, 11, 57, 58, 59] (.cond (.t 60) (.skip) (.exit 4))) (.seq (.post [0, 8, 11, 57, 58, 59] (.block 5 (.seq (.post [0, 8, 11, 13, 57, 58, 59] (.region symbols_Resolve.r22)) (.seq (.post [0, 8, 11, 13, 14, 15, 57, 58, 59] (.region symbols_Resolve.r23)) (.seq (.seq (.post [0, 8, 11, 13, 14, 15, 57, 58, 59, 73] (.region symbols_Resolve.r24)) (.post [0, 8, 11, 14, 57, 58, 59] (.cond (.t 73) (.seq (.post [2, 3, 4] (.region symbols_Resolve.r25)) (.ret)) (.skip)))) (.seq (.post [0, 8, 11, 14, 57, 58, 59, 78] (.region symbols_Resolve.r26)) (.post [0, 8, 11, 57, 58, 59] (.cond (.t 78) (.post [0, 8, 11, 57, 58, 59] (.region symbols_Resolve.r27)) (.skip))))))))) (.post [0, 8, 11, 57, 58, 59] (.region symbols_Resolve.r28))))
def symbols_Resolve.r29 : List AStep := [
  ⟨some 84, none, .op (.mov (.t 11))⟩,
  ⟨some 2, none, .op (.mov (.t 84))⟩,
  ⟨some 3, none, .op (.mov (.c (.s [])))⟩,
  ⟨some 4, none, .op (.mov (.c (.i .i64 0)))⟩]
def symbols_Resolve : AFunc := ⟨85, [.t 2, .t 3, .t 4], .seq (.post [0] (.region symbols_Resolve.r0)) (.seq (.seq (.post [0, 18] (.region symbols_Resolve.r1)) (.post [0] (.cond (.t 18) (.seq (.post [2, 3, 4] (.region symbols_Resolve.r2)) (.ret)) (.skip)))) (.seq (.seq (.post [0, 19, 20, 21] (.region symbols_Resolve.r3)) (.post [0] (.block 0 (.loop symbols_Resolve.l0)))) (.seq (.post [0, 8] (.region symbols_Resolve.r12)) (.seq (.post [0, 8, 9] (.region symbols_Resolve.r13)) (.seq (.seq (.post [0, 8, 9, 46] (.region symbols_Resolve.r14)) (.post [0, 8, 9] (.block 2 (.loop symbols_Resolve.l1)))) (.seq (.post [0, 8, 9] (.region symbols_Resolve.r18)) (.seq (.post [0, 8, 9, 11] (.region symbols_Resolve.r19)) (.seq (.seq (.post [0, 8, 11, 57, 58, 59] (.region symbols_Resolve.r20)) (.post [11] (.block 4 (.loop symbols_Resolve.l2)))) (.seq (.post [2, 3, 4] (.region symbols_Resolve.r29)) (.ret))))))))))⟩
theorem symbols_Resolve.ok : okFunc Tryz.prog Tryz.f6 symbols_Resolve = true := by kernel_rfl
theorem symbols_Resolve.at : Tryz.prog.funcs[n_symbols_Resolve]? = some Tryz.f6 := Tryz.func6
def weftref05_Number.r0 : List AStep := [
  ⟨some 4, none, .op (.mov (.c (.i .i64 0)))⟩]
def weftref05_Number.r1 : List AStep := [
  ⟨some 5, none, .op (.mov (.c (.i .i64 0)))⟩]
def weftref05_Number.r2 : List AStep := [
  ⟨some 6, none, .op (.mov (.t 5))⟩,
  ⟨some 7, none, .op (.mov (.t 0))⟩,
  ⟨some 8, none, .op (.len false (.t 7))⟩,
  ⟨some 9, none, .op (.bin .lss (.t 6) (.t 8))⟩]
def weftref05_Number.r3 : List AStep := [
  ⟨some 12, none, .op (.mov (.t 0))⟩,
  ⟨some 13, none, .op (.mov (.t 5))⟩,
  ⟨some 14, none, .op (.iad 1 (.t 12) (.t 13))⟩,
  ⟨some 15, none, .op (.load false 1 (.t 14))⟩,
  ⟨some 16, none, .op (.mov (.t 1))⟩,
  ⟨some 17, none, .op (.bin .eql (.t 15) (.t 16))⟩]
def weftref05_Number.r4 : List AStep := [
  ⟨some 18, none, .op (.mov (.t 5))⟩,
  ⟨some 4, none, .op (.mov (.t 18))⟩]
def weftref05_Number.r5 : List AStep := [
  ⟨some 10, none, .op (.mov (.t 5))⟩,
  ⟨some 11, none, .op (.bin .add (.t 10) (.c (.i .i64 1)))⟩,
  ⟨some 5, none, .op (.mov (.t 11))⟩]
def weftref05_Number.l0 : ACode := .seq (.seq (.post [0, 1, 5, 9] (.region weftref05_Number.r2)) (.post [0, 1, 5] (.cond (.t 9) (.skip) (.exit 0)))) (.seq (.post [0, 1, 5] (.block 1 (.seq (.post [0, 1, 5, 17] (.region weftref05_Number.r3)) (.post [0, 1, 5] (.cond (.t 17) (.seq (.post [4] (.region weftref05_Number.r4)) (.ret)) (.skip)))))) (.post [0, 1, 5] (.region weftref05_Number.r5)))
def weftref05_Number.r6 : List AStep := [
  ⟨some 4, none, .op (.mov (.c (.i .i64 (-1))))⟩]
def weftref05_Number : AFunc := ⟨19, [.t 4], .seq (.post [0, 1] (.region weftref05_Number.r0)) (.seq (.seq (.post [0, 1, 5] (.region weftref05_Number.r1)) (.post [] (.block 0 (.loop weftref05_Number.l0)))) (.seq (.post [4] (.region weftref05_Number.r6)) (.ret)))⟩
theorem weftref05_Number.ok : okFunc Tryz.prog Tryz.f19 weftref05_Number = true := by kernel_rfl
theorem weftref05_Number.at : Tryz.prog.funcs[n_weftref05_Number]? = some Tryz.f19 := Tryz.func19
def weftref05_Same.r0 : List AStep := [
  ⟨some 4, none, .op (.mov (.c (.b false)))⟩]
def weftref05_Same.r1 : List AStep := [
  ⟨some 6, none, .op (.mov (.t 0))⟩,
  ⟨some 7, none, .op (.len false (.t 6))⟩,
  ⟨some 8, none, .op (.mov (.t 1))⟩,
  ⟨some 9, none, .op (.len false (.t 8))⟩,
  ⟨some 10, none, .op (.bin .neq (.t 7) (.t 9))⟩]
def weftref05_Same.r2 : List AStep := [
  ⟨some 4, none, .op (.mov (.c (.b false)))⟩]
def weftref05_Same.r3 : List AStep := [
  ⟨some 5, none, .op (.mov (.c (.i .i64 0)))⟩]
def weftref05_Same.r4 : List AStep := [
  ⟨some 11, none, .op (.mov (.t 5))⟩,
  ⟨some 12, none, .op (.mov (.t 0))⟩,
  ⟨some 13, none, .op (.len false (.t 12))⟩,
  ⟨some 14, none, .op (.bin .lss (.t 11) (.t 13))⟩,
  ⟨some 15, none, .op (.mov (.t 14))⟩,
  ⟨some 16, (some (15, true)), .op (.mov (.t 5))⟩,
  ⟨some 17, (some (15, true)), .op (.mov (.t 1))⟩,
  ⟨some 18, (some (15, true)), .op (.len false (.t 17))⟩,
  ⟨some 19, (some (15, true)), .op (.bin .lss (.t 16) (.t 18))⟩,
  ⟨some 20, none, .op (.pick (.t 15) (.t 19) (.c (.b false)))⟩]
def weftref05_Same.r5 : List AStep := [
  ⟨some 23, none, .op (.mov (.t 0))⟩,
  ⟨some 24, none, .op (.mov (.t 5))⟩,
  ⟨some 25, none, .op (.iad 1 (.t 23) (.t 24))⟩,
  ⟨some 26, none, .op (.load false 1 (.t 25))⟩,
  ⟨some 27, none, .op (.mov (.t 1))⟩,
  ⟨some 28, none, .op (.mov (.t 5))⟩,
  ⟨some 29, none, .op (.iad 1 (.t 27) (.t 28))⟩,
  ⟨some 30, none, .op (.load false 1 (.t 29))⟩,
  ⟨some 31, none, .op (.bin .neq (.t 26) (.t 30))⟩]
def weftref05_Same.r6 : List AStep := [
  ⟨some 4, none, .op (.mov (.c (.b false)))⟩]
def weftref05_Same.r7 : List AStep := [
  ⟨some 21, none, .op (.mov (.t 5))⟩,
  ⟨some 22, none, .op (.bin .add (.t 21) (.c (.i .i64 1)))⟩,
  ⟨some 5, none, .op (.mov (.t 22))⟩]
def weftref05_Same.l0 : ACode := .seq (.seq (.post [0, 1, 5, 20] (.region weftref05_Same.r4)) (.post [0, 1, 5] (.cond (.t 20) (.skip) (.exit 0)))) (.seq (.post [0, 1, 5] (.block 1 (.seq (.post [0, 1, 5, 31] (.draw [0, 0, 3, 7, 0, 0, 48, 112, 255] weftref05_Same.r5)) (.post [0, 1, 5] (.cond (.t 31) (.seq (.post [4] (.region weftref05_Same.r6)) (.ret)) (.skip)))))) (.post [0, 1, 5] (.region weftref05_Same.r7)))
def weftref05_Same.r8 : List AStep := [
  ⟨some 4, none, .op (.mov (.c (.b true)))⟩]
def weftref05_Same : AFunc := ⟨32, [.t 4], .seq (.post [0, 1] (.region weftref05_Same.r0)) (.seq (.seq (.post [0, 1, 10] (.region weftref05_Same.r1)) (.post [0, 1] (.cond (.t 10) (.seq (.post [4] (.region weftref05_Same.r2)) (.ret)) (.skip)))) (.seq (.seq (.post [0, 1, 5] (.region weftref05_Same.r3)) (.post [] (.block 0 (.loop weftref05_Same.l0)))) (.seq (.post [4] (.region weftref05_Same.r8)) (.ret))))⟩
theorem weftref05_Same.ok : okFunc Tryz.prog Tryz.f8 weftref05_Same = true := by kernel_rfl
theorem weftref05_Same.at : Tryz.prog.funcs[n_weftref05_Same]? = some Tryz.f8 := Tryz.func8
end C
end Go.Proofs.YtjajpilacdfnbaaGreatDoor
namespace Go.Proofs.YtjajpilacdfnbaaGreatDoor
open Am Go.Proofs
set_option maxRecDepth 100000
namespace C
def weftlaw28_sysI.r0 : List AStep := [
  ⟨some 2, none, .op (.new [.sl none 0 0, .sl none 0 0, .sl none 0 0])⟩]
def weftlaw28_sysI.r1 : List AStep := [
  ⟨some 3, none, .op (.mov (.t 0))⟩,
  ⟨some 4, none, .op (.build [.s [], .s [], .s []] [(0, 1, .t 3), (1, 1, .c (.s [112])), (2, 1, .c (.s [118]))])⟩,
  ⟨some 5, none, .op (.bfz 1 3 [.s [], .s [], .s []] [(0, 3, .t 4)])⟩,
  ⟨some 6, none, .op (.build [.fs [], .fs [], .fs []] [(1, 1, .t 5)])⟩,
  ⟨none, none, .op (.store 3 (.t 2) (.t 6))⟩]
def weftlaw28_sysI : AFunc := ⟨7, [.cell 2 true 3], .seq (.post [0, 2] (.region weftlaw28_sysI.r0)) (.seq (.post [2] (.region weftlaw28_sysI.r1)) (.ret))⟩
theorem weftlaw28_sysI.ok : okFunc Tryz.prog Tryz.f22 weftlaw28_sysI = true := by kernel_rfl
theorem weftlaw28_sysI.at : Tryz.prog.funcs[n_weftlaw28_sys]? = some Tryz.f22 := Tryz.func22
def weftlaw28_worksI.r0 : List AStep := [
  ⟨some 0, none, .op (.mov (.c (.b false)))⟩]
def weftlaw28_worksI.r1 : List AStep := [
  ⟨some 8, none, .op (.bfz 1 1 [.s []] [(0, 1, .c (.s [102, 40, 41]))])⟩,
  ⟨some 9, none, .call n_weftlaw28_sys [.c (.s [102, 40, 41])]⟩,
  ⟨some 10, none, .op (.build [.s [], .fs [], .fs [], .fs [], .fs [], .fs [], .fs []] [(0, 1, .c (.s [110])), (2, 1, .t 8), (4, 3, .t 9)])⟩,
  ⟨some 11, none, .op (.bfz 1 1 [.s []] [(0, 1, .c (.s [102, 40, 41]))])⟩,
  ⟨some 12, none, .call n_weftlaw28_sys [.c (.s [102, 40, 41])]⟩,
  ⟨some 13, none, .op (.build [.s [], .fs [], .fs [], .fs [], .fs [], .fs [], .fs []] [(0, 1, .c (.s [109])), (1, 1, .t 11), (4, 3, .t 12)])⟩,
  ⟨some 14, none, .op (.bfz 2 7 [.s [], .sl none 0 0, .sl none 0 0, .sl none 0 0, .sl none 0 0, .sl none 0 0, .sl none 0 0] [(0, 7, .t 10), (7, 7, .t 13)])⟩,
  ⟨some 15, none, .call n_symbols_Resolve [.t 14]⟩,
  ⟨some 7, none, .op (.mov (.t 15))⟩,
  ⟨some 16, none, .op (.ext 0 (.t 7))⟩,
  ⟨some 17, none, .op (.ext 1 (.t 7))⟩,
  ⟨some 18, none, .op (.ext 2 (.t 7))⟩,
  ⟨some 1, none, .op (.mov (.t 16))⟩,
  ⟨some 2, none, .op (.mov (.t 17))⟩,
  ⟨some 3, none, .op (.mov (.t 18))⟩]
def weftlaw28_worksI.r2 : List AStep := [
  ⟨some 20, none, .op (.bfz 1 1 [.s []] [(0, 1, .c (.s [102, 40, 41]))])⟩,
  ⟨some 21, none, .call n_weftlaw28_sys [.c (.s [102, 40, 41])]⟩,
  ⟨some 22, none, .op (.build [.s [], .fs [], .fs [], .fs [], .fs [], .fs [], .fs []] [(0, 1, .c (.s [110])), (2, 1, .t 20), (4, 3, .t 21)])⟩,
  ⟨some 23, none, .op (.bfz 1 7 [.s [], .sl none 0 0, .sl none 0 0, .sl none 0 0, .sl none 0 0, .sl none 0 0, .sl none 0 0] [(0, 7, .t 22)])⟩,
  ⟨some 24, none, .call n_symbols_Resolve [.t 23]⟩,
  ⟨some 19, none, .op (.mov (.t 24))⟩,
  ⟨some 25, none, .op (.ext 0 (.t 19))⟩,
  ⟨some 26, none, .op (.ext 1 (.t 19))⟩,
  ⟨some 27, none, .op (.ext 2 (.t 19))⟩,
  ⟨some 4, none, .op (.mov (.t 25))⟩,
  ⟨some 5, none, .op (.mov (.t 26))⟩,
  ⟨some 6, none, .op (.mov (.t 27))⟩]
def weftlaw28_worksI.r3 : List AStep := [
  ⟨some 28, none, .op (.mov (.t 3))⟩,
  ⟨some 29, none, .op (.bin .eql (.t 28) (.c (.i .i64 0)))⟩,
  ⟨some 30, none, .op (.mov (.t 29))⟩,
  ⟨some 31, (some (30, true)), .op (.mov (.t 1))⟩,
  ⟨some 32, (some (30, true)), .op (.len false (.t 31))⟩,
  ⟨some 33, (some (30, true)), .op (.bin .eql (.t 32) (.c (.i .i64 1)))⟩,
  ⟨some 34, none, .op (.pick (.t 30) (.t 33) (.c (.b false)))⟩,
  ⟨some 35, none, .op (.mov (.t 34))⟩,
  ⟨some 36, (some (35, true)), .op (.mov (.t 1))⟩,
  ⟨some 37, (some (35, true)), .op (.iad 3 (.t 36) (.c (.i .i64 0)))⟩,
  ⟨some 38, (some (35, true)), .op (.fadr 0 (.t 37))⟩,
  ⟨some 39, (some (35, true)), .op (.load false 1 (.t 38))⟩,
  ⟨some 40, (some (35, true)), .op (.bin .eql (.t 39) (.c (.s [102, 40, 41])))⟩,
  ⟨some 41, none, .op (.pick (.t 35) (.t 40) (.c (.b false)))⟩,
  ⟨some 42, none, .op (.mov (.t 41))⟩,
  ⟨some 43, (some (42, true)), .op (.mov (.t 1))⟩,
  ⟨some 44, (some (42, true)), .op (.iad 3 (.t 43) (.c (.i .i64 0)))⟩,
  ⟨some 45, (some (42, true)), .op (.fadr 1 (.t 44))⟩,
  ⟨some 46, (some (42, true)), .op (.load false 1 (.t 45))⟩,
  ⟨some 47, (some (42, true)), .op (.bin .eql (.t 46) (.c (.s [109])))⟩,
  ⟨some 48, none, .op (.pick (.t 42) (.t 47) (.c (.b false)))⟩,
  ⟨some 49, none, .op (.mov (.t 48))⟩,
  ⟨some 50, (some (49, true)), .op (.mov (.t 1))⟩,
  ⟨some 51, (some (49, true)), .op (.iad 3 (.t 50) (.c (.i .i64 0)))⟩,
  ⟨some 52, (some (49, true)), .op (.fadr 2 (.t 51))⟩,
  ⟨some 53, (some (49, true)), .op (.load false 1 (.t 52))⟩,
  ⟨some 54, (some (49, true)), .op (.bfz 1 1 [.s []] [(0, 1, .c (.s [110]))])⟩,
  ⟨some 55, (some (49, true)), .call n_weftref05_Same [.t 53, .t 54]⟩,
  ⟨some 56, none, .op (.pick (.t 49) (.t 55) (.c (.b false)))⟩,
  ⟨some 57, none, .op (.mov (.t 56))⟩,
  ⟨some 58, (some (57, true)), .op (.mov (.t 5))⟩,
  ⟨some 59, (some (57, true)), .op (.bin .eql (.t 58) (.c (.s [102, 40, 41])))⟩,
  ⟨some 60, none, .op (.pick (.t 57) (.t 59) (.c (.b false)))⟩,
  ⟨some 61, none, .op (.mov (.t 60))⟩,
  ⟨some 62, (some (61, true)), .op (.mov (.t 6))⟩,
  ⟨some 63, (some (61, true)), .op (.bin .eql (.t 62) (.c (.i .i64 7)))⟩,
  ⟨some 64, none, .op (.pick (.t 61) (.t 63) (.c (.b false)))⟩,
  ⟨some 0, none, .op (.mov (.t 64))⟩]
def weftlaw28_worksI : AFunc := ⟨65, [.t 0], .seq (.post [] (.region weftlaw28_worksI.r0)) (.seq (.post [1, 3] (.region weftlaw28_worksI.r1)) (.seq (.post [1, 3, 5, 6] (.region weftlaw28_worksI.r2)) (.seq (.post [0] (.region weftlaw28_worksI.r3)) (.ret))))⟩
theorem weftlaw28_worksI.ok : okFunc Tryz.prog Tryz.f9 weftlaw28_worksI = true := by kernel_rfl
theorem weftlaw28_worksI.at : Tryz.prog.funcs[n_weftlaw28_works]? = some Tryz.f9 := Tryz.func9
end C
end Go.Proofs.YtjajpilacdfnbaaGreatDoor
